/- Contracts and plain laws that the statement rests on, part 4. Conditions: as each says. -/
import Derived.Test.YtlkjjgmfhafnaabGreatDoorT3
set_option linter.unusedVariables false
set_option linter.unusedSimpArgs false
namespace Go.E
set_option maxRecDepth 20000
set_option maxHeartbeats 2000000
open Go.Proofs
variable {G : Gh}
theorem oP {α : Type} [Inhabited α] {p : α → Bool} : ∀ {l : List α} {i : Nat},i < l.length → (∀ k,k < i → p (ac l k) = false) → p (ac l i) = true → l.find? p = some (ac l i)
 | [],i,hi,_,_=>by simp at hi
 | a :: l,0,_,_,h=>by
  have h : p a = true:=h
  rw [List.find?_cons,h];rfl
 | a :: l,i + 1,hi,hno,h=>by
  have h0 : p a = false:=hno 0 oM
  rw [List.find?_cons,h0]
  exact oP (l:=l) (i:=i) (by simpa using hi) (fun k hk=>hno (k + 1) oM) h
theorem sd {α : Type} [Inhabited α] {p : α → Bool} {l : List α} (hno : ∀ k,k < l.length → p (ac l k) = false) : l.find? p = none:=by
 rw [List.find?_eq_none]
 intro x hx
 obtain ⟨i,hi,rfl⟩:=List.mem_iff_getElem.1 hx
 have:=hno i hi
 rw [ck hi] at this
 simp [this]
theorem r9 {fs : List Fld} {tag : Int} {i : Nat} (hi : i < fs.length) (hno : ∀ k,k < i → (ac fs k).tag ≠ tag) (h : (ac fs i).tag = tag) : bZ fs tag = some (ac fs i) :=
 oP hi (fun k hk=>by simpa using hno k hk) (by simpa using h)
theorem xx {fs : List Fld} {tag : Int} (hno : ∀ k,k < fs.length → (ac fs k).tag ≠ tag) : bZ fs tag = none:=sd fun k hk=>by simpa using hno k hk
theorem cV {fs : List Fld} {tag : Int} {f : Fld} (h : bZ fs tag = some f) : ∃ i,i < fs.length ∧ (∀ k,k < i → (ac fs k).tag ≠ tag) ∧ (ac fs i).tag = tag ∧ ac fs i = f:=by
 have hex : ∃ i,i < fs.length ∧ (ac fs i).tag = tag:=by
  have hm:=List.mem_of_find?_eq_some h
  have ht:=List.find?_some h
  obtain ⟨i,hi,rfl⟩:=List.mem_iff_getElem.1 hm
  exact ⟨i,hi,by rw [ck hi];simpa using ht⟩
 obtain ⟨i,hi,ht⟩:=hex
 induction i using Nat.strongRecOn with
 | _ i ih =>
  by_cases hc : ∃ k,k < i ∧ (ac fs k).tag = tag
  ·obtain ⟨k,hk,hkt⟩:=hc
   exact ih k hk oM hkt
  ·have hno : ∀ k,k < i → (ac fs k).tag ≠ tag:=fun k hk e=>hc ⟨k,hk,e⟩
   refine ⟨i,hi,hno,ht,?_⟩
   rw [r9 hi hno ht] at h
   exact Option.some.inj h
abbrev zF : Fld:=⟨0,[],[],[]⟩
abbrev zQ : TypeId:=112
abbrev aa4 : TypeId:=110
theorem wi {x : cW} {tag : Int} (hf : bh G (iB x) 4 x.2.fields.length (ao cF x.2.fields)) (hl : x.2.fields.length ≤ 1000) :
  aI abt 185 [Ag [U8 x.2.sort,S x.2.name,iB x],I tag] G (· = Tu [Ag (cF ((bZ x.2.fields tag).getD zF)),Bo (bZ x.2.fields tag).isSome]):=by
 obtain ⟨⟨a,ca⟩,t⟩:=x
 simp only [iB] at hf ⊢
 dsimp only at hl
 refine jE [(0,_),(1,_)] Tryz.func185 Tryz.ntmps185 fun B hB=>?_
 repeat' (first | refine jR ?_ | (refine jo ?_;first | refine jO fun _=>?_ | refine jL fun _=>?_))
 rename_i y z
 refine aU (ι:=Nat) (fun i=>i ≤ t.fields.length ∧ ∀ k,k < i → (ac t.fields k).tag ≠ tag) (fun i=>[(1,I tag),(2,Pt y 0),(4,Pt z 0),(6,I i)]) (fun _=>G) (fun i=>[.blk z (.cells [I 0,S [],S [],S []].toArray zQ (0,0)),.blk y (.cells [U8 t.sort,S t.name,.slice a t.fields.length ca].toArray aa4 (0,0))]) (fun i=>t.fields.length - i) 0 ?_ tU F a6 (fun i Hi=>?_)
 ·exact ⟨Nat.zero_le _,fun k hk=>absurd hk oM⟩
 by_cases hi : i < t.fields.length
 ·obtain ⟨bf,of,cf,e,hs⟩:=hf.expl oM
  simp only [Value.slice.injEq] at e
  obtain ⟨rfl,-,rfl⟩:=e
  repeat' (first | refine jM ?_ | (refine jo ?_;first | refine ah F ?_ | (refine jV (bz F F aS ?_) ?_;focus omega) | (refine jV (bq F F aS ?_ F F) ?_;focus omega) | refine jV (aq F) ?_ | refine jV (al F F oM) ?_ | refine jC F F F ?_) | refine ae F (aC oM) ?_ | refine cJ F (fun _=>?_) (fun _=>?_))
  ·rename_i he
   refine jZ (vs:=[_,_]) F ⟨aw F F F F,F,trivial⟩ F ⟨F,F,?_⟩
   rw [r9 hi Hi.2 he];rfl
  ·rename_i he
   refine aT (i + 1) ⟨oM,fun k hk=>?_⟩ oM tU F a6
   rcases Nat.lt_or_ge k i with h3 | h3
   ·exact Hi.2 k h3
   ·have : k = i:=oM
    subst this;exact he
 ·repeat' (first | refine jR ?_ | (refine jo ?_;first | refine ah F ?_ | refine jV (aq F) ?_ | refine jC F F F ?_ | refine jV (am F F) ?_) | refine af F (aF oM) ?_)
  refine jZ (vs:=[_,_]) F ⟨aw F F F F,F,trivial⟩ F ⟨F,F,?_⟩
  rw [xx fun k hk=>Hi.2 k oM];rfl
theorem dF {b : Nat} {t : Ty} {fv : Value} {ln : abu} {tag : Int} (hs : bN G b 0 [U8 t.sort,S t.name,fv,S ln]) (hf : bh G fv 6 t.fields.length (ao iK t.fields)) (hl : t.fields.length ≤ 1000) (h : bZ t.fields tag = none) :
  aI abt 130 [Pt b 0,I tag] G (· = .pointer none):=by
 have hno : ∀ k,k < t.fields.length → (ac t.fields k).tag ≠ tag:=fun k hk e=>by
  have h1:=List.find?_eq_none.1 h (ac t.fields k) (a7 hk)
  exact h1 (by simpa using e)
 refine jE [(0,_),(1,_)] Tryz.func130 Tryz.ntmps130 fun B hB=>?_
 repeat' (first | refine jR ?_ | (refine jo ?_;first | refine jV (ay F F aS F F) ?_ | refine jV (dc F aS) ?_))
 refine aU (ι:=Nat) (fun i=>i ≤ t.fields.length) (fun i=>[(0,Pt b 0),(1,I tag),(10,I t.fields.length),(11,I i)]) (fun _=>G) (fun i=>[]) (fun i=>t.fields.length - i) 0 ?_ tU F a6 (fun i Hi=>?_)
 ·exact Nat.zero_le _
 by_cases hi : i < t.fields.length
 ·obtain ⟨bf,of,cf,rfl,hsf⟩:=hf.expl oM
  have h2:=hno i hi
  repeat' (first | refine jM ?_ | (refine jo ?_;first | (refine jV (bq F F aS ?_ F F) ?_;focus omega) | refine jV (ay F F aS F F) ?_ | refine jV (al F F oM) ?_) | refine ae F (aC oM) ?_ | refine af F (aF ‹_›) ?_)
  exact aT (i + 1) oM oM tU F a6
 ·repeat' (first | refine jR ?_ | refine af F (aF oM) ?_)
  refine jY (vs:=[_]) ?_
  rfl
theorem dE {b bf of cf j : Nat} {t : Ty} {ln : abu} {tag : Int} (hs : bN G b 0 [U8 t.sort,S t.name,.slice (some ⟨bf,of,none⟩) t.fields.length cf,S ln]) (hsf : bN G bf of (ao iK t.fields)) (hl : t.fields.length ≤ 1000) (hj : j < t.fields.length) (hno : ∀ k,k < j → (ac t.fields k).tag ≠ tag) (hat : (ac t.fields j).tag = tag) :
  aI abt 130 [Pt b 0,I tag] G (· = Pt bf (of + j * 6)):=by
 refine jE [(0,_),(1,_)] Tryz.func130 Tryz.ntmps130 fun B hB=>?_
 repeat' (first | refine jR ?_ | (refine jo ?_;first | refine jV (ay F F aS F F) ?_ | refine jV (aq F) ?_))
 refine aU (ι:=Nat) (fun i=>i ≤ j) (fun i=>[(0,Pt b 0),(1,I tag),(10,I t.fields.length),(11,I i)]) (fun _=>G) (fun i=>[]) (fun i=>t.fields.length - i) 0 ?_ tU F a6 (fun i Hi=>?_)
 ·exact Nat.zero_le _
 by_cases hij : i = j
 ·subst hij
  repeat' (first | refine jR ?_ | (refine jo ?_;first | (refine jV (bq F F aS ?_ F F) ?_;focus omega) | refine jV (ay F F aS F F) ?_ | refine jV (al F F oM) ?_) | (refine ae F (by refine decide_eq_true ?_;first | assumption | omega) ?_))
  all_goals refine jY (vs:=[_]) ?_
  all_goals rfl
 ·have h2:=hno i oM
  repeat' (first | refine jM ?_ | (refine jo ?_;first | (refine jV (bq F F aS ?_ F F) ?_;focus omega) | refine jV (ay F F aS F F) ?_ | refine jV (al F F oM) ?_) | refine ae F (aC oM) ?_ | refine af F (aF ‹_›) ?_)
  exact aT (i + 1) oM oM tU F a6
theorem qT {u : Value} {vs : List cW} {f : Fld} (h : SchR G u vs) (hw : SchW (aQ vs)) (hk : aJ (aQ vs) f.kind = true) :
  aI abt 142 [u,Ag [I f.tag,S f.name,S f.kind,S f.stand]] G (· = S (cx (aQ vs) f)):=by
 have cx_std:=uU h hw hk
 unfold cx
 by_cases hs : f.stand = []
 ·rw [if_pos hs,hs]
  refine jE [(0,_),(1,_)] Tryz.func142 Tryz.ntmps142 fun B hB=>?_
  repeat' (first | refine jR ?_ | (refine jo ?_;first | refine jO fun _=>?_ | refine ah F ?_ | refine ad F F F cx_std F ?_) | refine af F F ?_)
  all_goals refine jY (vs:=[_]) ?_
  all_goals rfl
 ·rw [if_neg hs]
  refine jE [(0,_),(1,_)] Tryz.func142 Tryz.ntmps142 fun B hB=>?_
  repeat' (first | refine jR ?_ | (refine jo ?_;first | refine jO fun _=>?_ | refine ah F ?_) | refine ae F (aC ‹_›) ?_)
  all_goals refine jY (vs:=[_]) ?_
  all_goals rfl
theorem pQ {b bf of j : Nat} {qs : List b8} {fs : List Fld} (h : ScI G b qs) (hw : SchW (ag qs)) (hsf : bN G bf of (ao iK fs)) (hj : j < fs.length) (hk : aJ (ag qs) (ac fs j).kind = true) :
  aI abt 131 [Pt b 0,Pt bf (of + j * 6)] G (· = S (cx (ag qs) (ac fs j))):=by
 have cx_std:=pH h hw hk
 unfold cx
 by_cases hs : (ac fs j).stand = []
 ·rw [if_pos hs]
  have hs2 : ¬ (ac fs j).stand ≠ []:=fun h=>h hs
  refine jE [(0,_),(1,_)] Tryz.func131 Tryz.ntmps131 fun B hB=>?_
  repeat' (first | refine jR ?_ | (refine jo ?_;first | (refine jV (bq F F aS ?_ F F) ?_;focus omega) | (refine jV (du F F aS ?_ F F) ?_;focus omega) | refine ad F F F cx_std F ?_) | refine af F (aF ‹_›) ?_)
  all_goals refine jY (vs:=[_]) ?_
  all_goals rfl
 ·rw [if_neg hs]
  refine jE [(0,_),(1,_)] Tryz.func131 Tryz.ntmps131 fun B hB=>?_
  repeat' (first | refine jR ?_ | (refine jo ?_;(refine jV (bq F F aS ?_ F F) ?_;focus omega)) | refine ae F (aC ‹_›) ?_)
  all_goals refine jY (vs:=[_]) ?_
  all_goals rfl
abbrev hX : TypeId:=83
abbrev yg : TypeId:=9
theorem fm {w : Nat} {x : abu} {t : Int} {ks : List V} : V.tot (.nd w x t ks) = 20 + x.length + V.tots ks:=by rw [V.tot]
theorem kq : ∀ (n : Nat) {v : V} {c : VC},v.tot ≤ n → v.tot ≤ 1000000 → V.rep G v c → aI abt 55 [Ag (bE c)] G (· = S v.out):=by
 intro n
 induction n with
 | zero=>intro v c h1 _ _;have:=im v;omega
 | succ n ih =>
  intro v c h1 h2 h
  obtain ⟨w,x,t,ks⟩:=v
  rw [fm] at h1 h2
  obtain ⟨a,k,cs,rfl,hw,ht,h61,hcl,hsl,hks⟩:=ip h
  have hkl:=e7 ks
  have hol:=qj ks
  have hjl:=m0 hks
  have hj2:=jf 44 (V.outs ks)
  rw [hol] at hj2
  simp only [bE,VC.sl]
  refine jB (Post:=fun v G' L'=>G' = G ∧ L' = [] ∧ _) [(0,_)] Tryz.func55 Tryz.ntmps55 fun B hok hB hW=>?_
  repeat' (first | refine jR ?_ | (refine jo ?_;first | refine jO fun _=>?_ | refine ah F ?_ | refine jV (aq F) ?_))
  rename_i bv
  refine Nx.addNil yg 1 ?_
  refine aU (ι:=Nat × Value) (fun q=>q.1 ≤ ks.length) (fun q=>[(1,Pt bv 0),(2,S []),(3,q.2),(8,.slice a ks.length k),(9,I ks.length),(10,I q.1)]) (fun _=>G) (fun q=>[.acc q.2 yg 1 q.1 (ao cr ((V.outs ks).take q.1)),.blk bv (.cells (List.toArray [U8 w,S x,I t,.slice a ks.length k]) hX (0,0))]) (fun q=>ks.length - q.1) (0,aA) ?_ tU F a6 (fun q Hq=>?_)
  ·exact Nat.zero_le _
  obtain ⟨i,pv⟩:=q
  dsimp only at Hq ⊢
  by_cases hi : i < ks.length
  ·have hti:=mg hi
   have cx_pr:=ih oM oM (iE hks i hi)
   obtain ⟨bf,of,cf,e,hs⟩:=hsl.expl oM
   simp only [Value.slice.injEq] at e
   obtain ⟨rfl,-,rfl⟩:=e
   repeat' (first | refine jM ?_ | (refine jo ?_;first | (refine jV (bz F F aS ?_) ?_;focus omega) | refine aK F ?_ | refine jV (al F F oM) ?_ | refine jL fun _=>?_ | refine jC F F F ?_ | refine jF fun _=>?_ | refine bj F F F F F F F F F oM fun _ _=>?_ | refine ad F F F cx_pr F ?_) | refine ae F (aC oM) ?_)
   have e2 : ao cr ((V.outs ks).take i) ++ [S (ac ks i).out] = ao cr ((V.outs ks).take (i + 1)):=by rw [fU oM,cn,qk hi];rfl
   rw [e2]
   exact aT (i + 1,_) (by dsimp only;omega) (by dsimp only;omega) tU rfl sB
  ·have hin : i = ks.length:=oM
   subst hin
   refine Nx.sealA .here fun G1 hG1 hsP=>?_
   rw [← hol,List.take_length] at hsP
   have cx_join:=zB (c:=44) hsP oM
   have hd:=kW ht.2
   have hE : ks.isEmpty = decide (ks.length = 0):=by cases ks <;> simp
   repeat' (first | refine jX ?_ | (refine jo ?_;first | refine ah F ?_ | refine jV (aq F) ?_ | refine ad F F F cx_join F ?_ | refine ad F F F (fJ oM) F ?_) | refine af F (aF oM) ?_ | refine cJ F (fun _=>?_) (fun _=>?_))
   all_goals refine Nx.base hok hB ?_
   all_goals refine jY (vs:=[_]) ?_
   all_goals (rw [aE,V.out,hE];unfold d6;simp only [decide_eq_true_eq];repeat (first | rw [if_pos oM] | rw [if_neg oM]))
   all_goals (first | rfl | (simp;done))
theorem uP {x : abu} {t : Int} {u : V} : V.deep (.nd 61 x t [u]) = u.deep:=by rw [V.deep,if_pos rfl,V.deeps,V.deeps,Nat.max_zero]
theorem n4 (v : V) : ∀ (ks : List V),V.deeps (ks ++ [v]) = max (V.deeps ks) v.deep
 | []=>by simp [V.deeps]
 | u :: r=>by simp only [List.cons_append,V.deeps,n4 v r];omega
mutual
theorem nf : ∀ v : V,v.deep ≤ v.tot
 | .nd w x t ks=>by
  have:=lS ks
  rw [V.deep,V.tot];split <;> omega
theorem lS : ∀ ks : List V,V.deeps ks ≤ V.tots ks
 | []=>by simp [V.deeps]
 | v :: r=>by
  have:=nf v
  have:=lS r
  rw [V.deeps,V.tots];omega
end
theorem u7 : ∀ (n : Nat) {v : V} {c : VC},v.tot ≤ n → v.tot ≤ 1000000 → V.rep G v c → aI abt 127 [Ag (bE c)] G (· = I (v.deep : Nat)):=by
 intro n
 induction n with
 | zero=>intro v c h1 _ _;have:=im v;omega
 | succ n ih =>
  intro v c h1 h2 h
  obtain ⟨w,x,t,ks⟩:=v
  rw [fm] at h1 h2
  obtain ⟨a,k,cs,rfl,hw,ht,h61,hcl,hsl,hks⟩:=ip h
  have hkl:=e7 ks
  simp only [bE,VC.sl]
  by_cases hq : w = 61
  ·have hk1:=h61 hq
   have hti:=mg (ks:=ks) (i:=0) oM
   have cx_dp:=ih oM oM (iE hks 0 oM)
   obtain ⟨bf,of,cf,e,hs⟩:=hsl.expl oM
   simp only [Value.slice.injEq] at e
   obtain ⟨rfl,-,rfl⟩:=e
   refine jE [(0,_)] Tryz.func127 Tryz.ntmps127 fun B hB=>?_
   repeat' (first | refine jR ?_ | (refine jo ?_;first | refine jO fun _=>?_ | refine ah F ?_ | (refine jV (bz F F aS ?_) ?_;focus omega) | refine jV (aZ F F oM) ?_ | refine ad F F F cx_dp F ?_) | refine ae F (aC oM) ?_)
   refine jY (vs:=[_]) ?_
   rw [aE]
   obtain ⟨u,rfl⟩:=List.length_eq_one_iff.1 hk1
   subst hq
   rw [uP];rfl
  ·rw [cj hq]
   refine jE [(0,_)] Tryz.func127 Tryz.ntmps127 fun B hB=>?_
   repeat' (first | refine jR ?_ | (refine jo ?_;first | refine jO fun _=>?_ | refine ah F ?_ | refine jV (aq F) ?_) | refine af F (aF oM) ?_)
   rename_i bv
   refine Nx.re (d:=3) (v':=I (V.deeps (ks.take 0) : Nat)) F F ?_
   refine aU (ι:=Nat) (fun i=>i ≤ ks.length) (fun i=>[(3,I (V.deeps (ks.take i) : Nat)),(15,.slice a ks.length k),(16,I ks.length),(17,I i)]) (fun _=>G) (fun i=>[]) (fun i=>ks.length - i) 0 ?_ tU F (by repeat (exact List.nil_sublist _)) (fun i Hi=>?_)
   ·exact Nat.zero_le _
   by_cases hi : i < ks.length
   ·have hti:=mg hi
    have cx_dp:=ih oM oM (iE hks i hi)
    obtain ⟨bf,of,cf,e,hs⟩:=hsl.expl oM
    simp only [Value.slice.injEq] at e
    obtain ⟨rfl,-,rfl⟩:=e
    repeat' (first | refine jM ?_ | (refine jo ?_;first | (refine jV (bz F F aS ?_) ?_;focus omega) | refine aK F ?_ | refine jV (al F F oM) ?_ | refine jL fun _=>?_ | refine jC F F F ?_ | refine jV (aag F F) ?_ | refine ad F F F cx_dp F ?_) | refine ae F (aC oM) ?_)
    refine Nx.re (d:=3) (v':=I (V.deeps (ks.take (i + 1)) : Nat)) F (congrArg (Value.int .i64) (by rw [fU hi,n4];omega)) ?_
    exact aT (i + 1) oM oM tU F (by repeat (exact List.nil_sublist _))
   ·have hin : i = ks.length:=oM
    subst hin
    rw [List.take_length]
    have hdt:=lS ks
    repeat' (first | refine jM ?_ | refine af F (aF oM) ?_)
    refine jY (vs:=[_]) ?_
    rw [aE];congr 1
abbrev aa8 : TypeId:=170
theorem rn {s p : abu} (hs : s.length ≤ 1000000 ∧ p.length ≤ 1000000) : aI abt 212 [S s,S p] G (· = Tu [S (if p.isPrefixOf s = true then s.drop p.length else s),Bo (p.isPrefixOf s)]):=by
 have cx_hp : aI abt 164 [S s,S p] G (· = Bo (p.isPrefixOf s)):=gA
 cases hp : p.isPrefixOf s with
 | false =>
  rw [hp] at cx_hp
  refine jE [(0,_),(1,_)] Tryz.func212 Tryz.ntmps212 fun B hB=>?_
  repeat' (first | refine jR ?_ | (refine jo ?_;refine ad F F F gA F ?_) | (refine ae F ?_ ?_;(focus ((simp [*];done);done))))
  refine jY (vs:=[_,_]) ?_
  rfl
 | true =>
  rw [hp] at cx_hp
  have hl : p.length ≤ s.length:=by
   have:=List.isPrefixOf_iff_prefix.1 hp
   exact this.length_le
  refine jE [(0,_),(1,_)] Tryz.func212 Tryz.ntmps212 fun B hB=>?_
  repeat' (first | refine jM ?_ | (refine jo ?_;refine ad F F F gA F ?_) | (refine af F ?_ ?_;(focus ((simp [*];done);done))))
  refine jY (vs:=[_,_]) ?_
  rfl
theorem rG {s p : abu} (hs : s.length ≤ 1000000 ∧ p.length ≤ 1000000) : aI abt 190 [S s,S p] G (· = Tu [S (if p.isPrefixOf s = true then s.drop p.length else s),Bo (p.isPrefixOf s)]):=by
 have cx_cp:=rn (G:=G) hs
 refine jE [(0,_),(1,_)] Tryz.func190 Tryz.ntmps190 fun B hB=>?_
 repeat' (first | refine jR ?_ | (refine jo ?_;refine ad F F F cx_cp F ?_))
 refine jY (vs:=[_,_]) ?_
 rfl
def cG (l s : abu) (b : Bool) : Bool:=!b && l.isPrefixOf s
def dz (l s : abu) (b : Bool) : abu:=if cG l s b = true then s.drop l.length else s
abbrev dH (r sc : Nat) (s : abu) (b : Bool) : Own:=.blk r (.cells (List.toArray [Pt sc 0,S s,Bo b]) aa8 (0,0))
theorem gu {r sc : Nat} {s l : abu} {b : Bool} (hs : s.length ≤ 1000000 ∧ l.length ≤ 1000000) : b6 abt 167 [Pt r 0,S l] G [dH r sc s b] (fun v L'=>v = Bo (cG l s b) ∧ L' = [dH r sc (dz l s b) b]):=by
 have cx_cp:=rG (G:=G) hs
 unfold dz cG
 cases hp : l.isPrefixOf s with
 | false =>
  rw [hp] at cx_cp
  refine jH [(0,_),(1,_)] Tryz.func167 Tryz.ntmps167 fun B hB hW=>?_
  repeat' (first | refine jR ?_ | (refine jo ?_;first | refine ah F ?_ | refine aH F ?_ | refine ad F F F cx_cp F ?_) | refine aD F F F ?_ | refine af F F ?_)
  exact aN (vs:=[_]) F ⟨F,trivial⟩ F (List.Sublist.refl _) ⟨F,by cases b <;> rfl,by cases b <;> rfl⟩
 | true =>
  rw [hp] at cx_cp
  cases b with
  | true =>
   refine jH [(0,_),(1,_)] Tryz.func167 Tryz.ntmps167 fun B hB hW=>?_
   repeat' (first | refine jR ?_ | (refine jo ?_;first | refine ah F ?_ | refine aP F ?_ | refine ad F F F cx_cp F ?_) | refine aO F F F ?_ | refine af F F ?_)
   exact aN (vs:=[_]) F ⟨F,trivial⟩ F (List.Sublist.refl _) ⟨F,F,F⟩
  | false =>
   refine jH [(0,_),(1,_)] Tryz.func167 Tryz.ntmps167 fun B hB hW=>?_
   repeat' (first | refine jR ?_ | (refine jo ?_;first | refine ah F ?_ | refine aP F ?_ | refine jD F F F ?_ | refine ad F F F cx_cp F ?_) | refine aO F F F ?_ | refine ae F F ?_)
   exact aN (vs:=[_]) F ⟨F,trivial⟩ F (List.Sublist.refl _) ⟨F,F,F⟩
theorem c8 {r sc : Nat} {s l : abu} {b : Bool} (hs : s.length ≤ 1000000 ∧ l.length ≤ 1000000) : b6 abt 168 [Pt r 0,S l] G [dH r sc s b] (fun v L'=>L' = [dH r sc (dz l s b) (!cG l s b)]):=by
 have cx_tk:=gu (G:=G) (r:=r) (sc:=sc) (b:=b) hs
 cases ht : cG l s b with
 | false =>
  rw [ht] at cx_tk
  refine jH [(0,_),(1,_)] Tryz.func168 Tryz.ntmps168 fun B hB hW=>?_
  repeat' (first | refine jR ?_ | (refine jo ?_;first | refine jD F F F ?_ | (refine ai F F F cx_tk F ?_;rintro _ _ ⟨rfl,rfl⟩;dsimp only [zA,fA])) | refine ae F F ?_)
  exact m7 (vs:=[]) F trivial F (List.Sublist.refl _) ⟨F,F⟩
 | true =>
  have hb : b = false:=by unfold cG at ht;cases b <;> simp_all
  subst hb
  rw [ht] at cx_tk
  refine jH [(0,_),(1,_)] Tryz.func168 Tryz.ntmps168 fun B hB hW=>?_
  repeat' (first | refine jR ?_ | (refine jo ?_;(refine ai F F F cx_tk F ?_;rintro _ _ ⟨rfl,rfl⟩;dsimp only [zA,fA])) | refine af F F ?_)
  exact m7 (vs:=[]) F trivial F (List.Sublist.refl _) ⟨F,F⟩
theorem kB {p : Nat → Bool} {q : UInt8 → Bool} (h : ∀ c : UInt8,p c.toNat = q c) : ∀ s : abu,c5 p s = s.dropWhile q
 | []=>rfl
 | c :: r=>by
  rw [c5,h c,List.dropWhile_cons]
  cases q c with
  | true=>simp only [if_true];exact kB h r
  | false=>simp
theorem zg : ∀ c : UInt8,eF [48,49,50,51,52,53,54,55,56,57] c.toNat = br c:=by
 intro c
 have : ∀ n : Nat,n < 256 → eF [48,49,50,51,52,53,54,55,56,57] n = decide (48 ≤ n ∧ n ≤ 57):=by decide +kernel
 exact this _ c.toNat_lt
def txB : abu:=[97,98,99,100,101,102,103,104,105,106,107,108,109,110,111,112,113,114,115,116,117,118,119,120,121,122,48,49,50,51,52,53,54,55,56,57,32]
def cK (c : UInt8) : Bool:=decide (ia c.toNat)
theorem yb : ∀ c : UInt8,eF txB c.toNat = cK c:=by
 intro c
 have : ∀ n : Nat,n < 256 → eF txB n = decide (ia n):=by decide +kernel
 exact this _ c.toNat_lt
theorem iY (q : UInt8 → Bool) (s : abu) : s.take (s.length - (s.dropWhile q).length) = s.takeWhile q:=by
 have h:=List.takeWhile_append_dropWhile (p:=q) (l:=s)
 have hl : (s.takeWhile q).length + (s.dropWhile q).length = s.length:=by
  have:=congrArg List.length h
  rwa [List.length_append] at this
 have e : s.length - (s.dropWhile q).length = (s.takeWhile q).length:=oM
 rw [e]
 have h2 : (s.takeWhile q ++ s.dropWhile q).take (s.takeWhile q).length = s.takeWhile q:=List.take_left
 rwa [h] at h2
theorem eZ (q : UInt8 → Bool) (s : abu) : (s.takeWhile q).length + (s.dropWhile q).length = s.length:=by
 have h:=List.takeWhile_append_dropWhile (p:=q) (l:=s)
 have:=congrArg List.length h
 rwa [List.length_append] at this
theorem oD (x : abu) : dn (39 :: (x ++ [39])) = true ↔ x.length ≤ 12 ∧ ∀ c ∈ x,cK c = true:=by
 unfold dn
 rw [decide_eq_true_eq]
 unfold wS
 have e0 : bt (39 :: (x ++ [39])) 0 = 39:=dk _ _
 have e1 : (39 :: (x ++ [39]) : abu).length = x.length + 2:=by simp
 have e2 : bt (39 :: (x ++ [39])) (x.length + 1) = 39:=by
  rw [d9];simp [bt]
 have e3 : ∀ i,i < x.length → bt (39 :: (x ++ [39])) (i + 1) = bt x i:=fun i hi=>by
  rw [d9];simp [bt,List.getD,List.getElem?_append_left hi]
 rw [e1,show x.length + 2 - 1 = x.length + 1 by omega]
 constructor
 ·rintro ⟨⟨_,h1⟩,_,_,h2⟩
  refine ⟨oM,fun c hc=>?_⟩
  obtain ⟨i,hi,rfl⟩:=List.mem_iff_getElem.1 hc
  have:=h2 (i + 1) oM
  rw [e3 i hi] at this
  have h3 : bt x i = (x[i]).toNat:=by simp [bt,List.getD,List.getElem?_eq_getElem hi]
  rw [h3] at this
  unfold cK
  rw [decide_eq_true_eq]
  rcases this with h | h
  ·omega
  ·exact h
 ·rintro ⟨h1,h2⟩
  refine ⟨⟨oM,oM⟩,e0,e2,fun i hi=>?_⟩
  cases i with
  | zero=>exact .inl F
  | succ i =>
   have hi' : i < x.length:=oM
   rw [e3 i hi']
   have h3 : bt x i = (x[i]).toNat:=by simp [bt,List.getD,List.getElem?_eq_getElem hi']
   rw [h3]
   have:=h2 _ (List.getElem_mem hi')
   unfold cK at this
   rw [decide_eq_true_eq] at this
   exact .inr this
theorem yz {c : UInt8} (h : c.toNat = 39) : cK c = false:=by
 have : c = 39:=UInt8.toNat_inj.1 h
 subst this;decide
theorem uo (s : abu) : dI s = match s with
  | []=>none
  | c :: r=>if c.toNat = 39 then (match r.dropWhile cK with
   | []=>none
   | d :: t=>if d.toNat = 39 ∧ (r.takeWhile cK).length ≤ 12 then some (.nd 116 (r.takeWhile cK) 0 [],t) else none) else none:=by
 cases s with
 | nil=>rfl
 | cons c r =>
  unfold dI
  dsimp only
  by_cases hc : c.toNat = 39
  ·rw [if_pos hc,if_pos hc]
   have hcut : ∀ r : abu,aB 39 r = match r.dropWhile cK with
    | []=>(r,[],false)
    | d :: t=>if d.toNat = 39 then (r.takeWhile cK,t,true) else (r.takeWhile cK ++ (aB 39 (d :: t)).1,(aB 39 (d :: t)).2):=by
    intro r
    induction r with
    | nil=>rfl
    | cons x r ih =>
     rw [List.dropWhile_cons,List.takeWhile_cons]
     by_cases hx : cK x = true
     ·rw [if_pos hx,if_pos hx]
      have h39 : ¬ x.toNat = 39:=fun h=>by rw [yz h] at hx;cases hx
      rw [aB,if_neg h39,ih]
      cases hd : r.dropWhile cK with
      | nil=>rfl
      | cons d t =>
       dsimp only
       split
       ·rfl
       ·rfl
     ·rw [if_neg hx,if_neg hx]
      dsimp only
      split
      ·rename_i h39;rw [aB,if_pos h39]
      ·simp
   rw [hcut]
   cases hd : r.dropWhile cK with
   | nil=>rfl
   | cons d t =>
    dsimp only
    by_cases h39 : d.toNat = 39
    ·rw [if_pos h39]
     dsimp only
     by_cases h12 : (r.takeWhile cK).length ≤ 12
     ·rw [if_pos ((oD _).2 ⟨h12,fun c hc=>List.all_eq_true.1 (List.all_takeWhile (l:=r) (p:=cK)) c hc⟩),if_pos ⟨h39,h12⟩]
     ·rw [if_neg (fun h=>h12 ((oD _).1 h).1),if_neg (fun h=>h12 h.2)]
    ·rw [if_neg h39,if_neg (fun h=>h39 h.1)]
     cases hcc : aB 39 (d :: t) with
     | mk a b =>
      obtain ⟨b,f⟩:=b
      cases f with
      | false=>rfl
      | true =>
       dsimp only
       rw [if_neg]
       intro h
       have hall:=((oD _).1 h).2
       have hdx : cK d = false:=by
        have:=List.head_dropWhile_not (p:=cK) (l:=r) (by rw [hd];simp)
        simpa [hd] using this
       have ha : d ∈ a:=by
        rw [aB,if_neg h39] at hcc
        simp only [Prod.mk.injEq] at hcc
        rw [← hcc.1];simp
       have:=hall d (List.mem_append_right _ ha)
       rw [hdx] at this;cases this
  ·rw [if_neg hc,if_neg hc]
theorem k7 {r sc : Nat} {s : abu} {b : Bool} {top : Int} (hs : s.length ≤ 1000000) : b6 abt 169 [Pt r 0,I top] G [dH r sc s b]
  (fun v L'=>∃ n,v = I n ∧ (0 ≤ n ∧ n ≤ 999999) ∧ (∀ m,aR (s.takeWhile br) top = some m → n = m) ∧ L' = [dH r sc (s.dropWhile br) (b || (aR (s.takeWhile br) top).isNone)]):=by
 have hwl:=eZ br s
 have cx_tl : aI abt 123 [S s,S [48,49,50,51,52,53,54,55,56,57]] G (· = S (s.dropWhile br)):=by
  rw [← kB zg]
  exact lb F kR F
 have e1 : s.take (((s.length : Nat) : Int) - (((s.dropWhile br).length : Nat) : Int)).toNat = s.takeWhile br:=by
  rw [← iY];congr 1;omega
 have cx_pnB:=gN (G:=G) (s:=s.takeWhile br) (top:=top) oM
 rw [← e1] at cx_pnB
 cases hnum2 : (aR (s.takeWhile br) top) with
 | none =>
  rw [← e1] at hnum2
  have hno : (!(aR (s.take (((s.length : Nat) : Int) - (((s.dropWhile br).length : Nat) : Int)).toNat) top).isSome) = true:=by rw [hnum2];rfl
  refine jH [(0,_),(1,_)] Tryz.func169 Tryz.ntmps169 fun B hB hW=>?_
  repeat' (first | refine jR ?_ | (refine jo ?_;first | refine ah F ?_ | refine jD F F F ?_ | refine ad F F F cx_tl F ?_) | refine ae F ‹_› ?_ | (refine ak (ar (id:=2) _ (fun _ h=>h) aj ?_);refine jT 11 [0,1,2,4,5,6,9,10,13] (aa 20 9847) ?_;(refine jG (aa 20 9855) 3 F (an F F F) ?_);(refine jG (aa 20 9983) 7 F (an F F F) ?_);refine jW 6 [8,11,12] (aa 20 16383) ?_;refine jA 14 F ?_;(refine dO F F F cx_pnB F ?_;rintro _ ⟨n,rfl,hnum,hn0,hn1⟩);refine jS (aa 20 32767) ?_;refine jT 0 [15,16,17,18,19] (aa 20 1048575) ?_;refine jQ ?_))
  exact aN (vs:=[_]) F ⟨F,trivial⟩ F (List.Sublist.refl _) ⟨F,_,F,⟨hn0,hn1⟩,fun m hm=>(by cases hm),by simp⟩
 | some m =>
  rw [← e1] at hnum2
  have hno : (!(aR (s.take (((s.length : Nat) : Int) - (((s.dropWhile br).length : Nat) : Int)).toNat) top).isSome) = false:=by rw [hnum2];rfl
  refine jH [(0,_),(1,_)] Tryz.func169 Tryz.ntmps169 fun B hB hW=>?_
  repeat' (first | refine jR ?_ | (refine jo ?_;first | refine ah F ?_ | refine jD F F F ?_ | refine ad F F F cx_tl F ?_) | refine af F ‹_› ?_ | (refine ak (ar (id:=2) _ (fun _ h=>h) aj ?_);refine jT 11 [0,1,2,4,5,6,9,10,13] (aa 20 9847) ?_;(refine jG (aa 20 9855) 3 F (an F F F) ?_);(refine jG (aa 20 9983) 7 F (an F F F) ?_);refine jW 6 [8,11,12] (aa 20 16383) ?_;refine jA 14 F ?_;(refine dO F F F cx_pnB F ?_;rintro _ ⟨n,rfl,hnum,hn0,hn1⟩);refine jS (aa 20 32767) ?_;refine jT 0 [15,16,17,18,19] (aa 20 1048575) ?_;refine jQ ?_))
  exact aN (vs:=[_]) F ⟨F,trivial⟩ F (List.Sublist.refl _) ⟨F,_,F,⟨hn0,hn1⟩,fun m' hm=>hnum m' (by rw [hnum2];exact hm),by simp⟩
theorem iz {l s : abu} {b : Bool} : (dz l s b).length ≤ s.length:=by unfold dz;split <;> simp
theorem eM {c : UInt8} {s : abu} : cG [c] s false = true ↔ ∃ r,s = c :: r:=by
 cases s with
 | nil =>
  constructor
  ·intro h;simp [cG,List.isPrefixOf] at h
  ·rintro ⟨r,h⟩;cases h
 | cons d r =>
  constructor
  ·intro h
   have : c = d:=by simpa [cG,List.isPrefixOf] using h
   exact ⟨r,by rw [this]⟩
  ·rintro ⟨r',h⟩
   simp only [List.cons.injEq] at h
   simp [cG,List.isPrefixOf,h.1]
theorem fK {c : UInt8} {r : abu} : dz [c] (c :: r) false = r:=by unfold dz;rw [if_pos (eM.2 ⟨r,rfl⟩)];rfl
theorem f3 {l s : abu} : cG l s true = false:=by simp [cG]
theorem hO {l s : abu} : dz l s true = s:=by simp [dz,f3]
theorem fT {l s : abu} {b : Bool} (h : cG l s b = false) : dz l s b = s:=by simp [dz,h]
def QuP (s : abu) (b : Bool) (x s' : abu) (b' : Bool) : Prop :=
 x.length + s'.length ≤ s.length ∧ (b' = false → b = false ∧ dI s = some (.nd 116 x 0 [],s')) ∧ (b' = true → b = true ∨ dI s = none)
theorem yw (s : abu) (b : Bool) : QuP s b ((dz [39] s b).takeWhile cK) (dz [39] ((dz [39] s b).dropWhile cK) (!cG [39] s b)) (!cG [39] ((dz [39] s b).dropWhile cK) (!cG [39] s b) || decide (12 < ((dz [39] s b).takeWhile cK).length)):=by
 have hl : ((dz [39] s b).takeWhile cK).length + (dz [39] ((dz [39] s b).dropWhile cK) (!cG [39] s b)).length ≤ s.length:=by
  have h1:=iz (l:=[39]) (s:=s) (b:=b)
  have h2:=eZ cK (dz [39] s b)
  have h3:=iz (l:=[39]) (s:=(dz [39] s b).dropWhile cK) (b:=!cG [39] s b)
  omega
 refine ⟨hl,?_⟩
 rw [uo]
 cases b with
 | true=>rw [hO,f3];simp [f3]
 | false =>
  cases ht : cG [39] s false with
  | false =>
   simp only [Bool.not_false,f3,Bool.true_or]
   refine ⟨fun h=>(by cases h),fun _=>.inr ?_⟩
   cases s with
   | nil=>rfl
   | cons c r =>
    dsimp only
    rw [if_neg]
    intro hc
    have : cG [39] (c :: r) false = true:=eM.2 ⟨r,by rw [show c = 39 from UInt8.toNat_inj.1 hc]⟩
    rw [this] at ht;cases ht
  | true =>
   obtain ⟨r,rfl⟩:=eM.1 ht
   rw [fK]
   dsimp only
   rw [if_pos (show (39 : UInt8).toNat = 39 from rfl),Bool.not_true]
   cases ht2 : cG [39] (r.dropWhile cK) false with
   | false =>
    simp only [Bool.not_false,Bool.true_or]
    refine ⟨fun h=>(by cases h),fun _=>.inr ?_⟩
    cases hd : r.dropWhile cK with
    | nil=>rfl
    | cons d t =>
     dsimp only
     rw [if_neg]
     rintro ⟨hc,_⟩
     have : cG [39] (r.dropWhile cK) false = true:=eM.2 ⟨t,by rw [hd,show d = 39 from UInt8.toNat_inj.1 hc]⟩
     rw [this] at ht2;cases ht2
   | true =>
    obtain ⟨t,hd⟩:=eM.1 ht2
    rw [hd,fK]
    dsimp only
    by_cases h12 : 12 < (r.takeWhile cK).length
    ·rw [decide_eq_true h12,if_neg (fun h=>by omega)]
     exact ⟨fun h=>(by cases h),fun _=>.inr F⟩
    ·rw [decide_eq_false h12,if_pos ⟨rfl,oM⟩]
     exact ⟨fun _=>⟨F,F⟩,fun h=>(by cases h)⟩
theorem xG {r sc : Nat} {s : abu} {b : Bool} (hs : s.length ≤ 1000000) : b6 abt 170 [Pt r 0] G [dH r sc s b]
  (fun v L'=>∃ x s' b',v = S x ∧ QuP s b x s' b' ∧ L' = [dH r sc s' b']):=by
 have hq:=yw s b
 have h1:=iz (l:=[39]) (s:=s) (b:=b)
 have h2:=eZ cK (dz [39] s b)
 have h3:=iz (l:=[39]) (s:=(dz [39] s b).dropWhile cK) (b:=!cG [39] s b)
 have cx_wa:=c8 (G:=G) (r:=r) (sc:=sc) (s:=s) (l:=[39]) (b:=b) ⟨hs,by simp⟩
 have cx_wb:=c8 (G:=G) (r:=r) (sc:=sc) (s:=(dz [39] s b).dropWhile cK) (l:=[39]) (b:=!cG [39] s b) ⟨oM,by simp⟩
 have cx_tl : aI abt 123 [S (dz [39] s b),S [97,98,99,100,101,102,103,104,105,106,107,108,109,110,111,112,113,114,115,116,117,118,119,120,121,122,48,49,50,51,52,53,54,55,56,57,32]] G (· = S ((dz [39] s b).dropWhile cK)):=by
  rw [← kB yb]
  exact lb F kR F
 have e1 : (dz [39] s b).take ((((dz [39] s b).length : Nat) : Int) - ((((dz [39] s b).dropWhile cK).length : Nat) : Int)).toNat = (dz [39] s b).takeWhile cK:=by
  rw [← iY];congr 1;omega
 by_cases h12 : 12 < ((dz [39] s b).takeWhile cK).length
 ·rw [decide_eq_true h12,Bool.or_true] at hq
  rw [← e1] at h12
  refine jH [(0,_)] Tryz.func170 Tryz.ntmps170 fun B hB hW=>?_
  repeat' (first | refine jR ?_ | (refine jo ?_;first | refine ah F ?_ | refine jD F F F ?_ | (refine ai F F F cx_wa F ?_;rintro _ _ rfl;dsimp only [zA,fA]) | (refine ai F F F cx_wb F ?_;rintro _ _ rfl;dsimp only [zA,fA]) | refine ad F F F cx_tl F ?_) | refine ae F (aC oM) ?_ | (refine ak (ar (id:=3) _ (fun _ h=>h) aj ?_);refine jT 6 [0,1,2,4,5,6,9,10] (aa 14 1655) ?_;(refine jG (aa 14 1663) 3 F (an F F F) ?_);(refine jG (aa 14 1791) 7 F (an F F F) ?_);refine jW 0 [8,11,12,13] (aa 14 16383) ?_;refine jQ ?_))
  all_goals exact aN (vs:=[_]) F ⟨F,trivial⟩ F (List.Sublist.refl _) ⟨F,_,_,_,F,by rw [e1];exact hq,F⟩
 ·rw [decide_eq_false h12,Bool.or_false] at hq
  rw [← e1] at h12
  refine jH [(0,_)] Tryz.func170 Tryz.ntmps170 fun B hB hW=>?_
  repeat' (first | refine jR ?_ | (refine jo ?_;first | refine ah F ?_ | refine jD F F F ?_ | (refine ai F F F cx_wa F ?_;rintro _ _ rfl;dsimp only [zA,fA]) | (refine ai F F F cx_wb F ?_;rintro _ _ rfl;dsimp only [zA,fA]) | refine ad F F F cx_tl F ?_) | refine af F (aF oM) ?_ | (refine ak (ar (id:=3) _ (fun _ h=>h) aj ?_);refine jT 6 [0,1,2,4,5,6,9,10] (aa 14 1655) ?_;(refine jG (aa 14 1663) 3 F (an F F F) ?_);(refine jG (aa 14 1791) 7 F (an F F F) ?_);refine jW 0 [8,11,12,13] (aa 14 16383) ?_;refine jQ ?_))
  all_goals exact aN (vs:=[_]) F ⟨F,trivial⟩ F (List.Sublist.refl _) ⟨F,_,_,_,F,by rw [e1];exact hq,F⟩
def RdP (f : abu → Option (V × abu)) (s : abu) (b : Bool) (u : V) (s' : abu) (b' : Bool) : Prop :=
 s'.length ≤ s.length ∧ (b' = false → b = false ∧ f s = some (u,s')) ∧ (b' = true → (b = true ∨ f s = none) ∧ u.tot + 100 * s'.length ≤ 100 * s.length + 100)
def gO (f : abu → Option (V × abu)) (r sc : Nat) (s : abu) (b : Bool) (v : Value) (G' : Gh) (L' : List Own) : Prop :=
 ∃ u c s' b',v = Ag (bE c) ∧ V.rep G' u c ∧ L' = [dH r sc s' b'] ∧ RdP f s b u s' b'
def md (n sc : Nat) (qs : List b8) : Prop:=∀ (G : Gh) (r : Nat) (k s : abu) (b : Bool),ScI G sc qs → aJ (ag qs) k = true → s.length < n → s.length ≤ 1000 →
 cX abt 126 [Pt r 0,Ag (dQ k)] G [dH r sc s b] (gO (rd (ag qs) n k) r sc s b)
def iF (f : abu → Option (V × abu)) : abu → Option (V × abu)
 | []=>none
 | d :: s'=>if d.toNat = 91 then (match s' with
   | []=>none
   | e :: r=>if e.toNat = 93 then some (.nd 91 [] 0 [],r) else (bi f 20 s' []).map fun x=>(.nd 91 [] 0 x.1,x.2)) else none
theorem lC {f : abu → Option (V × abu)} (hf : ∀ s x,f s = some x → x.2.length < s.length) : ∀ (m M : Nat) (s : abu) (acc : List V),s.length < M →
  bi f m s acc = match bi f M s acc with
   | none=>none
   | some x=>if x.1.length ≤ acc.length + m then some x else none
 | 0,M,s,acc,hM=>by
  cases hr : bi f M s acc with
  | none=>rfl
  | some x =>
   have : acc.length + 1 ≤ x.1.length:=by
    clear hM
    induction M generalizing s acc with
    | zero=>cases hr
    | succ M ih =>
     unfold bi at hr
     cases hfs : f s with
     | none=>rw [hfs] at hr;cases hr
     | some y =>
      rw [hfs] at hr
      obtain ⟨v,r⟩:=y
      cases r with
      | nil=>cases hr
      | cons c r =>
       dsimp only at hr
       split at hr
       ·have:=ih _ _ hr;simp at this;omega
       ·split at hr
        ·simp only [Option.some.injEq] at hr;subst hr;simp
        ·cases hr
   dsimp only
   rw [if_neg oM];rfl
 | m + 1,0,s,acc,hM=>by omega
 | m + 1,M + 1,s,acc,hM=>by
  rw [bi,bi]
  cases hfs : f s with
  | none=>rfl
  | some y =>
   have hlt:=hf _ _ hfs
   obtain ⟨v,r⟩:=y
   cases r with
   | nil=>rfl
   | cons c r =>
    simp only [List.length_cons] at hlt
    dsimp only
    split
    ·rw [lC hf m M r (acc ++ [v]) oM]
     cases bi f M r (acc ++ [v]) with
     | none=>rfl
     | some x=>dsimp only;simp only [List.length_append,List.length_singleton];congr 1;simp;omega
    ·split
     ·dsimp only;rw [if_pos (by simp)]
     ·rfl
theorem nU {f : abu → Option (V × abu)} {t : abu} {vs : List V} : ∀ {m : Nat},(f t = none ∨ ∃ u,f t = some (u,[])) → bi f m t vs = none
 | 0,_=>rfl
 | m + 1,h=>by
  rw [bi]
  rcases h with h | ⟨u,h⟩ <;> rw [h]
theorem kO {f : abu → Option (V × abu)} {t t2 : abu} {c : UInt8} {u : V} {vs : List V} {m : Nat} (h : f t = some (u,c :: t2)) (hm : 0 < m) :
  bi f m t vs = if c.toNat = 44 then bi f (m - 1) t2 (vs ++ [u]) else if c.toNat = 93 then some (vs ++ [u],t2) else none:=by
 obtain ⟨m,rfl⟩ : ∃ k,m = k + 1:=⟨m - 1,oM⟩
 rw [bi,h];rfl
theorem p9 {ts : List Ty} {n : Nat} {k s : abu} {x : V × abu} (h : rd ts n k s = some x) : x.2.length < s.length:=by
 have:=j9 n k s x h
 have:=im x.1
 omega
abbrev sV : TypeId:=77
abbrev pi (b : Nat) (cs : List Value) : Own:=.blk b (.cells cs.toArray hX (0,0))
theorem zv {n r sc : Nat} {qs : List b8} {k s : abu} {b : Bool} (hV : md n sc qs) (hS : ScI G sc qs) (hk : aJ (ag qs) k = true) (hs : s.length ≤ n ∧ s.length ≤ 1000) :
  cX abt 166 [Pt r 0,Ag (dQ k)] G [dH r sc s b] (gO (iF (rd (ag qs) n k)) r sc s b):=by
 have cx_wa:=c8 (G:=G) (r:=r) (sc:=sc) (s:=s) (l:=[91]) (b:=b) ⟨oM,by simp⟩
 have cx_tk:=gu (G:=G) (r:=r) (sc:=sc) (s:=dz [91] s b) (l:=[93]) (b:=!cG [91] s b) ⟨by have:=iz (l:=[91]) (s:=s) (b:=b);omega,by simp⟩
 simp only [dQ]
 cases ht : cG [91] s b with
 | false =>
  rw [ht,fT ht] at cx_wa cx_tk
  rw [Bool.not_false,f3,hO] at cx_tk
  have cx_wb:=c8 (G:=G) (r:=r) (sc:=sc) (s:=s) (l:=[93]) (b:=true) ⟨oM,by simp⟩
  rw [f3,hO] at cx_wb
  refine b7 [(0,_),(1,_)] Tryz.func166 kR Tryz.ntmps166 F F tU fun B hB hW=>?_
  repeat' (first | refine jR ?_ | (refine jo ?_;first | refine jO fun _=>?_ | refine jL fun _=>?_ | refine jV (am F F) ?_ | refine jC F F F ?_ | (refine ai F F F cx_wa F ?_;rintro _ _ rfl;dsimp only [zA,fA]) | (refine ai F F F cx_tk F ?_;rintro _ _ ⟨rfl,rfl⟩;dsimp only [zA,fA])) | refine af F F ?_)
  rename_i x3 x4 x5 _
  refine aU (ι:=Unit) (fun i=>True) (fun i=>[(0,Pt r 0),(4,Pt x4 0),(5,Pt x5 0)]) (fun _=>G) (fun i=>[dH r sc s true,pi x5 [U8 91,S [],I 0,aA],pi x4 [U8 0,S [],I 0,aA]]) (fun i=>0) () ?_ tU F sB (fun i Hi=>?_)
  ·trivial
  repeat' (first | refine jR ?_ | (refine jo ?_;first | refine jC F F F ?_ | refine ah F ?_ | refine aK F ?_ | refine jV (aq F) ?_ | (refine ai F F F cx_wb F ?_;rintro _ _ rfl;dsimp only [zA,fA])) | refine af F F ?_)
  refine aN (vs:=[_]) F ⟨aw F F F F,trivial⟩ F sB ⟨Gh.le.refl _,.nd 91 [] 0 [],⟨91,[],0,none,0,0⟩,s,true,F,be dC dC,F,Nat.le_refl _,fun h=>(by cases h),fun _=>⟨?_,by simp only [V.tot,V.tots,List.length_nil];omega⟩⟩
  cases b with
  | true=>exact .inl F
  | false =>
   right
   cases s with
   | nil=>rfl
   | cons d r' =>
    unfold iF
    dsimp only
    rw [if_neg]
    intro h91
    have : cG [91] (d :: r') false = true:=eM.2 ⟨r',by rw [show d = 91 from UInt8.toNat_inj.1 h91]⟩
    rw [this] at ht;cases ht
 | true =>
  have hb : b = false:=by cases b with | true=>rw [f3] at ht;cases ht | false=>rfl
  subst hb
  obtain ⟨s1,rfl⟩:=eM.1 ht
  rw [ht,fK] at cx_wa cx_tk
  rw [Bool.not_true] at cx_wa cx_tk
  simp only [List.length_cons] at hs
  cases ht2 : cG [93] s1 false with
  | true =>
   obtain ⟨s2,rfl⟩:=eM.1 ht2
   rw [ht2,fK] at cx_tk
   refine b7 [(0,_),(1,_)] Tryz.func166 kR Tryz.ntmps166 F F tU fun B hB hW=>?_
   repeat' (first | refine jR ?_ | (refine jo ?_;first | refine jO fun _=>?_ | refine jL fun _=>?_ | refine jV (am F F) ?_ | refine jC F F F ?_ | refine aK F ?_ | (refine ai F F F cx_wa F ?_;rintro _ _ rfl;dsimp only [zA,fA]) | (refine ai F F F cx_tk F ?_;rintro _ _ ⟨rfl,rfl⟩;dsimp only [zA,fA])) | refine ae F F ?_)
   refine aN (vs:=[_]) F ⟨aw F F F F,trivial⟩ F sB ⟨Gh.le.refl _,.nd 91 [] 0 [],⟨91,[],0,none,0,0⟩,s2,false,F,be dC dC,F,by simp only [List.length_cons];omega,fun _=>⟨rfl,rfl⟩,fun h=>(by cases h)⟩
  | false =>
   rw [ht2,fT ht2] at cx_tk
   have hR : iF (rd (ag qs) n k) (91 :: s1) = (bi (rd (ag qs) n k) 20 s1 []).map fun x=>(.nd 91 [] 0 x.1,x.2):=by
    unfold iF
    dsimp only
    rw [if_pos (show (91 : UInt8).toNat = 91 from rfl)]
    cases s1 with
    | nil =>
     have : rd (ag qs) n k [] = none:=by
      cases h : rd (ag qs) n k [] with
      | none=>rfl
      | some x=>have:=p9 h;simp at this
     simp [bi,this]
    | cons e r' =>
     dsimp only
     rw [if_neg]
     intro h93
     have : cG [93] (e :: r') false = true:=eM.2 ⟨r',by rw [show e = 93 from UInt8.toNat_inj.1 h93]⟩
     rw [this] at ht2;cases ht2
   have hmore:=lC (f:=rd (ag qs) n k) (fun s x h=>p9 h) 20 (s1.length + 1) s1 [] oM
   refine b7 [(0,_),(1,_)] Tryz.func166 kR Tryz.ntmps166 F F tU fun B hB hW=>?_
   repeat' (first | refine jR ?_ | (refine jo ?_;first | refine jO fun _=>?_ | refine jL fun _=>?_ | refine jV (am F F) ?_ | refine jC F F F ?_ | (refine ai F F F cx_wa F ?_;rintro _ _ rfl;dsimp only [zA,fA]) | (refine ai F F F cx_tk F ?_;rintro _ _ ⟨rfl,rfl⟩;dsimp only [zA,fA])) | refine af F F ?_)
   rename_i x3 x4 x5 _
   refine Nx.addNil hX 4 (Nx.perm (List.Perm.swap _ _ _) ?_)
   refine aU (ι:=List V × List VC × Option Addr × Nat × abu × Nat × Gh) (fun q=>(V.reps q.2.2.2.2.2.2 q.1 q.2.1 ∧ Gh.le G q.2.2.2.2.2.2) ∧ (bi (rd (ag qs) n k) (s1.length + 1) s1 [] = bi (rd (ag qs) n k) q.2.2.2.2.2.1 q.2.2.2.2.1 q.1 ∧ q.2.2.2.2.1.length < q.2.2.2.2.2.1) ∧ (V.tots q.1 + 100 * q.2.2.2.2.1.length + 100 ≤ 100 * (s1.length + 1) ∧ q.2.2.2.2.1.length ≤ s1.length)) (fun q=>[(0,Pt r 0),(3,Pt x3 0),(4,Pt x4 0),(5,Pt x5 0)]) (fun q=>q.2.2.2.2.2.2) (fun q=>[dH r sc q.2.2.2.2.1 false,.acc (.slice q.2.2.1 q.1.length q.2.2.2.1) hX 4 q.1.length (ao bE q.2.1),pi x5 [U8 91,S [],I 0,.slice q.2.2.1 q.1.length q.2.2.2.1],pi x4 [U8 0,S [],I 0,aA],.blk x3 (.cells (List.toArray [S (sg k),S (bs k),S (nm k)]) sV (0,0))]) (fun q=>q.2.2.2.2.1.length) ([],[],none,0,s1,s1.length + 1,G) ?_ tU F a6 (fun q Hq=>?_)
   ·exact ⟨⟨F,Gh.le.refl _⟩,⟨F,by dsimp only;omega⟩,by dsimp only;simp only [V.tots];omega,Nat.le_refl _⟩
   obtain ⟨vs,cs,a,cap,t,m,Gq⟩:=q
   dsimp only at Hq ⊢
   obtain ⟨⟨hreps,hgq⟩,⟨hit,htm⟩,hT,htl⟩:=Hq
   have hcl:=gE hreps
   have hkl:=e7 vs
   have cx_vl:=hV Gq r k t false (hS.mono hgq) hk oM oM
   repeat' (first | refine jR ?_ | (refine jo ?_;refine ah F ?_) | refine ae F F ?_)
   (refine ak (ar (id:=6) [.blk x3 (.cells (List.toArray [S (sg k),S (bs k),S (nm k)]) sV (0,0))] (by intro y hy;simp only [List.mem_cons,List.not_mem_nil,or_false] at hy ⊢;simp [hy]) aj ?_);refine jW 7 [0,2] (aa 9 5) ?_;(refine jG (aa 9 13) 3 F (bC F F F F) ?_);refine cd [1,4] kR dC ⟨?_,?_,trivial⟩;(focus (refine aX F F ?_;(refine ah F ?_);refine jK (aa 9 15) ?_;refine jA 4 F ?_;(refine da F F F cx_vl F ?_;rintro _ G1 _ hle ⟨u1,c1,t1,b1,rfl,hrep,rfl,hP⟩;dsimp only [zA,fA];skip);refine jK (aa 9 31) ?_;refine jA 5 F ?_;(refine jF fun _=>?_);refine jK (aa 9 63) ?_;refine jA 6 F ?_;((refine bj F F F F F F F F F ?_ fun _ _=>?_;focus omega));refine jK (aa 9 127) ?_;refine jW 1 [7] (aa 9 255) ?_;refine jA 8 F ?_;(refine jD F F F ?_);refine jK (aa 9 511) ?_;refine jQ ?_));rotate_left 1;(focus (refine aX F F ?_;(refine da F F F cx_vl F ?_;rintro _ G1 _ hle ⟨u1,c1,t1,b1,rfl,hrep,rfl,hP⟩;dsimp only [zA,fA];skip);refine jK (aa 9 29) ?_;refine cd [1,5] kR dC ⟨?_,?_,trivial⟩;(focus (refine aX F F ?_;(refine ah F ?_);refine jK (aa 9 31) ?_;refine jA 5 F ?_;(refine jF fun _=>?_);refine jK (aa 9 63) ?_;refine jA 6 F ?_;((refine bj F F F F F F F F F ?_ fun _ _=>?_;focus omega));refine jK (aa 9 127) ?_;refine jW 1 [7] (aa 9 255) ?_;refine jA 8 F ?_;(refine jD F F F ?_);refine jK (aa 9 511) ?_;refine jQ ?_));rotate_left 1;(focus (refine aX F F ?_;(refine jF fun _=>?_);refine jK (aa 9 61) ?_;refine jA 1 F ?_;(refine ah F ?_);refine jK (aa 9 63) ?_;refine jA 6 F ?_;((refine bj F F F F F F F F F ?_ fun _ _=>?_;focus omega));refine jK (aa 9 127) ?_;refine jW 1 [7] (aa 9 255) ?_;refine jA 8 F ?_;(refine jD F F F ?_);refine jK (aa 9 511) ?_;refine jQ ?_));rotate_left 1));rotate_left 2)
   all_goals
    rename_i y1 yc
    have hrow : ao bE cs ++ [U8 (c1.what : Nat),S c1.text,I c1.tag,c1.sl] = ao bE (cs ++ [c1]):=(cn bE cs c1).symm
    have hr2 : V.reps G1 (vs ++ [u1]) (cs ++ [c1]):=g0 hrep (bV hle hreps)
    have hvl : (vs ++ [u1]).length = vs.length + 1:=by simp
    have htu : V.tots (vs ++ [u1]) = V.tots vs + u1.tot:=by simp [fS,V.tots]
    have hgl:=hgq.trans hle
    obtain ⟨hPl,hP0,hP1⟩:=hP
    rw [hrow]
    cases b1 with
    | true =>
     obtain ⟨hno,hto⟩:=hP1 rfl
     have hno : rd (ag qs) n k t = none:=by
      rcases hno with h | h
      ·cases h
      ·exact h
     have hit2 : bi (rd (ag qs) n k) m t vs = none:=nU (.inl hno)
     have cx_tm:=gu (G:=G1) (r:=r) (sc:=sc) (s:=t1) (l:=[44]) (b:=true) ⟨oM,by simp⟩
     have cx_wb:=c8 (G:=G1) (r:=r) (sc:=sc) (s:=t1) (l:=[93]) (b:=true) ⟨oM,by simp⟩
     rw [f3,hO] at cx_tm cx_wb
     repeat' (first | refine jR ?_ | (refine jo ?_;first | refine jD F F F ?_ | refine jC F F F ?_ | refine ah F ?_ | refine aK F ?_ | refine jV (aq F) ?_ | (refine ai F F F cx_wb F ?_;rintro _ _ rfl;dsimp only [zA,fA]) | (refine ai F F F cx_tm F ?_;rintro _ _ ⟨rfl,rfl⟩;dsimp only [zA,fA])) | refine ae F F ?_ | refine cJ F (fun _=>?_) (fun _=>?_))
     all_goals (refine Nx.sealS (v:=.slice (some ⟨y1,0,none⟩) (vs.length + 1) yc) fun G2 hG2 hsl=>?_)
     all_goals refine aN (vs:=[_]) F ⟨aw F F F F,trivial⟩ F sB ⟨hgl.trans hG2,.nd 91 [] 0 (vs ++ [u1]),⟨91,[],0,some ⟨y1,0,none⟩,vs.length + 1,yc⟩,t1,true,F,cH dC dC (fun h=>absurd h dC) hvl.symm (by rw [List.length_append,List.length_singleton,hcl];exact hsl) (bV hG2 hr2),F,by simp only [List.length_cons];omega,fun h=>(by cases h),fun _=>⟨.inr (by rw [hR,hmore,hit,hit2];rfl),by rw [fm,htu];simp only [List.length_cons,List.length_nil];omega⟩⟩
    | false =>
     obtain ⟨_,hfs⟩:=hP0 rfl
     have htot:=j9 n k t _ hfs
     dsimp only at htot
     have hup:=im u1
     have cx_tm:=gu (G:=G1) (r:=r) (sc:=sc) (s:=t1) (l:=[44]) (b:=false) ⟨oM,by simp⟩
     cases ht3 : cG [44] t1 false with
     | true =>
      obtain ⟨t2,rfl⟩:=eM.1 ht3
      rw [ht3,fK] at cx_tm
      have hit2:=kO (m:=m) (vs:=vs) hfs oM
      rw [if_pos (show (44 : UInt8).toNat = 44 from rfl)] at hit2
      simp only [List.length_cons] at htot hPl
      have hlt : t2.length < m - 1:=oM
      repeat' (first | refine jR ?_ | (refine jo ?_;(refine ai F F F cx_tm F ?_;rintro _ _ ⟨rfl,rfl⟩;dsimp only [zA,fA])) | refine af F F ?_)
      exact aT (vs ++ [u1],cs ++ [c1],some ⟨y1,0,none⟩,yc,t2,m - 1,G1) ⟨⟨hr2,hgl⟩,⟨by rw [hit,hit2],hlt⟩,by dsimp only;omega,by dsimp only;omega⟩ (by dsimp only;omega) tU rfl (by rw [hvl];repeat (first | exact List.Sublist.refl _ | apply List.Sublist.cons_cons | apply List.Sublist.cons))
     | false =>
      rw [ht3,fT ht3] at cx_tm
      have cx_wb:=c8 (G:=G1) (r:=r) (sc:=sc) (s:=t1) (l:=[93]) (b:=false) ⟨oM,by simp⟩
      cases ht4 : cG [93] t1 false with
      | true =>
       obtain ⟨t2,rfl⟩:=eM.1 ht4
       rw [ht4,fK,Bool.not_true] at cx_wb
       have hit2:=kO (m:=m) (vs:=vs) hfs oM
       rw [if_neg (show ¬ (93 : UInt8).toNat = 44 by decide),if_pos (show (93 : UInt8).toNat = 93 from rfl)] at hit2
       simp only [List.length_cons] at htot hPl
       by_cases h20 : vs.length + 1 ≤ 20
       ·repeat' (first | refine jR ?_ | (refine jo ?_;first | refine jC F F F ?_ | refine ah F ?_ | refine aK F ?_ | refine jV (aq F) ?_ | (refine ai F F F cx_wb F ?_;rintro _ _ rfl;dsimp only [zA,fA]) | (refine ai F F F cx_tm F ?_;rintro _ _ ⟨rfl,rfl⟩;dsimp only [zA,fA])) | refine ae F F ?_ | refine af F (aF oM) ?_)
        refine Nx.sealS (v:=.slice (some ⟨y1,0,none⟩) (vs.length + 1) yc) fun G2 hG2 hsl=>?_
        refine aN (vs:=[_]) F ⟨aw F F F F,trivial⟩ F sB ⟨hgl.trans hG2,.nd 91 [] 0 (vs ++ [u1]),⟨91,[],0,some ⟨y1,0,none⟩,vs.length + 1,yc⟩,t2,false,F,cH dC dC (fun h=>absurd h dC) hvl.symm (by rw [List.length_append,List.length_singleton,hcl];exact hsl) (bV hG2 hr2),F,by simp only [List.length_cons];omega,fun _=>⟨rfl,by rw [hR,hmore,hit,hit2];dsimp only;rw [if_pos (by simp;omega)];rfl⟩,fun h=>(by cases h)⟩
       ·repeat' (first | refine jR ?_ | (refine jo ?_;first | refine jD F F F ?_ | refine jC F F F ?_ | refine ah F ?_ | refine aK F ?_ | refine jV (aq F) ?_ | (refine ai F F F cx_wb F ?_;rintro _ _ rfl;dsimp only [zA,fA]) | (refine ai F F F cx_tm F ?_;rintro _ _ ⟨rfl,rfl⟩;dsimp only [zA,fA])) | (refine ae F (by first | rfl | (refine decide_eq_true ?_;(omega))) ?_))
        refine Nx.sealS (v:=.slice (some ⟨y1,0,none⟩) (vs.length + 1) yc) fun G2 hG2 hsl=>?_
        refine aN (vs:=[_]) F ⟨aw F F F F,trivial⟩ F sB ⟨hgl.trans hG2,.nd 91 [] 0 (vs ++ [u1]),⟨91,[],0,some ⟨y1,0,none⟩,vs.length + 1,yc⟩,t2,true,F,cH dC dC (fun h=>absurd h dC) hvl.symm (by rw [List.length_append,List.length_singleton,hcl];exact hsl) (bV hG2 hr2),F,by simp only [List.length_cons];omega,fun h=>(by cases h),fun _=>⟨.inr (by rw [hR,hmore,hit,hit2];dsimp only;rw [if_neg (by simp;omega)];rfl),by rw [fm,htu];simp only [List.length_cons,List.length_nil];omega⟩⟩
      | false =>
       rw [ht4,fT ht4,Bool.not_false] at cx_wb
       have hit2 : bi (rd (ag qs) n k) m t vs = none:=by
        cases t1 with
        | nil=>exact nU (.inr ⟨u1,hfs⟩)
        | cons d t2 =>
         rw [kO hfs oM,if_neg,if_neg]
         ·intro h93
          have : cG [93] (d :: t2) false = true:=eM.2 ⟨t2,by rw [show d = 93 from UInt8.toNat_inj.1 h93]⟩
          rw [this] at ht4;cases ht4
         ·intro h44
          have : cG [44] (d :: t2) false = true:=eM.2 ⟨t2,by rw [show d = 44 from UInt8.toNat_inj.1 h44]⟩
          rw [this] at ht3;cases ht3
       repeat' (first | refine jR ?_ | (refine jo ?_;first | refine jD F F F ?_ | refine jC F F F ?_ | refine ah F ?_ | refine aK F ?_ | refine jV (aq F) ?_ | (refine ai F F F cx_wb F ?_;rintro _ _ rfl;dsimp only [zA,fA]) | (refine ai F F F cx_tm F ?_;rintro _ _ ⟨rfl,rfl⟩;dsimp only [zA,fA])) | refine ae F F ?_ | refine cJ F (fun _=>?_) (fun _=>?_))
       all_goals (refine Nx.sealS (v:=.slice (some ⟨y1,0,none⟩) (vs.length + 1) yc) fun G2 hG2 hsl=>?_)
       all_goals refine aN (vs:=[_]) F ⟨aw F F F F,trivial⟩ F sB ⟨hgl.trans hG2,.nd 91 [] 0 (vs ++ [u1]),⟨91,[],0,some ⟨y1,0,none⟩,vs.length + 1,yc⟩,t1,true,F,cH dC dC (fun h=>absurd h dC) hvl.symm (by rw [List.length_append,List.length_singleton,hcl];exact hsl) (bV hG2 hr2),F,by simp only [List.length_cons];omega,fun h=>(by cases h),fun _=>⟨.inr (by rw [hR,hmore,hit,hit2];rfl),by rw [fm,htu];simp only [List.length_cons,List.length_nil];omega⟩⟩
def zVC : VC:=⟨0,[],0,none,0,0⟩
def zH (t : Ty) (bf of : Nat) (f : abu → abu → Option (V × abu)) (r sc : Nat) (s : abu) (b : Bool) (v : Value) (G' : Gh) (L' : List Own) : Prop :=
  ∃ s' b',L' = [dH r sc s' b'] ∧ s'.length ≤ s.length ∧
    ((v = Tu [Ag (bE zVC),.pointer none] ∧ b' = true ∧ (b = true ∨ a5 f t s = none)) ∨
     (∃ j u c,j < t.fields.length ∧ v = Tu [Ag (bE c),Pt bf (of + j * 6)] ∧ V.rep G' (.nd 61 [] (ac t.fields j).tag [u]) c ∧ b = false ∧ u.tot + 100 * s'.length + 100 ≤ 100 * s.length ∧
       (b' = false → a5 f t s = some ((ac t.fields j,u),s')) ∧ (b' = true → a5 f t s = none)))
abbrev zP : Value:=Ag [U8 0,S [],I 0,aA]
theorem kS {f : abu → abu → Option (V × abu)} {t : Ty} {s : abu} (h : aR (s.takeWhile br) 200 = none ∨ ∃ m,aR (s.takeWhile br) 200 = some m ∧ bZ t.fields m = none) : a5 f t s = none:=by
 unfold a5 cC
 rcases h with h | ⟨m,h,h2⟩
 ·rw [h];rfl
 ·rw [h];dsimp only [Option.map_some];rw [h2]
theorem tF {f : abu → abu → Option (V × abu)} {t : Ty} {s : abu} {m : Int} (h : aR (s.takeWhile br) 200 = some m) (h2 : ∀ s2,s.dropWhile br ≠ 61 :: s2) : a5 f t s = none:=by
 unfold a5 cC
 rw [h];dsimp only [Option.map_some]
 cases bZ t.fields m with
 | none=>rfl
 | some d =>
  dsimp only
  cases hd : s.dropWhile br with
  | nil=>rfl
  | cons c r =>
   dsimp only
   rw [if_neg]
   intro hc
   exact h2 r (by rw [hd,show c = 61 from UInt8.toNat_inj.1 hc])
theorem tD {f : abu → abu → Option (V × abu)} {t : Ty} {s s2 : abu} {m : Int} {d : Fld} (h : aR (s.takeWhile br) 200 = some m) (hd : bZ t.fields m = some d) (h2 : s.dropWhile br = 61 :: s2) : a5 f t s = (f d.kind s2).map fun x=>((d,x.1),x.2):=by
 unfold a5 cC
 rw [h];dsimp only [Option.map_some];rw [hd,h2];dsimp only;rw [if_pos (show (61 : UInt8).toNat = 61 from rfl)]
theorem nt {n r sc bt bf of cf : Nat} {qs : List b8} {t : Ty} {ln s : abu} {b : Bool} {fv : Value} (hV : md n sc qs) (hS : ScI G sc qs) (hw : TyW t) (hkf : ∀ d ∈ t.fields,aJ (ag qs) d.kind = true)
  (h1 : bN G bt 0 [U8 t.sort,S t.name,fv,S ln]) (h2 : bh G fv 6 t.fields.length (ao iK t.fields)) (hfv : t.fields ≠ [] → fv = .slice (some ⟨bf,of,none⟩) t.fields.length cf ∧ bN G bf of (ao iK t.fields)) (hs : s.length ≤ n ∧ s.length ≤ 1000) :
  cX abt 191 [Pt r 0,Pt bt 0] G [dH r sc s b] (zH t bf of (rd (ag qs) n) r sc s b):=by
 have hwl:=eZ br s
 have hfl:=hw.len
 have cx_nu:=k7 (G:=G) (r:=r) (sc:=sc) (s:=s) (b:=b) (top:=200) oM
 have cx_wa:=c8 (G:=G) (r:=r) (sc:=sc) (s:=s.dropWhile br) (l:=[61]) (b:=(b || (aR (s.takeWhile br) 200).isNone)) ⟨oM,by simp⟩
 have htl:=iz (l:=[61]) (s:=s.dropWhile br) (b:=(b || (aR (s.takeWhile br) 200).isNone))
 have hleft : ∀ (s' : abu),s'.length ≤ s.length → (b = true ∨ a5 (rd (ag qs) n) t s = none) → ∀ G',zH t bf of (rd (ag qs) n) r sc s b (Tu [Ag (bE zVC),.pointer none]) G' [dH r sc s' true]:=fun s' h3 h4 G'=>⟨s',true,rfl,h3,.inl ⟨rfl,rfl,h4⟩⟩
 refine b7 [(0,_),(1,_)] Tryz.func191 kR Tryz.ntmps191 F F tU fun B hB hW=>?_
 repeat' (first | refine jR ?_ | (refine jo ?_;first | refine jL fun _=>?_ | (refine ai F F F cx_nu F ?_;rintro _ _ ⟨n1,rfl,⟨hn0,hn1⟩,hnum,rfl⟩;dsimp only [zA,fA])))
 rename_i x4
 cases hft : bZ t.fields n1 with
 | none =>
  have hno : a5 (rd (ag qs) n) t s = none:=by
   cases hm : aR (s.takeWhile br) 200 with
   | none=>exact kS (.inl hm)
   | some m=>exact kS (.inr ⟨m,hm,by rw [← hnum m hm];exact hft⟩)
  have cx_fld:=dF h1 h2 oM hft
  repeat' (first | refine jR ?_ | (refine jo ?_;first | refine jV (bD F F) ?_ | refine aP F ?_ | refine jD F F F ?_ | refine jC F F F ?_ | refine jV (am F F) ?_ | refine ad F F F cx_fld F ?_ | (refine ai F F F cx_wa F ?_;rintro _ _ rfl;dsimp only [zA,fA])) | refine aO F F F ?_ | refine ae F F ?_)
  refine aN (vs:=[_,_]) F ⟨aw F F F F,F,trivial⟩ F sB ⟨Gh.le.refl _,hleft _ oM (.inr hno) _⟩
 | some d =>
  obtain ⟨j,hj,hjn,hjt,hjd⟩:=cV hft
  subst hjd
  obtain ⟨rfl,hsf⟩:=hfv (fun h=>by rw [h] at hj;simp at hj)
  have cx_fld:=dE h1 hsf oM hj hjn hjt
  cases ht : cG [61] (s.dropWhile br) (b || (aR (s.takeWhile br) 200).isNone) with
  | false =>
   rw [ht,Bool.not_false] at cx_wa
   have hno : b = true ∨ a5 (rd (ag qs) n) t s = none:=by
    cases b with
    | true=>exact .inl F
    | false =>
     right
     cases hm : aR (s.takeWhile br) 200 with
     | none=>exact kS (.inl hm)
     | some m =>
      refine tF hm (fun s2 h=>?_)
      rw [hm,h] at ht
      have : cG [61] (61 :: s2) false = true:=eM.2 ⟨s2,rfl⟩
      rw [show (false || (some m).isNone) = false from rfl,this] at ht;cases ht
   repeat' (first | refine jR ?_ | (refine jo ?_;first | refine jV (bD F F) ?_ | refine ah F ?_ | refine aH F ?_ | refine jD F F F ?_ | refine jC F F F ?_ | refine jV (am F F) ?_ | refine ad F F F cx_fld F ?_ | (refine ai F F F cx_wa F ?_;rintro _ _ rfl;dsimp only [zA,fA])) | refine aD F F F ?_ | refine ae F F ?_)
   refine aN (vs:=[_,_]) F ⟨aw F F F F,F,trivial⟩ F sB ⟨Gh.le.refl _,hleft _ oM hno _⟩
  | true =>
   have hb0 : (b || (aR (s.takeWhile br) 200).isNone) = false:=by
    cases hb : (b || (aR (s.takeWhile br) 200).isNone) with
    | false=>rfl
    | true=>rw [hb,f3] at ht;cases ht
   rw [hb0] at ht cx_wa htl
   rw [hb0]
   simp only [Bool.or_eq_false_iff] at hb0
   obtain ⟨hb,hnn⟩:=hb0
   obtain ⟨m,hm⟩ : ∃ m,aR (s.takeWhile br) 200 = some m:=by
    cases hm : aR (s.takeWhile br) 200 with
    | none=>rw [hm] at hnn;cases hnn
    | some m=>exact ⟨m,F⟩
   obtain ⟨s2,hs2⟩:=eM.1 ht
   rw [ht,hs2,fK,Bool.not_true] at cx_wa
   have hdig : 1 ≤ (s.takeWhile br).length:=by
    have h3:=(eh hm).2.1
    rw [h3];exact kV m
   rw [hs2,List.length_cons] at hwl
   have hfd : ∀ x,a5 (rd (ag qs) n) t s = some x ↔ (rd (ag qs) n (ac t.fields j).kind s2).map (fun x=>((ac t.fields j,x.1),x.2)) = some x:=fun x=>by
    rw [tD hm (d:=ac t.fields j) (by rw [← hnum m hm,hft]) hs2]
   have hkd:=hkf (ac t.fields j) (a7 hj)
   have cx_vl:=hV G r (ac t.fields j).kind s2 false hS hkd oM oM
   rw [hs2]
   repeat' (first | refine jR ?_ | (refine jo ?_;first | refine jL fun _=>?_ | refine jV (bD F F) ?_ | refine ah F ?_ | (refine jV (du F F aS ?_ F F) ?_;focus omega) | refine aH F ?_ | refine jC F F F ?_ | refine ad F F F cx_fld F ?_ | (refine ai F F F cx_wa F ?_;rintro _ _ rfl;dsimp only [zA,fA]) | (refine da F F F cx_vl F ?_;rintro _ G1 _ hle ⟨u1,c1,t1,b1,rfl,hrep,rfl,hP⟩;dsimp only [zA,fA];skip)) | refine aD F F F ?_ | refine af F F ?_)
   have hsf1:=hsf.mono hle
   have htag:=(hw.fld _ (a7 hj)).tag
   repeat' (first | refine jR ?_ | (refine ak (dq (id:=7) (tt:=4) F aj ?_);refine jW 6 [0,1,2,7] (aa 10 135) ?_;((refine jG (aa 10 143) 3 F (bq F F aS ?_ F F) ?_;focus omega));(refine jG (aa 10 159) 4 F (bC F F F F) ?_);refine jA 5 F ?_;(refine jF fun _=>?_);refine jK (aa 10 191) ?_;(refine jG (aa 10 255) 6 F (am F F) ?_);refine jA 8 F ?_;(refine jC F F F ?_);refine jK (aa 10 511) ?_;refine jW 0 [9] (aa 10 1023) ?_;refine jQ ?_))
   rename_i y
   refine Nx.sealC (b:=y) fun G2 hG2 hsy=>?_
   have hsl : bh G2 (.slice (some ⟨y,0,none⟩) 1 1) 4 ([c1] : List VC).length (ao bE [c1]):=⟨rfl,.inr ⟨y,0,1,rfl,Nat.le_refl _,hsy⟩⟩
   have hrp : V.rep G2 (.nd 61 [] (ac t.fields j).tag [u1]) ⟨61,[],(ac t.fields j).tag,some ⟨y,0,none⟩,1,1⟩:=cH dC oM (fun _=>rfl) rfl hsl ⟨c1,[],rfl,eI hG2 hrep,rfl⟩
   obtain ⟨hPl,hP0,hP1⟩:=hP
   have hf2:=fun x=>hfd x
   cases b1 with
   | false =>
    obtain ⟨_,hgood⟩:=hP0 rfl
    have htot:=j9 n _ _ _ hgood
    dsimp only at htot
    refine aN (vs:=[_,_]) F ⟨aw F F F F,F,trivial⟩ F sB ⟨hle.trans hG2,t1,false,F,oM,.inr ⟨j,u1,⟨61,[],(ac t.fields j).tag,some ⟨y,0,none⟩,1,1⟩,hj,F,hrp,hb,oM,fun _=>(hfd _).2 (by rw [hgood];rfl),fun h=>(by cases h)⟩⟩
   | true =>
    obtain ⟨hbad,hto⟩:=hP1 rfl
    have hbad2 : rd (ag qs) n (ac t.fields j).kind s2 = none:=by
     rcases hbad with h | h
     ·cases h
     ·exact h
    have hno : a5 (rd (ag qs) n) t s = none:=by
     cases hx : a5 (rd (ag qs) n) t s with
     | none=>rfl
     | some x=>have:=(hfd x).1 hx;rw [hbad2] at this;cases this
    refine aN (vs:=[_,_]) F ⟨aw F F F F,F,trivial⟩ F sB ⟨hle.trans hG2,t1,true,F,oM,.inr ⟨j,u1,⟨61,[],(ac t.fields j).tag,some ⟨y,0,none⟩,1,1⟩,hj,F,hrp,hb,oM,fun h=>(by cases h),fun _=>hno⟩⟩
theorem ic {c : UInt8} {s : abu} (h : cG [c] s false = false) : ∀ s2,s ≠ c :: s2:=fun s2 e=>by
 have : cG [c] s false = true:=eM.2 ⟨s2,e⟩
 rw [this] at h;cases h
theorem mT {ts : List Ty} {f : abu → abu → Option (V × abu)} {t : Ty} {s : abu} {c : UInt8} (hc : t.sort = 82 ∧ c = 123 ∨ t.sort = 69 ∧ c = 35 ∨ (t.sort ≠ 82 ∧ t.sort ≠ 69) ∧ c = 60) (h : ∀ s2,s ≠ c :: s2) : bL ts f t s = none:=by
 cases s with
 | nil=>rfl
 | cons d r =>
  have hd : d ≠ c:=fun e=>h r (by rw [e])
  unfold bL
  dsimp only
  have hn : ∀ k : Nat,k < 256 → c = UInt8.ofNat k → ¬ d.toNat = k:=fun k hk e h2=>hd (by rw [e,cB h2 hk])
  rcases hc with ⟨h1,h2⟩ | ⟨h1,h2⟩ | ⟨⟨h1,h1'⟩,h2⟩
  ·rw [if_pos h1,if_neg (hn 123 dC h2)]
  ·rw [if_neg oM,if_pos h1,if_neg (hn 35 dC h2)]
  ·rw [if_neg h1,if_neg h1',if_neg (hn 60 dC h2)]
theorem aaA {n r sc bt : Nat} {qs : List b8} {t : Ty} {s : abu} {b : Bool} (hT : hD G bt t) (hw : TyW t) (hso : t.sort = 69) (hs : s.length ≤ n ∧ s.length ≤ 1000) :
  cX abt 171 [Pt r 0,Pt bt 0] G [dH r sc s b] (gO (bL (ag qs) (rd (ag qs) n) t) r sc s b):=by
 obtain ⟨fv,ln,h1,h2⟩:=hT
 have hfl:=hw.len
 have hso' : (t.sort : Int) = 69:=oM
 have cx_wa:=c8 (G:=G) (r:=r) (sc:=sc) (s:=s) (l:=[35]) (b:=b) ⟨oM,by simp⟩
 cases ht : cG [35] s b with
 | false =>
  rw [ht,fT ht,Bool.not_false] at cx_wa
  have hno : b = true ∨ bL (ag qs) (rd (ag qs) n) t s = none:=by
   cases b with
   | true=>exact .inl F
   | false=>exact .inr (mT (.inr (.inl ⟨hso,F⟩)) (ic ht))
  have cx_nu:=k7 (G:=G) (r:=r) (sc:=sc) (s:=s) (b:=true) (top:=200) oM
  rw [Bool.true_or] at cx_nu
  have hwl:=eZ br s
  refine b7 [(0,_),(1,_)] Tryz.func171 kR Tryz.ntmps171 F F tU fun B hB hW=>?_
  repeat' (first | refine jR ?_ | (refine jo ?_;first | refine jL fun _=>?_ | refine ah F ?_ | refine jV (ay F F aS F F) ?_ | refine jV (am F F) ?_ | refine jD F F F ?_ | refine jC F F F ?_ | (refine ai F F F cx_wa F ?_;rintro _ _ rfl;dsimp only [zA,fA]) | (refine ai F F F cx_nu F ?_;rintro _ _ ⟨n1,rfl,⟨hn0,hn1⟩,hnum,rfl⟩;dsimp only [zA,fA])) | refine ae F (aC ‹_›) ?_)
  cases hft : bZ t.fields n1 with
  | none =>
   have cx_fld:=dF h1 h2 oM hft
   repeat' (first | refine jR ?_ | (refine jo ?_;first | refine aK F ?_ | refine jD F F F ?_ | refine jC F F F ?_ | refine jV (bD F F) ?_ | refine ad F F F cx_fld F ?_) | refine ae F F ?_)
   refine aN (vs:=[_]) F ⟨aw F F F F,trivial⟩ F sB ⟨Gh.le.refl _,.nd 69 [] n1 [],⟨69,[],n1,none,0,0⟩,s.dropWhile br,true,by rw [hso];rfl,be dC ⟨hn0,hn1⟩,rfl,oM,fun h=>(by cases h),fun _=>⟨hno,by simp only [V.tot,V.tots,List.length_nil];omega⟩⟩
  | some d =>
   obtain ⟨j,hj,hjn,hjt,hjd⟩:=cV hft
   obtain ⟨bf,of,cf,rfl,hsf⟩:=h2.expl oM
   have cx_fld:=dE h1 hsf oM hj hjn hjt
   repeat' (first | refine jR ?_ | (refine jo ?_;first | refine aK F ?_ | refine jC F F F ?_ | refine jV (bD F F) ?_ | refine ad F F F cx_fld F ?_) | refine af F F ?_)
   refine aN (vs:=[_]) F ⟨aw F F F F,trivial⟩ F sB ⟨Gh.le.refl _,.nd 69 [] n1 [],⟨69,[],n1,none,0,0⟩,s.dropWhile br,true,by rw [hso];rfl,be dC ⟨hn0,hn1⟩,rfl,oM,fun h=>(by cases h),fun _=>⟨hno,by simp only [V.tot,V.tots,List.length_nil];omega⟩⟩
 | true =>
  have hb : b = false:=by cases b with | true=>rw [f3] at ht;cases ht | false=>rfl
  subst hb
  obtain ⟨s1,rfl⟩:=eM.1 ht
  rw [ht,fK,Bool.not_true] at cx_wa
  simp only [List.length_cons] at hs
  have cx_nu:=k7 (G:=G) (r:=r) (sc:=sc) (s:=s1) (b:=false) (top:=200) oM
  rw [Bool.false_or] at cx_nu
  have hwl:=eZ br s1
  have hRT : bL (ag qs) (rd (ag qs) n) t (35 :: s1) = match cC 200 s1 with
    | none=>none
    | some (n,r)=>if (bZ t.fields n).isSome = true then some (.nd 69 [] n [],r) else none:=by
   unfold bL
   dsimp only
   rw [if_neg oM,if_pos hso,if_pos (show (35 : UInt8).toNat = 35 from rfl)]
   cases cC 200 s1 <;> rfl
  cases hnu : aR (s1.takeWhile br) 200 with
  | none =>
   have hno : bL (ag qs) (rd (ag qs) n) t (35 :: s1) = none:=by rw [hRT];unfold cC;rw [hnu];rfl
   rw [hnu] at cx_nu
   refine b7 [(0,_),(1,_)] Tryz.func171 kR Tryz.ntmps171 F F tU fun B hB hW=>?_
   repeat' (first | refine jR ?_ | (refine jo ?_;first | refine jL fun _=>?_ | refine ah F ?_ | refine jV (ay F F aS F F) ?_ | refine jV (am F F) ?_ | refine jD F F F ?_ | refine jC F F F ?_ | (refine ai F F F cx_wa F ?_;rintro _ _ rfl;dsimp only [zA,fA]) | (refine ai F F F cx_nu F ?_;rintro _ _ ⟨n1,rfl,⟨hn0,hn1⟩,hnum,rfl⟩;dsimp only [zA,fA])) | refine ae F (aC ‹_›) ?_)
   cases hft : bZ t.fields n1 with
   | none =>
    have cx_fld:=dF h1 h2 oM hft
    repeat' (first | refine jR ?_ | (refine jo ?_;first | refine aK F ?_ | refine jD F F F ?_ | refine jC F F F ?_ | refine jV (bD F F) ?_ | refine ad F F F cx_fld F ?_) | refine ae F F ?_)
    refine aN (vs:=[_]) F ⟨aw F F F F,trivial⟩ F sB ⟨Gh.le.refl _,.nd 69 [] n1 [],⟨69,[],n1,none,0,0⟩,s1.dropWhile br,true,by rw [hso];rfl,be dC ⟨hn0,hn1⟩,rfl,by simp only [List.length_cons];omega,fun h=>(by cases h),fun _=>⟨.inr hno,by simp only [V.tot,V.tots,List.length_nil,List.length_cons];omega⟩⟩
   | some d =>
    obtain ⟨j,hj,hjn,hjt,hjd⟩:=cV hft
    obtain ⟨bf,of,cf,rfl,hsf⟩:=h2.expl oM
    have cx_fld:=dE h1 hsf oM hj hjn hjt
    repeat' (first | refine jR ?_ | (refine jo ?_;first | refine aK F ?_ | refine jC F F F ?_ | refine jV (bD F F) ?_ | refine ad F F F cx_fld F ?_) | refine af F F ?_)
    refine aN (vs:=[_]) F ⟨aw F F F F,trivial⟩ F sB ⟨Gh.le.refl _,.nd 69 [] n1 [],⟨69,[],n1,none,0,0⟩,s1.dropWhile br,true,by rw [hso];rfl,be dC ⟨hn0,hn1⟩,rfl,by simp only [List.length_cons];omega,fun h=>(by cases h),fun _=>⟨.inr hno,by simp only [V.tot,V.tots,List.length_nil,List.length_cons];omega⟩⟩
  | some m =>
   rw [hnu] at cx_nu
   have hRT2 : bL (ag qs) (rd (ag qs) n) t (35 :: s1) = if (bZ t.fields m).isSome = true then some (.nd 69 [] m [],s1.dropWhile br) else none:=by rw [hRT];unfold cC;rw [hnu];rfl
   refine b7 [(0,_),(1,_)] Tryz.func171 kR Tryz.ntmps171 F F tU fun B hB hW=>?_
   repeat' (first | refine jR ?_ | (refine jo ?_;first | refine jL fun _=>?_ | refine ah F ?_ | refine jV (ay F F aS F F) ?_ | refine jV (am F F) ?_ | refine jD F F F ?_ | refine jC F F F ?_ | (refine ai F F F cx_wa F ?_;rintro _ _ rfl;dsimp only [zA,fA]) | (refine ai F F F cx_nu F ?_;rintro _ _ ⟨n1,rfl,⟨hn0,hn1⟩,hnum,rfl⟩;dsimp only [zA,fA])) | refine ae F (aC ‹_›) ?_)
   obtain rfl : n1 = m:=hnum m rfl
   cases hft : bZ t.fields n1 with
   | none =>
    rw [hft] at hRT2
    have cx_fld:=dF h1 h2 oM hft
    repeat' (first | refine jR ?_ | (refine jo ?_;first | refine aK F ?_ | refine jD F F F ?_ | refine jC F F F ?_ | refine jV (bD F F) ?_ | refine ad F F F cx_fld F ?_) | refine ae F F ?_)
    refine aN (vs:=[_]) F ⟨aw F F F F,trivial⟩ F sB ⟨Gh.le.refl _,.nd 69 [] n1 [],⟨69,[],n1,none,0,0⟩,s1.dropWhile br,true,by rw [hso];rfl,be dC ⟨hn0,hn1⟩,rfl,by simp only [List.length_cons];omega,fun h=>(by cases h),fun _=>⟨.inr hRT2,by simp only [V.tot,V.tots,List.length_nil,List.length_cons];omega⟩⟩
   | some d =>
    rw [hft] at hRT2
    obtain ⟨j,hj,hjn,hjt,hjd⟩:=cV hft
    obtain ⟨bf,of,cf,rfl,hsf⟩:=h2.expl oM
    have cx_fld:=dE h1 hsf oM hj hjn hjt
    repeat' (first | refine jR ?_ | (refine jo ?_;first | refine aK F ?_ | refine jC F F F ?_ | refine jV (bD F F) ?_ | refine ad F F F cx_fld F ?_) | refine af F F ?_)
    refine aN (vs:=[_]) F ⟨aw F F F F,trivial⟩ F sB ⟨Gh.le.refl _,.nd 69 [] n1 [],⟨69,[],n1,none,0,0⟩,s1.dropWhile br,false,by rw [hso];rfl,be dC ⟨hn0,hn1⟩,rfl,by simp only [List.length_cons];omega,fun _=>⟨rfl,hRT2⟩,fun h=>(by cases h)⟩
theorem rP {G : Gh} {t : Int} {u : V} {c : VC} (h : V.rep G (.nd 61 [] t [u]) c) : ∃ (b o k : Nat) (d : VC),c = ⟨61,[],t,some ⟨b,o,none⟩,1,k⟩ ∧ (0 ≤ t ∧ t ≤ 999999) ∧ bN G b o (ao bE [d]) ∧ V.rep G u d ∧ V.rep G (.nd 85 [] t [u]) ⟨85,[],t,some ⟨b,o,none⟩,1,k⟩:=by
 obtain ⟨a,k,cs,rfl,_,ht,_,hcl,hsl,hks⟩:=ip h
 rw [V.reps] at hks
 obtain ⟨d,cs',rfl,hd,hcs⟩:=hks
 rw [V.reps] at hcs
 subst hcs
 obtain ⟨b,o,cap,e,hs⟩:=hsl.expl (by simp)
 simp only [Value.slice.injEq] at e
 obtain ⟨rfl,-,rfl⟩:=e
 exact ⟨b,o,k,d,F,ht,hs,hd,cH dC ht (fun h=>absurd h dC) F hsl ⟨d,[],F,hd,F⟩⟩
theorem aay {n r sc bt : Nat} {qs : List b8} {t : Ty} {s : abu} {b : Bool} (hV : md n sc qs) (hS : ScI G sc qs) (hkf : ∀ d ∈ t.fields,aJ (ag qs) d.kind = true) (hT : hD G bt t) (hw : TyW t) (hso : t.sort = 85) (hs : s.length ≤ n ∧ s.length ≤ 1000) :
  cX abt 171 [Pt r 0,Pt bt 0] G [dH r sc s b] (gO (bL (ag qs) (rd (ag qs) n) t) r sc s b):=by
 obtain ⟨fv,ln,h1,h2⟩:=hT
 have hfl:=hw.len
 have hso' : (t.sort : Int) = 85:=oM
 have hne : 0 < t.fields.length:=List.length_pos_iff.2 (hw.ne oM)
 obtain ⟨bf,of,cf,rfl,hsf⟩:=h2.expl hne
 have cx_wa:=c8 (G:=G) (r:=r) (sc:=sc) (s:=s) (l:=[60]) (b:=b) ⟨oM,by simp⟩
 cases ht : cG [60] s b with
 | false =>
  rw [ht,fT ht,Bool.not_false] at cx_wa
  have hno : b = true ∨ bL (ag qs) (rd (ag qs) n) t s = none:=by
   cases b with
   | true=>exact .inl F
   | false=>exact .inr (mT (.inr (.inr ⟨oM,F⟩)) (ic ht))
  have cx_fd:=nt (s:=s) (b:=true) (r:=r) hV hS hw hkf h1 h2 (fun _=>⟨rfl,hsf⟩) hs
  refine b7 [(0,_),(1,_)] Tryz.func171 kR Tryz.ntmps171 F F tU fun B hB hW=>?_
  repeat' (first | refine jR ?_ | (refine jo ?_;first | refine jL fun _=>?_ | refine jV (ay F F aS F F) ?_ | refine jV (am F F) ?_ | refine jC F F F ?_ | (refine ai F F F cx_wa F ?_;rintro _ _ rfl;dsimp only [zA,fA]) | (refine da F F F cx_fd F ?_;rintro _ G1 _ hle ⟨t1,b1,rfl,htl,⟨rfl,rfl,hF⟩ | ⟨j,u1,c1,hj,rfl,hrep,hb0,hto,hg,hbd⟩⟩ <;> (dsimp only [zA,fA];skip))) | refine ae F (aC ‹_›) ?_ | refine af F (aF oM) ?_)
  ·have cx_wb:=c8 (G:=G1) (r:=r) (sc:=sc) (s:=t1) (l:=[62]) (b:=true) ⟨oM,by simp⟩
   rw [f3,hO,Bool.not_false] at cx_wb
   repeat' (first | refine jR ?_ | (refine jo ?_;first | refine aK F ?_ | refine jC F F F ?_ | refine jV (d5 F F) ?_ | (refine ai F F F cx_wb F ?_;rintro _ _ rfl;dsimp only [zA,fA])) | refine af F F ?_)
   refine aN (vs:=[_]) F ⟨aw F F F F,trivial⟩ F sB ⟨hle,.nd 85 [] 0 [],⟨85,[],0,none,0,0⟩,t1,true,by rw [hso];rfl,be dC dC,rfl,oM,fun h=>(by cases h),fun _=>⟨hno,by simp only [V.tot,V.tots,List.length_nil];omega⟩⟩
  ·cases hb0
 | true =>
  have hb : b = false:=by cases b with | true=>rw [f3] at ht;cases ht | false=>rfl
  subst hb
  obtain ⟨s1,rfl⟩:=eM.1 ht
  rw [ht,fK,Bool.not_true] at cx_wa
  simp only [List.length_cons] at hs
  have hRT : bL (ag qs) (rd (ag qs) n) t (60 :: s1) = match a5 (rd (ag qs) n) t s1 with
    | none=>none
    | some ((d,v),r)=>match r with
     | []=>none
     | c' :: r'=>if c'.toNat = 62 then some (.nd 85 [] d.tag [v],r') else none:=by
   unfold bL
   dsimp only
   rw [if_neg oM,if_neg oM,if_pos (show (60 : UInt8).toNat = 60 from rfl)]
   cases a5 (rd (ag qs) n) t s1 <;> rfl
  have cx_fd:=nt (s:=s1) (b:=false) (r:=r) hV hS hw hkf h1 h2 (fun _=>⟨rfl,hsf⟩) ⟨oM,oM⟩
  refine b7 [(0,_),(1,_)] Tryz.func171 kR Tryz.ntmps171 F F tU fun B hB hW=>?_
  repeat' (first | refine jR ?_ | (refine jo ?_;first | refine jL fun _=>?_ | refine jV (ay F F aS F F) ?_ | refine jV (am F F) ?_ | refine jC F F F ?_ | (refine ai F F F cx_wa F ?_;rintro _ _ rfl;dsimp only [zA,fA]) | (refine da F F F cx_fd F ?_;rintro _ G1 _ hle ⟨t1,b1,rfl,htl,⟨rfl,rfl,hF⟩ | ⟨j,u1,c1,hj,rfl,hrep,hb0,hto,hg,hbd⟩⟩ <;> (dsimp only [zA,fA];skip))) | refine ae F (aC ‹_›) ?_ | refine af F (aF oM) ?_)
  ·have hno : bL (ag qs) (rd (ag qs) n) t (60 :: s1) = none:=by
    rcases hF with h | h
    ·cases h
    ·rw [hRT,h]
   have cx_wb:=c8 (G:=G1) (r:=r) (sc:=sc) (s:=t1) (l:=[62]) (b:=true) ⟨oM,by simp⟩
   rw [f3,hO,Bool.not_false] at cx_wb
   repeat' (first | refine jR ?_ | (refine jo ?_;first | refine aK F ?_ | refine jC F F F ?_ | refine jV (d5 F F) ?_ | (refine ai F F F cx_wb F ?_;rintro _ _ rfl;dsimp only [zA,fA])) | refine af F F ?_)
   refine aN (vs:=[_]) F ⟨aw F F F F,trivial⟩ F sB ⟨hle,.nd 85 [] 0 [],⟨85,[],0,none,0,0⟩,t1,true,by rw [hso];rfl,be dC dC,rfl,by simp only [List.length_cons];omega,fun h=>(by cases h),fun _=>⟨.inr hno,by simp only [V.tot,V.tots,List.length_nil,List.length_cons];omega⟩⟩
  ·obtain ⟨kb,ko,kc,d,rfl,htg,hsd,hrd,hru⟩:=rP hrep
   have hsf1:=hsf.mono hle
   cases b1 with
   | true =>
    have hno : bL (ag qs) (rd (ag qs) n) t (60 :: s1) = none:=by rw [hRT,hbd rfl]
    have cx_wb:=c8 (G:=G1) (r:=r) (sc:=sc) (s:=t1) (l:=[62]) (b:=true) ⟨oM,by simp⟩
    rw [f3,hO,Bool.not_false] at cx_wb
    repeat' (first | refine jR ?_ | (refine jo ?_;first | refine jV (d5 F F) ?_ | (refine ai F F F cx_wb F ?_;rintro _ _ rfl;dsimp only [zA,fA])) | refine ae F F ?_)
    rename_i x4 x5 _ x6 _
    dsimp only [VC.sl]
    (refine ak (ar (id:=25) [.blk x6 (.cells (List.toArray [U8 ((61 : Nat) : Int),S [],I (ac t.fields j).tag,.slice (some ⟨kb,ko,none⟩) 1 kc]) hX (0,0))] (by intro y hy;simp only [List.mem_cons,List.not_mem_nil,or_false] at hy ⊢;simp [hy]) aj ?_);refine jW 6 [0,1,2,4] (aa 10 23) ?_;((refine jG (aa 10 31) 3 F (bq F F aS ?_ F F) ?_;focus omega));refine jW 4 [6] (aa 10 95) ?_;(refine jG (aa 10 127) 5 F (an F F F) ?_);refine jA 7 F ?_;(refine jD F F F ?_);refine jK (aa 10 255) ?_;refine jW 1 [8] (aa 10 511) ?_;refine jA 9 F ?_;(refine jD F F F ?_);refine jK (aa 10 1023) ?_;refine jQ ?_)
    all_goals repeat' (first | refine jR ?_ | (refine jo ?_;first | refine aK F ?_ | refine jC F F F ?_))
    all_goals refine aN (vs:=[_]) F ⟨aw F F F F,trivial⟩ F sB ⟨hle,.nd 85 [] (ac t.fields j).tag [u1],⟨85,[],(ac t.fields j).tag,some ⟨kb,ko,none⟩,1,kc⟩,t1,true,by rw [hso];rfl,hru,rfl,by simp only [List.length_cons] at *;omega,fun h=>(by cases h),fun _=>⟨.inr hno,by simp only [V.tot,V.tots,List.length_nil,List.length_cons] at *;omega⟩⟩
   | false =>
    have hgd:=hg rfl
    have cx_wb:=c8 (G:=G1) (r:=r) (sc:=sc) (s:=t1) (l:=[62]) (b:=false) ⟨oM,by simp⟩
    cases ht2 : cG [62] t1 false with
    | true =>
     obtain ⟨t2,rfl⟩:=eM.1 ht2
     rw [ht2,fK,Bool.not_true] at cx_wb
     have hgood : bL (ag qs) (rd (ag qs) n) t (60 :: s1) = some (.nd 85 [] (ac t.fields j).tag [u1],t2):=by
      rw [hRT,hgd];dsimp only;rw [if_pos (show (62 : UInt8).toNat = 62 from rfl)]
     repeat' (first | refine jR ?_ | (refine jo ?_;first | refine jV (d5 F F) ?_ | (refine ai F F F cx_wb F ?_;rintro _ _ rfl;dsimp only [zA,fA])) | refine ae F F ?_)
     rename_i x4 x5 _ x6 _
     dsimp only [VC.sl]
     (refine ak (ar (id:=25) [.blk x6 (.cells (List.toArray [U8 ((61 : Nat) : Int),S [],I (ac t.fields j).tag,.slice (some ⟨kb,ko,none⟩) 1 kc]) hX (0,0))] (by intro y hy;simp only [List.mem_cons,List.not_mem_nil,or_false] at hy ⊢;simp [hy]) aj ?_);refine jW 6 [0,1,2,4] (aa 10 23) ?_;((refine jG (aa 10 31) 3 F (bq F F aS ?_ F F) ?_;focus omega));refine jW 4 [6] (aa 10 95) ?_;(refine jG (aa 10 127) 5 F (an F F F) ?_);refine jA 7 F ?_;(refine jD F F F ?_);refine jK (aa 10 255) ?_;refine jW 1 [8] (aa 10 511) ?_;refine jA 9 F ?_;(refine jD F F F ?_);refine jK (aa 10 1023) ?_;refine jQ ?_)
     all_goals repeat' (first | refine jR ?_ | (refine jo ?_;first | refine aK F ?_ | refine jC F F F ?_))
     all_goals refine aN (vs:=[_]) F ⟨aw F F F F,trivial⟩ F sB ⟨hle,.nd 85 [] (ac t.fields j).tag [u1],⟨85,[],(ac t.fields j).tag,some ⟨kb,ko,none⟩,1,kc⟩,t2,false,by rw [hso];rfl,hru,rfl,by simp only [List.length_cons] at *;omega,fun _=>⟨rfl,hgood⟩,fun h=>(by cases h)⟩
    | false =>
     rw [ht2,fT ht2,Bool.not_false] at cx_wb
     have hno : bL (ag qs) (rd (ag qs) n) t (60 :: s1) = none:=by
      rw [hRT,hgd]
      dsimp only
      cases t1 with
      | nil=>rfl
      | cons e t2 =>
       dsimp only
       rw [if_neg]
       intro h62
       exact ic ht2 t2 (by rw [show e = 62 from UInt8.toNat_inj.1 h62])
     repeat' (first | refine jR ?_ | (refine jo ?_;first | refine jV (d5 F F) ?_ | (refine ai F F F cx_wb F ?_;rintro _ _ rfl;dsimp only [zA,fA])) | refine ae F F ?_)
     rename_i x4 x5 _ x6 _
     dsimp only [VC.sl]
     (refine ak (ar (id:=25) [.blk x6 (.cells (List.toArray [U8 ((61 : Nat) : Int),S [],I (ac t.fields j).tag,.slice (some ⟨kb,ko,none⟩) 1 kc]) hX (0,0))] (by intro y hy;simp only [List.mem_cons,List.not_mem_nil,or_false] at hy ⊢;simp [hy]) aj ?_);refine jW 6 [0,1,2,4] (aa 10 23) ?_;((refine jG (aa 10 31) 3 F (bq F F aS ?_ F F) ?_;focus omega));refine jW 4 [6] (aa 10 95) ?_;(refine jG (aa 10 127) 5 F (an F F F) ?_);refine jA 7 F ?_;(refine jD F F F ?_);refine jK (aa 10 255) ?_;refine jW 1 [8] (aa 10 511) ?_;refine jA 9 F ?_;(refine jD F F F ?_);refine jK (aa 10 1023) ?_;refine jQ ?_)
     all_goals repeat' (first | refine jR ?_ | (refine jo ?_;first | refine aK F ?_ | refine jC F F F ?_))
     all_goals refine aN (vs:=[_]) F ⟨aw F F F F,trivial⟩ F sB ⟨hle,.nd 85 [] (ac t.fields j).tag [u1],⟨85,[],(ac t.fields j).tag,some ⟨kb,ko,none⟩,1,kc⟩,t1,true,by rw [hso];rfl,hru,rfl,by simp only [List.length_cons] at *;omega,fun h=>(by cases h),fun _=>⟨.inr hno,by simp only [V.tot,V.tots,List.length_nil,List.length_cons] at *;omega⟩⟩
theorem ji {ts : List Ty} {f : abu → abu → Option (V × abu)} {t : Ty} {s : abu} {vs : List V} {last : Int} : ∀ {m : Nat},a5 f t s = none → bX ts f t m last s vs = none
 | 0,_=>rfl
 | m + 1,h=>by rw [bX,h]
theorem pn {ts : List Ty} {f : abu → abu → Option (V × abu)} {t : Ty} {s r : abu} {vs : List V} {last : Int} {d : Fld} {v : V} {m : Nat} (h : a5 f t s = some ((d,v),r)) (hm : 0 < m) :
  bX ts f t m last s vs = if d.tag ≤ last ∨ v.out = cx ts d then none else match r with
   | []=>none
   | c :: r'=>if c.toNat = 44 then bX ts f t (m - 1) d.tag r' (vs ++ [.nd 61 [] d.tag [v]]) else if c.toNat = 125 then some (vs ++ [.nd 61 [] d.tag [v]],r') else none:=by
 obtain ⟨m,rfl⟩ : ∃ k,m = k + 1:=⟨m - 1,oM⟩
 rw [bX,h];rfl
theorem rx {f : abu → abu → Option (V × abu)} {t : Ty} : a5 f t [] = none:=by
 unfold a5 cC
 have : aR (([] : abu).takeWhile br) 200 = none:=by
  cases h : aR (([] : abu).takeWhile br) 200 with
  | none=>rfl
  | some m =>
   have:=(eh h).2.1
   have h2:=kV m
   rw [← this] at h2;simp at h2
 rw [this];rfl
theorem aaz {n r sc bt : Nat} {qs : List b8} {t : Ty} {s : abu} {b : Bool} (hV : md n sc qs) (hS : ScI G sc qs) (hW0 : SchW (ag qs)) (hkf : ∀ d ∈ t.fields,aJ (ag qs) d.kind = true) (hT : hD G bt t) (hw : TyW t) (hso : t.sort = 82) (hs : s.length ≤ n ∧ s.length ≤ 1000) :
  cX abt 171 [Pt r 0,Pt bt 0] G [dH r sc s b] (gO (bL (ag qs) (rd (ag qs) n) t) r sc s b):=by
 obtain ⟨fv,ln,h1,h2⟩:=hT
 have hfl:=hw.len
 have hso' : (t.sort : Int) = 82:=oM
 have cx_wa:=c8 (G:=G) (r:=r) (sc:=sc) (s:=s) (l:=[123]) (b:=b) ⟨oM,by simp⟩
 have cx_tk:=gu (G:=G) (r:=r) (sc:=sc) (s:=dz [123] s b) (l:=[125]) (b:=!cG [123] s b) ⟨by have:=iz (l:=[123]) (s:=s) (b:=b);omega,by simp⟩
 cases ht : cG [123] s b with
 | false =>
  rw [ht,fT ht] at cx_wa cx_tk
  rw [Bool.not_false,f3,hO] at cx_tk
  have cx_wb:=c8 (G:=G) (r:=r) (sc:=sc) (s:=s) (l:=[125]) (b:=true) ⟨oM,by simp⟩
  rw [f3,hO] at cx_wb
  have hno : b = true ∨ bL (ag qs) (rd (ag qs) n) t s = none:=by
   cases b with
   | true=>exact .inl F
   | false=>exact .inr (mT (.inl ⟨hso,F⟩) (ic ht))
  refine b7 [(0,_),(1,_)] Tryz.func171 kR Tryz.ntmps171 F F tU fun B hB hW=>?_
  repeat' (first | refine jR ?_ | (refine jo ?_;first | refine jL fun _=>?_ | refine jV (ay F F aS F F) ?_ | refine jV (am F F) ?_ | refine jC F F F ?_ | (refine ai F F F cx_wa F ?_;rintro _ _ rfl;dsimp only [zA,fA]) | (refine ai F F F cx_tk F ?_;rintro _ _ ⟨rfl,rfl⟩;dsimp only [zA,fA])) | (refine af F (by first | rfl | (refine decide_eq_false ?_;(omega))) ?_))
  rename_i x4 x5 _
  refine aU (ι:=Unit) (fun i=>True) (fun i=>[(0,Pt r 0),(1,Pt bt 0),(4,Pt x4 0),(5,Pt x5 0),(8,I 0)]) (fun _=>G) (fun i=>[dH r sc s true,pi x5 [U8 t.sort,S [],I 0,aA],pi x4 [U8 0,S [],I 0,aA]]) (fun i=>0) () ?_ tU F a6 (fun i Hi=>?_)
  ·trivial
  repeat' (first | refine jR ?_ | (refine jo ?_;first | refine ah F ?_ | refine aK F ?_ | refine jC F F F ?_ | (refine ai F F F cx_wb F ?_;rintro _ _ rfl;dsimp only [zA,fA])) | refine af F F ?_)
  refine aN (vs:=[_]) F ⟨aw F F F F,trivial⟩ F sB ⟨Gh.le.refl _,.nd 82 [] 0 [],⟨82,[],0,none,0,0⟩,s,true,by rw [hso];rfl,be dC dC,rfl,Nat.le_refl _,fun h=>(by cases h),fun _=>⟨hno,by simp only [V.tot,V.tots,List.length_nil];omega⟩⟩
 | true =>
  have hb : b = false:=by cases b with | true=>rw [f3] at ht;cases ht | false=>rfl
  subst hb
  obtain ⟨s1,rfl⟩:=eM.1 ht
  rw [ht,fK] at cx_wa cx_tk
  rw [Bool.not_true] at cx_wa cx_tk
  simp only [List.length_cons] at hs
  cases ht2 : cG [125] s1 false with
  | true =>
   obtain ⟨s2,rfl⟩:=eM.1 ht2
   rw [ht2,fK] at cx_tk
   have hgood : bL (ag qs) (rd (ag qs) n) t (123 :: 125 :: s2) = some (.nd 82 [] 0 [],s2):=by
    unfold bL
    dsimp only
    rw [if_pos hso,if_pos (show (123 : UInt8).toNat = 123 from rfl),if_pos (show (125 : UInt8).toNat = 125 from rfl)]
   refine b7 [(0,_),(1,_)] Tryz.func171 kR Tryz.ntmps171 F F tU fun B hB hW=>?_
   repeat' (first | refine jR ?_ | (refine jo ?_;first | refine jL fun _=>?_ | refine aK F ?_ | refine jV (ay F F aS F F) ?_ | refine jV (am F F) ?_ | refine jC F F F ?_ | (refine ai F F F cx_wa F ?_;rintro _ _ rfl;dsimp only [zA,fA]) | (refine ai F F F cx_tk F ?_;rintro _ _ ⟨rfl,rfl⟩;dsimp only [zA,fA])) | refine ae F F ?_ | refine af F (aF oM) ?_)
   refine aN (vs:=[_]) F ⟨aw F F F F,trivial⟩ F sB ⟨Gh.le.refl _,.nd 82 [] 0 [],⟨82,[],0,none,0,0⟩,s2,false,by rw [hso];rfl,be dC dC,rfl,by simp only [List.length_cons];omega,fun _=>⟨rfl,hgood⟩,fun h=>(by cases h)⟩
  | false =>
   rw [ht2,fT ht2] at cx_tk
   have hR : bL (ag qs) (rd (ag qs) n) t (123 :: s1) = (bX (ag qs) (rd (ag qs) n) t (s1.length + 1) 0 s1 []).map fun x=>(.nd 82 [] 0 x.1,x.2):=by
    unfold bL
    dsimp only
    rw [if_pos hso,if_pos (show (123 : UInt8).toNat = 123 from rfl)]
    cases s1 with
    | nil=>rw [ji rx];rfl
    | cons e r' =>
     dsimp only
     rw [if_neg]
     intro h93
     exact ic ht2 r' (by rw [show e = 125 from UInt8.toNat_inj.1 h93])
   refine b7 [(0,_),(1,_)] Tryz.func171 kR Tryz.ntmps171 F F tU fun B hB hW=>?_
   repeat' (first | refine jR ?_ | (refine jo ?_;first | refine jL fun _=>?_ | refine jV (ay F F aS F F) ?_ | refine jV (am F F) ?_ | refine jC F F F ?_ | (refine ai F F F cx_wa F ?_;rintro _ _ rfl;dsimp only [zA,fA]) | (refine ai F F F cx_tk F ?_;rintro _ _ ⟨rfl,rfl⟩;dsimp only [zA,fA])) | (refine af F (by first | rfl | (refine decide_eq_false ?_;(omega))) ?_))
   rename_i x4 x5 _
   refine Nx.addNil hX 4 (Nx.perm (List.Perm.swap _ _ _) ?_)
   refine aU (ι:=List V × List VC × Option Addr × Nat × abu × Nat × Int × Gh) (fun q=>(V.reps q.2.2.2.2.2.2.2 q.1 q.2.1 ∧ Gh.le G q.2.2.2.2.2.2.2) ∧ (bX (ag qs) (rd (ag qs) n) t (s1.length + 1) 0 s1 [] = bX (ag qs) (rd (ag qs) n) t q.2.2.2.2.2.1 q.2.2.2.2.2.2.1 q.2.2.2.2.1 q.1 ∧ q.2.2.2.2.1.length < q.2.2.2.2.2.1) ∧ (V.tots q.1 + 100 * q.2.2.2.2.1.length + 100 ≤ 100 * (s1.length + 1) ∧ q.2.2.2.2.1.length ≤ s1.length)) (fun q=>[(0,Pt r 0),(1,Pt bt 0),(4,Pt x4 0),(5,Pt x5 0),(8,I q.2.2.2.2.2.2.1)]) (fun q=>q.2.2.2.2.2.2.2) (fun q=>[dH r sc q.2.2.2.2.1 false,.acc (.slice q.2.2.1 q.1.length q.2.2.2.1) hX 4 q.1.length (ao bE q.2.1),pi x5 [U8 t.sort,S [],I 0,.slice q.2.2.1 q.1.length q.2.2.2.1],pi x4 [U8 0,S [],I 0,aA]]) (fun q=>q.2.2.2.2.1.length) ([],[],none,0,s1,s1.length + 1,0,G) ?_ tU F a6 (fun q Hq=>?_)
   ·exact ⟨⟨F,Gh.le.refl _⟩,⟨F,by dsimp only;omega⟩,by dsimp only;simp only [V.tots];omega,Nat.le_refl _⟩
   obtain ⟨vs,cs,a,cap,t',m,last,Gq⟩:=q
   dsimp only at Hq ⊢
   obtain ⟨⟨hreps,hgq⟩,⟨hit,htm⟩,hT,htl'⟩:=Hq
   have hcl:=gE hreps
   have hkl:=e7 vs
   have hfv : t.fields ≠ [] → ∃ bf of cf,fv = .slice (some ⟨bf,of,none⟩) t.fields.length cf ∧ bN G bf of (ao iK t.fields):=fun h=>by
    obtain ⟨bf,of,cf,e,hs⟩:=h2.expl (List.length_pos_iff.2 h)
    exact ⟨bf,of,cf,e,hs⟩
   obtain ⟨bf,of,cf,hfv⟩ : ∃ bf of cf,t.fields ≠ [] → fv = .slice (some ⟨bf,of,none⟩) t.fields.length cf ∧ bN G bf of (ao iK t.fields):=by
    by_cases h : t.fields = []
    ·exact ⟨0,0,0,fun h'=>absurd h h'⟩
    ·obtain ⟨bf,of,cf,h⟩:=hfv h
     exact ⟨bf,of,cf,fun _=>h⟩
   have cx_fd:=nt (s:=t') (b:=false) (r:=r) hV (hS.mono hgq) hw hkf (h1.mono hgq) (h2.mono hgq) (fun h=>⟨(hfv h).1,(hfv h).2.mono hgq⟩) ⟨oM,oM⟩
   repeat' (first | refine jR ?_ | (refine jo ?_;first | refine jL fun _=>?_ | refine ah F ?_ | refine jD F F F ?_ | refine jC F F F ?_ | (refine da F F F cx_fd F ?_;rintro _ G1 _ hle ⟨t1,b1,rfl,htl,⟨rfl,rfl,hF⟩ | ⟨j,u1,c1,hj,rfl,hrep,hb0,hto,hg,hbd⟩⟩ <;> (dsimp only [zA,fA];skip))) | refine ae F F ?_ | (refine ak (ar (id:=9) _ (fun _ h=>h) aj ?_);refine jT 23 [0] (aa 24 1) ?_;(refine jG (aa 24 3) 1 F (bD F F) ?_);refine jT 21 [2] (aa 24 7) ?_;(try (first | refine Nx.re (d:=38) (v':=Bo true) F (congrArg Value.bool F) ?_ | refine Nx.re (d:=38) (v':=Bo false) F (congrArg Value.bool F) ?_));refine jT 17 [3,4,5,7] (aa 24 191) ?_;(refine jN (aa 24 255) 6 F ?_);refine jT 15 [8] (aa 24 511) ?_;(refine jG (aa 24 1023) 9 F (bU F F F) ?_);refine jT 13 [10] (aa 24 2047) ?_;(try (refine Nx.re (d:=46) (v':=Bo true) F (congrArg Value.bool F) ?_));refine jT 8 [11,16,17,18,20] (aa 24 1511423) ?_;(refine jN (aa 24 1515519) 12 F ?_);(refine jN (aa 24 1523711) 13 F ?_);(refine jN (aa 24 1540095) 14 F ?_);(refine jN (aa 24 2064383) 19 F ?_);(refine jN (aa 24 2097151) 15 F ?_);(refine jN (aa 24 4194303) 21 F ?_);refine jT 1 [22] (aa 24 8388607) ?_;(refine jG (aa 24 16777215) 23 F (bU F F F) ?_);refine jQ ?_))
   ·have hgl:=hgq.trans hle
    have hno : a5 (rd (ag qs) n) t t' = none:=by
     rcases hF with h | h
     ·cases h
     ·exact h
    have hit2 : bX (ag qs) (rd (ag qs) n) t m last t' vs = none:=ji hno
    have cx_wb:=c8 (G:=G1) (r:=r) (sc:=sc) (s:=t1) (l:=[125]) (b:=true) ⟨oM,by simp⟩
    rw [f3,hO,Bool.not_false] at cx_wb
    repeat' (first | refine jR ?_ | (refine jo ?_;first | refine aK F ?_ | refine jC F F F ?_ | (refine ai F F F cx_wb F ?_;rintro _ _ rfl;dsimp only [zA,fA])))
    refine Nx.sealS (v:=.slice a vs.length cap) fun G2 hG2 hsl=>?_
    refine aN (vs:=[_]) F ⟨aw F F F F,trivial⟩ F sB ⟨hgl.trans hG2,.nd 82 [] 0 vs,⟨82,[],0,a,vs.length,cap⟩,t1,true,by rw [hso];rfl,cH dC dC (fun h=>absurd h dC) rfl (by rw [hcl];exact hsl) (bV (hle.trans hG2) hreps),F,by simp only [List.length_cons];omega,fun h=>(by cases h),fun _=>⟨.inr (by rw [hR,hit,hit2];rfl),by rw [fm];simp only [List.length_cons,List.length_nil];omega⟩⟩
   ·have hgl:=hgq.trans hle
    obtain ⟨kb,ko,kc,d,rfl,htg,hsd,hrd,hru⟩:=rP hrep
    dsimp only [bE,VC.sl]
    have hsf1:=(hfv (fun h=>by rw [h] at hj;simp at hj)).2.mono hgl
    have hS1:=hS.mono hgl
    have cx_pr:=kq (G:=G1) u1.tot (Nat.le_refl _) oM hrd
    have hotl:=oG hrd
    have cx_of:=pQ hS1 hW0 hsf1 hj (hkf _ (a7 hj))
    have cx_wb:=c8 (G:=G1) (r:=r) (sc:=sc) (s:=t1) (l:=[125]) (b:=true) ⟨oM,by simp⟩
    rw [f3,hO,Bool.not_false] at cx_wb
    by_cases hbrk : (ac t.fields j).tag ≤ last ∨ u1.out = cx (ag qs) (ac t.fields j)
    ·have hit2 : bX (ag qs) (rd (ag qs) n) t m last t' vs = none:=by
      cases b1 with
      | true=>exact ji (hbd F)
      | false=>rw [pn (hg rfl) oM,if_pos hbrk]
     by_cases hlast : (ac t.fields j).tag ≤ last
     ·repeat' (first | refine jR ?_ | (refine jo ?_;first | refine aK F ?_ | refine jD F F F ?_ | refine jC F F F ?_ | (refine ai F F F cx_wb F ?_;rintro _ _ rfl;dsimp only [zA,fA])) | refine ae F F ?_ | (refine ak (ar (id:=9) _ (fun _ h=>h) aj ?_);refine jT 23 [0] (aa 24 1) ?_;(refine jG (aa 24 3) 1 F (bD F F) ?_);refine jT 21 [2] (aa 24 7) ?_;(try (refine Nx.re (d:=38) (v':=Bo false) F (congrArg Value.bool F) ?_));refine jT 17 [3,4,5,7] (aa 24 191) ?_;((refine jG (aa 24 255) 6 F (bq F F aS ?_ F F) ?_;focus omega));refine jT 15 [8] (aa 24 511) ?_;(refine jG (aa 24 1023) 9 F (aW F F F) ?_);refine jT 13 [10] (aa 24 2047) ?_;(try (refine Nx.re (d:=46) (v':=Bo true) F (congrArg Value.bool (aC ‹_›)) ?_));refine jT 8 [11,16,17,18,20] (aa 24 1511423) ?_;(refine jN (aa 24 1515519) 12 F ?_);(refine jN (aa 24 1523711) 13 F ?_);(refine jN (aa 24 1540095) 14 F ?_);(refine jN (aa 24 2064383) 19 F ?_);(refine jN (aa 24 2097151) 15 F ?_);(refine jN (aa 24 4194303) 21 F ?_);refine jT 1 [22] (aa 24 8388607) ?_;(refine jG (aa 24 16777215) 23 F (bU F F F) ?_);refine jQ ?_))
      refine Nx.sealS (v:=.slice a vs.length cap) fun G2 hG2 hsl=>?_
      refine aN (vs:=[_]) F ⟨aw F F F F,trivial⟩ F sB ⟨hgl.trans hG2,.nd 82 [] 0 vs,⟨82,[],0,a,vs.length,cap⟩,t1,true,by rw [hso];rfl,cH dC dC (fun h=>absurd h dC) rfl (by rw [hcl];exact hsl) (bV (hle.trans hG2) hreps),F,by simp only [List.length_cons];omega,fun h=>(by cases h),fun _=>⟨.inr (by rw [hR,hit,hit2];rfl),by rw [fm];simp only [List.length_cons,List.length_nil];omega⟩⟩
     ·have heq : u1.out = cx (ag qs) (ac t.fields j):=by
       rcases hbrk with h | h
       ·exact absurd h hlast
       ·exact h
      repeat' (first | refine jR ?_ | (refine jo ?_;first | refine aK F ?_ | refine jD F F F ?_ | refine jC F F F ?_ | (refine ai F F F cx_wb F ?_;rintro _ _ rfl;dsimp only [zA,fA])) | refine ae F (aC ‹_›) ?_ | (refine ak (ar (id:=9) _ (fun _ h=>h) aj ?_);refine jT 23 [0] (aa 24 1) ?_;(refine jG (aa 24 3) 1 F (bD F F) ?_);refine jT 21 [2] (aa 24 7) ?_;(try (refine Nx.re (d:=38) (v':=Bo false) F (congrArg Value.bool F) ?_));refine jT 17 [3,4,5,7] (aa 24 191) ?_;((refine jG (aa 24 255) 6 F (bq F F aS ?_ F F) ?_;focus omega));refine jT 15 [8] (aa 24 511) ?_;(refine jG (aa 24 1023) 9 F (aW F F F) ?_);refine jT 13 [10] (aa 24 2047) ?_;(try (refine Nx.re (d:=46) (v':=Bo false) F (congrArg Value.bool (aF ‹_›)) ?_));refine jT 8 [11,16,17,18,20] (aa 24 1511423) ?_;(refine jG (aa 24 1515519) 12 F (an F F F) ?_);(refine jG (aa 24 1523711) 13 F (aZ F F oM) ?_);((refine jG (aa 24 1540095) 14 F (bz F F aS ?_) ?_;(focus ((simp only [List.length_append,List.length_cons,List.length_nil,List.length_take];omega);done))));(refine jG (aa 24 2064383) 19 F (an F F F) ?_);(refine jA 15 F ?_;(refine ad F F F cx_pr F ?_);refine jS (aa 24 2097151) ?_);(refine jA 21 F ?_;(refine ad F F F cx_of F ?_);refine jS (aa 24 4194303) ?_);refine jT 1 [22] (aa 24 8388607) ?_;(refine jG (aa 24 16777215) 23 F (aW F F F) ?_);refine jQ ?_))
      refine Nx.sealS (v:=.slice a vs.length cap) fun G2 hG2 hsl=>?_
      refine aN (vs:=[_]) F ⟨aw F F F F,trivial⟩ F sB ⟨hgl.trans hG2,.nd 82 [] 0 vs,⟨82,[],0,a,vs.length,cap⟩,t1,true,by rw [hso];rfl,cH dC dC (fun h=>absurd h dC) rfl (by rw [hcl];exact hsl) (bV (hle.trans hG2) hreps),F,by simp only [List.length_cons];omega,fun h=>(by cases h),fun _=>⟨.inr (by rw [hR,hit,hit2];rfl),by rw [fm];simp only [List.length_cons,List.length_nil];omega⟩⟩
    ·have hlast : ¬ (ac t.fields j).tag ≤ last:=fun h=>hbrk (.inl h)
     have heq : ¬ u1.out = cx (ag qs) (ac t.fields j):=fun h=>hbrk (.inr h)
     have hrow : ao bE cs ++ [U8 ((61 : Nat) : Int),S [],I (ac t.fields j).tag,.slice (some ⟨kb,ko,none⟩) 1 kc] = ao bE (cs ++ [⟨61,[],(ac t.fields j).tag,some ⟨kb,ko,none⟩,1,kc⟩]):=(cn bE cs (⟨61,[],(ac t.fields j).tag,some ⟨kb,ko,none⟩,1,kc⟩ : VC)).symm
     have hr2 : V.reps G1 (vs ++ [.nd 61 [] (ac t.fields j).tag [u1]]) (cs ++ [⟨61,[],(ac t.fields j).tag,some ⟨kb,ko,none⟩,1,kc⟩]):=g0 hrep (bV hle hreps)
     have hvl : (vs ++ [V.nd 61 [] (ac t.fields j).tag [u1]]).length = vs.length + 1:=by simp
     have htu : V.tots (vs ++ [V.nd 61 [] (ac t.fields j).tag [u1]]) = V.tots vs + (20 + u1.tot):=by simp [fS,V.tots,V.tot]
     cases b1 with
     | true =>
      have hit2 : bX (ag qs) (rd (ag qs) n) t m last t' vs = none:=ji (hbd rfl)
      have cx_tm:=gu (G:=G1) (r:=r) (sc:=sc) (s:=t1) (l:=[44]) (b:=true) ⟨oM,by simp⟩
      rw [f3,hO] at cx_tm
      repeat' (first | refine jR ?_ | (refine jo ?_;first | refine ah F ?_ | (refine jV (bq F F aS ?_ F F) ?_;focus omega) | refine aK F ?_ | refine jD F F F ?_ | refine jC F F F ?_ | refine jF fun _=>?_ | refine bj F F F F F F F F F oM fun _ _=>?_ | (refine ai F F F cx_wb F ?_;rintro _ _ rfl;dsimp only [zA,fA]) | (refine ai F F F cx_tm F ?_;rintro _ _ ⟨rfl,rfl⟩;dsimp only [zA,fA])) | refine ae F F ?_ | refine af F (aF ‹_›) ?_ | (refine ak (ar (id:=9) _ (fun _ h=>h) aj ?_);refine jT 23 [0] (aa 24 1) ?_;(refine jG (aa 24 3) 1 F (bD F F) ?_);refine jT 21 [2] (aa 24 7) ?_;(try (refine Nx.re (d:=38) (v':=Bo false) F (congrArg Value.bool F) ?_));refine jT 17 [3,4,5,7] (aa 24 191) ?_;((refine jG (aa 24 255) 6 F (bq F F aS ?_ F F) ?_;focus omega));refine jT 15 [8] (aa 24 511) ?_;(refine jG (aa 24 1023) 9 F (aW F F F) ?_);refine jT 13 [10] (aa 24 2047) ?_;(try (refine Nx.re (d:=46) (v':=Bo false) F (congrArg Value.bool (aF ‹_›)) ?_));refine jT 8 [11,16,17,18,20] (aa 24 1511423) ?_;(refine jG (aa 24 1515519) 12 F (an F F F) ?_);(refine jG (aa 24 1523711) 13 F (aZ F F oM) ?_);((refine jG (aa 24 1540095) 14 F (bz F F aS ?_) ?_;(focus ((simp only [List.length_append,List.length_cons,List.length_nil,List.length_take];omega);done))));(refine jG (aa 24 2064383) 19 F (an F F F) ?_);(refine jA 15 F ?_;(refine ad F F F cx_pr F ?_);refine jS (aa 24 2097151) ?_);(refine jA 21 F ?_;(refine ad F F F cx_of F ?_);refine jS (aa 24 4194303) ?_);refine jT 1 [22] (aa 24 8388607) ?_;(refine jG (aa 24 16777215) 23 F (aW F F F) ?_);refine jQ ?_))
      rename_i _ y1 yc _
      rw [hrow]
      refine Nx.sealS (v:=.slice (some ⟨y1,0,none⟩) (vs.length + 1) yc) fun G2 hG2 hsl=>?_
      refine aN (vs:=[_]) F ⟨aw F F F F,trivial⟩ F sB ⟨hgl.trans hG2,.nd 82 [] 0 (vs ++ [.nd 61 [] (ac t.fields j).tag [u1]]),⟨82,[],0,some ⟨y1,0,none⟩,vs.length + 1,yc⟩,t1,true,by rw [hso];rfl,cH dC dC (fun h=>absurd h dC) hvl.symm (by rw [List.length_append,List.length_singleton,hcl];exact hsl) (bV hG2 hr2),F,by simp only [List.length_cons];omega,fun h=>(by cases h),fun _=>⟨.inr (by rw [hR,hit,hit2];rfl),by rw [fm,htu];simp only [List.length_cons,List.length_nil];omega⟩⟩
     | false =>
      have hst:=pn (ts:=ag qs) (vs:=vs) (last:=last) (m:=m) (hg rfl) oM
      rw [if_neg hbrk] at hst
      have cx_tm:=gu (G:=G1) (r:=r) (sc:=sc) (s:=t1) (l:=[44]) (b:=false) ⟨oM,by simp⟩
      clear cx_wb
      have cx_wb:=c8 (G:=G1) (r:=r) (sc:=sc) (s:=t1) (l:=[125]) (b:=false) ⟨oM,by simp⟩
      cases ht3 : cG [44] t1 false with
      | true =>
       obtain ⟨t2,rfl⟩:=eM.1 ht3
       rw [ht3,fK] at cx_tm
       simp only [List.length_cons] at htl hto
       dsimp only at hst
       rw [if_pos (show (44 : UInt8).toNat = 44 from rfl)] at hst
       have hlt : t2.length < m - 1:=oM
       repeat' (first | refine jR ?_ | (refine jo ?_;first | refine ah F ?_ | (refine jV (bq F F aS ?_ F F) ?_;focus omega) | refine aK F ?_ | refine jD F F F ?_ | refine jF fun _=>?_ | refine bj F F F F F F F F F oM fun _ _=>?_ | (refine ai F F F cx_tm F ?_;rintro _ _ ⟨rfl,rfl⟩;dsimp only [zA,fA])) | (refine af F (by first | rfl | (refine decide_eq_false ?_;(assumption))) ?_) | (refine ak (ar (id:=9) _ (fun _ h=>h) aj ?_);refine jT 23 [0] (aa 24 1) ?_;(refine jG (aa 24 3) 1 F (bD F F) ?_);refine jT 21 [2] (aa 24 7) ?_;(try (refine Nx.re (d:=38) (v':=Bo false) F (congrArg Value.bool F) ?_));refine jT 17 [3,4,5,7] (aa 24 191) ?_;((refine jG (aa 24 255) 6 F (bq F F aS ?_ F F) ?_;focus omega));refine jT 15 [8] (aa 24 511) ?_;(refine jG (aa 24 1023) 9 F (aW F F F) ?_);refine jT 13 [10] (aa 24 2047) ?_;(try (refine Nx.re (d:=46) (v':=Bo false) F (congrArg Value.bool (aF ‹_›)) ?_));refine jT 8 [11,16,17,18,20] (aa 24 1511423) ?_;(refine jG (aa 24 1515519) 12 F (an F F F) ?_);(refine jG (aa 24 1523711) 13 F (aZ F F oM) ?_);((refine jG (aa 24 1540095) 14 F (bz F F aS ?_) ?_;(focus ((simp only [List.length_append,List.length_cons,List.length_nil,List.length_take];omega);done))));(refine jG (aa 24 2064383) 19 F (an F F F) ?_);(refine jA 15 F ?_;(refine ad F F F cx_pr F ?_);refine jS (aa 24 2097151) ?_);(refine jA 21 F ?_;(refine ad F F F cx_of F ?_);refine jS (aa 24 4194303) ?_);refine jT 1 [22] (aa 24 8388607) ?_;(refine jG (aa 24 16777215) 23 F (aW F F F) ?_);refine jQ ?_))
       rename_i _ y1 yc
       rw [hrow]
       exact aT (vs ++ [.nd 61 [] (ac t.fields j).tag [u1]],cs ++ [⟨61,[],(ac t.fields j).tag,some ⟨kb,ko,none⟩,1,kc⟩],some ⟨y1,0,none⟩,yc,t2,m - 1,(ac t.fields j).tag,G1) ⟨⟨hr2,hgl⟩,⟨by rw [hit,hst],hlt⟩,by dsimp only;omega,by dsimp only;omega⟩ (by dsimp only;omega) tU rfl (by rw [hvl];repeat (first | exact List.Sublist.refl _ | apply List.Sublist.cons_cons | apply List.Sublist.cons))
      | false =>
       rw [ht3,fT ht3] at cx_tm
       cases ht4 : cG [125] t1 false with
       | true =>
        obtain ⟨t2,rfl⟩:=eM.1 ht4
        rw [ht4,fK,Bool.not_true] at cx_wb
        simp only [List.length_cons] at htl hto
        dsimp only at hst
        rw [if_neg (show ¬ (125 : UInt8).toNat = 44 by decide),if_pos (show (125 : UInt8).toNat = 125 from rfl)] at hst
        have hit2:=hst
        repeat' (first | refine jR ?_ | (refine jo ?_;first | refine ah F ?_ | (refine jV (bq F F aS ?_ F F) ?_;focus omega) | refine aK F ?_ | refine jD F F F ?_ | refine jC F F F ?_ | refine jF fun _=>?_ | refine bj F F F F F F F F F oM fun _ _=>?_ | (refine ai F F F cx_wb F ?_;rintro _ _ rfl;dsimp only [zA,fA]) | (refine ai F F F cx_tm F ?_;rintro _ _ ⟨rfl,rfl⟩;dsimp only [zA,fA])) | refine ae F F ?_ | refine af F (aF ‹_›) ?_ | (refine ak (ar (id:=9) _ (fun _ h=>h) aj ?_);refine jT 23 [0] (aa 24 1) ?_;(refine jG (aa 24 3) 1 F (bD F F) ?_);refine jT 21 [2] (aa 24 7) ?_;(try (refine Nx.re (d:=38) (v':=Bo false) F (congrArg Value.bool F) ?_));refine jT 17 [3,4,5,7] (aa 24 191) ?_;((refine jG (aa 24 255) 6 F (bq F F aS ?_ F F) ?_;focus omega));refine jT 15 [8] (aa 24 511) ?_;(refine jG (aa 24 1023) 9 F (aW F F F) ?_);refine jT 13 [10] (aa 24 2047) ?_;(try (refine Nx.re (d:=46) (v':=Bo false) F (congrArg Value.bool (aF ‹_›)) ?_));refine jT 8 [11,16,17,18,20] (aa 24 1511423) ?_;(refine jG (aa 24 1515519) 12 F (an F F F) ?_);(refine jG (aa 24 1523711) 13 F (aZ F F oM) ?_);((refine jG (aa 24 1540095) 14 F (bz F F aS ?_) ?_;(focus ((simp only [List.length_append,List.length_cons,List.length_nil,List.length_take];omega);done))));(refine jG (aa 24 2064383) 19 F (an F F F) ?_);(refine jA 15 F ?_;(refine ad F F F cx_pr F ?_);refine jS (aa 24 2097151) ?_);(refine jA 21 F ?_;(refine ad F F F cx_of F ?_);refine jS (aa 24 4194303) ?_);refine jT 1 [22] (aa 24 8388607) ?_;(refine jG (aa 24 16777215) 23 F (aW F F F) ?_);refine jQ ?_))
        rename_i _ y1 yc _
        rw [hrow]
        refine Nx.sealS (v:=.slice (some ⟨y1,0,none⟩) (vs.length + 1) yc) fun G2 hG2 hsl=>?_
        refine aN (vs:=[_]) F ⟨aw F F F F,trivial⟩ F sB ⟨hgl.trans hG2,.nd 82 [] 0 (vs ++ [.nd 61 [] (ac t.fields j).tag [u1]]),⟨82,[],0,some ⟨y1,0,none⟩,vs.length + 1,yc⟩,t2,false,by rw [hso];rfl,cH dC dC (fun h=>absurd h dC) hvl.symm (by rw [List.length_append,List.length_singleton,hcl];exact hsl) (bV hG2 hr2),F,by simp only [List.length_cons];omega,fun _=>⟨rfl,by rw [hR,hit,hit2];rfl⟩,fun h=>(by cases h)⟩
       | false =>
        rw [ht4,fT ht4,Bool.not_false] at cx_wb
        have hit2 : bX (ag qs) (rd (ag qs) n) t m last t' vs = none:=by
         rw [hst]
         cases t1 with
         | nil=>rfl
         | cons e t2 =>
          dsimp only
          rw [if_neg,if_neg]
          ·intro h
           exact ic ht4 t2 (by rw [show e = 125 from UInt8.toNat_inj.1 h])
          ·intro h
           exact ic ht3 t2 (by rw [show e = 44 from UInt8.toNat_inj.1 h])
        repeat' (first | refine jR ?_ | (refine jo ?_;first | refine ah F ?_ | (refine jV (bq F F aS ?_ F F) ?_;focus omega) | refine aK F ?_ | refine jD F F F ?_ | refine jC F F F ?_ | refine jF fun _=>?_ | refine bj F F F F F F F F F oM fun _ _=>?_ | (refine ai F F F cx_wb F ?_;rintro _ _ rfl;dsimp only [zA,fA]) | (refine ai F F F cx_tm F ?_;rintro _ _ ⟨rfl,rfl⟩;dsimp only [zA,fA])) | refine ae F F ?_ | refine af F (aF ‹_›) ?_ | (refine ak (ar (id:=9) _ (fun _ h=>h) aj ?_);refine jT 23 [0] (aa 24 1) ?_;(refine jG (aa 24 3) 1 F (bD F F) ?_);refine jT 21 [2] (aa 24 7) ?_;(try (refine Nx.re (d:=38) (v':=Bo false) F (congrArg Value.bool F) ?_));refine jT 17 [3,4,5,7] (aa 24 191) ?_;((refine jG (aa 24 255) 6 F (bq F F aS ?_ F F) ?_;focus omega));refine jT 15 [8] (aa 24 511) ?_;(refine jG (aa 24 1023) 9 F (aW F F F) ?_);refine jT 13 [10] (aa 24 2047) ?_;(try (refine Nx.re (d:=46) (v':=Bo false) F (congrArg Value.bool (aF ‹_›)) ?_));refine jT 8 [11,16,17,18,20] (aa 24 1511423) ?_;(refine jG (aa 24 1515519) 12 F (an F F F) ?_);(refine jG (aa 24 1523711) 13 F (aZ F F oM) ?_);((refine jG (aa 24 1540095) 14 F (bz F F aS ?_) ?_;(focus ((simp only [List.length_append,List.length_cons,List.length_nil,List.length_take];omega);done))));(refine jG (aa 24 2064383) 19 F (an F F F) ?_);(refine jA 15 F ?_;(refine ad F F F cx_pr F ?_);refine jS (aa 24 2097151) ?_);(refine jA 21 F ?_;(refine ad F F F cx_of F ?_);refine jS (aa 24 4194303) ?_);refine jT 1 [22] (aa 24 8388607) ?_;(refine jG (aa 24 16777215) 23 F (aW F F F) ?_);refine jQ ?_))
        rename_i _ y1 yc _
        rw [hrow]
        refine Nx.sealS (v:=.slice (some ⟨y1,0,none⟩) (vs.length + 1) yc) fun G2 hG2 hsl=>?_
        refine aN (vs:=[_]) F ⟨aw F F F F,trivial⟩ F sB ⟨hgl.trans hG2,.nd 82 [] 0 (vs ++ [.nd 61 [] (ac t.fields j).tag [u1]]),⟨82,[],0,some ⟨y1,0,none⟩,vs.length + 1,yc⟩,t1,true,by rw [hso];rfl,cH dC dC (fun h=>absurd h dC) hvl.symm (by rw [List.length_append,List.length_singleton,hcl];exact hsl) (bV hG2 hr2),F,by simp only [List.length_cons];omega,fun h=>(by cases h),fun _=>⟨.inr (by rw [hR,hit,hit2];rfl),by rw [fm,htu];simp only [List.length_cons,List.length_nil];omega⟩⟩
theorem oh {c : UInt8} {a b d : abu} : aI abt 129 [Ag [S (c :: a),S b,S d]] G (· = Ag [S a,S b,S d]):=by
 refine jE [(0,_)] Tryz.func129 Tryz.ntmps129 fun B hB=>?_
 repeat' (first | refine jX ?_ | (refine jo ?_;first | refine jO fun _=>?_ | refine jL fun _=>?_ | refine ah F ?_ | refine aK F ?_ | refine jD F F F ?_ | refine jC F F F ?_))
 refine jZ (vs:=[_]) F ⟨aw F F F F,trivial⟩ F ⟨F,F,?_⟩
 rfl
theorem iI {c : UInt8} {k : abu} (h : c.toNat = 91 ∨ c.toNat = 63) : sg (c :: k) = c :: sg k ∧ bs (c :: k) = bs k ∧ nm (c :: k) = nm k ∧ aG (c :: k) = aG k:=by
 have hc : aG (c :: k) = aG k:=by rw [aG,if_pos h]
 exact ⟨io h,by unfold bs;rw [hc],by unfold nm;rw [hc],hc⟩
theorem gW {ts : List Ty} {c : UInt8} {k : abu} (hc : c.toNat = 91 ∨ c.toNat = 63) (h : aJ ts (c :: k) = true) : aJ ts k = true:=by
 unfold aJ at h ⊢
 simp only [Bool.and_eq_true] at h ⊢
 obtain ⟨h1,h2⟩:=h
 refine ⟨?_,?_⟩
 ·unfold bn at h1 ⊢
  simp only [Bool.and_eq_true,decide_eq_true_eq,List.length_cons] at h1 ⊢
  refine ⟨oM,?_⟩
  have:=h1.2
  rw [eN,if_pos hc] at this
  exact this
 ·unfold d7 at h2 ⊢
  rw [(iI hc).2.2.2] at h2
  exact h2
theorem vF {ts : List Ty} {f : abu → abu → Option (V × abu)} {c : UInt8} {k s : abu} (hc : c.toNat = 91) : eT ts f (c :: k) s = iF (f k) s:=by
 unfold eT iF
 dsimp only
 rw [if_pos hc]
 cases s <;> rfl
theorem qS {r sc : Nat} {k s : abu} : b6 abt 126 [Pt r 0,Ag [S (sg k),S (bs k),S (nm k)]] G [dH r sc s true] (fun v L'=>v = zP ∧ L' = [dH r sc s true]):=by
 refine jH [(0,_),(1,_)] Tryz.func126 Tryz.ntmps126 fun B hB hW=>?_
 repeat' (first | refine jR ?_ | (refine jo ?_;first | refine jO fun _=>?_ | refine jL fun _=>?_ | refine ah F ?_ | refine jV (am F F) ?_ | refine jC F F F ?_) | refine ae F F ?_)
 refine aN (vs:=[_]) F ⟨aw F F F F,trivial⟩ F sB ⟨F,F,F⟩
theorem b6.toM {P : Program} {f : FuncId} {args : List Value} {L : List Own} {R : Value → List Own → Prop} {R' : Value → Gh → List Own → Prop} (h : b6 P f args G L R) (hr : ∀ v L',R v L' → R' v G L') : cX P f args G L R' :=
 Fn.mono h fun v G' L' h2=>⟨h2.1 ▸ Gh.le.refl _,h2.1 ▸ hr v L' h2.2⟩
theorem fb : V.rep G (.nd 0 [] 0 []) ⟨0,[],0,none,0,0⟩:=be dC dC
theorem zi {n r sc : Nat} {qs : List b8} {c : UInt8} {k s : abu} (hc : c = 63) (hV : md n sc qs) (hS : ScI G sc qs) (hk : aJ (ag qs) (c :: k) = true) (hs : s.length < n + 1 ∧ s.length ≤ 1000) :
  cX abt 126 [Pt r 0,Ag (dQ (c :: k))] G [dH r sc s false] (gO (rd (ag qs) (n + 1) (c :: k)) r sc s false):=by
 subst hc
 have hk2:=gW (.inr rfl) hk
 obtain ⟨e1,e2,e3,_⟩:=iI (c:=63) (k:=k) (.inr rfl)
 have hrd : rd (ag qs) (n + 1) (63 :: k) s = match s with
   | []=>none
   | d :: s'=>if d.toNat = 45 then some (.nd 63 [] 0 [],s') else if d.toNat = 43 then (rd (ag qs) n k s').map fun x=>(.nd 63 [] 0 [x.1],x.2) else none:=by
  rw [rd];unfold eT
  dsimp only
  rw [if_neg (show ¬ (63 : UInt8).toNat = 91 by decide),if_pos (show (63 : UInt8).toNat = 63 from rfl)]
  cases s <;> rfl
 unfold dQ
 rw [e1,e2,e3]
 have cx_sign:=@ix G 63 (sg k) (bs k) (nm k)
 have cx_pt:=@oh G 63 (sg k) (bs k) (nm k)
 have cx_tk:=gu (G:=G) (r:=r) (sc:=sc) (s:=s) (l:=[45]) (b:=false) ⟨oM,by simp⟩
 have cx_wa:=c8 (G:=G) (r:=r) (sc:=sc) (s:=s) (l:=[43]) (b:=false) ⟨oM,by simp⟩
 cases ht : cG [45] s false with
 | true =>
  obtain ⟨s1,rfl⟩:=eM.1 ht
  rw [ht,fK] at cx_tk
  dsimp only at hrd
  rw [if_pos (show (45 : UInt8).toNat = 45 from rfl)] at hrd
  refine b7 [(0,_),(1,_)] Tryz.func126 kR Tryz.ntmps126 F F tU fun B hB hW=>?_
  repeat' (first | refine jR ?_ | (refine jo ?_;first | refine jO fun _=>?_ | refine jL fun _=>?_ | refine ah F ?_ | refine aK F ?_ | refine jV (am F F) ?_ | refine jC F F F ?_ | refine ad F F F cx_sign F ?_ | (refine ai F F F cx_tk F ?_;rintro _ _ ⟨rfl,rfl⟩;dsimp only [zA,fA])) | refine ae F F ?_ | refine af F F ?_)
  refine aN (vs:=[_]) F ⟨aw F F F F,trivial⟩ F sB ⟨Gh.le.refl _,.nd 63 [] 0 [],⟨63,[],0,none,0,0⟩,s1,false,F,be dC dC,F,by simp only [List.length_cons];omega,fun _=>⟨rfl,hrd⟩,fun h=>(by cases h)⟩
 | false =>
  rw [ht,fT ht] at cx_tk
  cases ht2 : cG [43] s false with
  | false =>
   rw [ht2,fT ht2,Bool.not_false] at cx_wa
   have hno : rd (ag qs) (n + 1) (63 :: k) s = none:=by
    rw [hrd]
    cases s with
    | nil=>rfl
    | cons d s' =>
     dsimp only
     rw [if_neg,if_neg]
     ·intro h;exact ic ht2 s' (by rw [show d = 43 from UInt8.toNat_inj.1 h])
     ·intro h;exact ic ht s' (by rw [show d = 45 from UInt8.toNat_inj.1 h])
   refine b7 [(0,_),(1,_)] Tryz.func126 kR Tryz.ntmps126 F F tU fun B hB hW=>?_
   repeat' (first | refine jR ?_ | (refine jo ?_;first | refine jO fun _=>?_ | refine jL fun _=>?_ | refine ah F ?_ | refine aK F ?_ | refine ad F F F cx_sign F ?_ | refine ad F F F cx_pt F ?_ | (refine ai F F F cx_tk F ?_;rintro _ _ ⟨rfl,rfl⟩;dsimp only [zA,fA]) | (refine ai F F F cx_wa F ?_;rintro _ _ rfl;dsimp only [zA,fA])) | refine ae F F ?_ | refine af F F ?_)
   refine jo ?_
   refine ai F F F qS F ?_
   rintro _ _ ⟨rfl,rfl⟩
   dsimp only [zA,fA]
   repeat' (first | refine jR ?_ | (refine jo ?_;first | refine jV (am F F) ?_ | refine jC F F F ?_ | refine jF fun _=>?_))
   rename_i y
   refine Nx.sealC (b:=y) fun G2 hG2 hsy=>?_
   have hsl : bh G2 (.slice (some ⟨y,0,none⟩) 1 1) 4 ([⟨0,[],0,none,0,0⟩] : List VC).length (ao bE [⟨0,[],0,none,0,0⟩]):=⟨rfl,.inr ⟨y,0,1,rfl,Nat.le_refl _,hsy⟩⟩
   refine aN (vs:=[_]) F ⟨aw F F F F,trivial⟩ F sB ⟨hG2,.nd 63 [] 0 [.nd 0 [] 0 []],⟨63,[],0,some ⟨y,0,none⟩,1,1⟩,s,true,F,cH dC dC (fun h=>absurd h dC) F hsl ⟨_,[],F,fb,F⟩,F,Nat.le_refl _,fun h=>(by cases h),fun _=>⟨.inr hno,by simp only [V.tot,V.tots,List.length_nil];omega⟩⟩
  | true =>
   obtain ⟨s1,rfl⟩:=eM.1 ht2
   rw [ht2,fK,Bool.not_true] at cx_wa
   simp only [List.length_cons] at hs
   dsimp only at hrd
   rw [if_neg (show ¬ (43 : UInt8).toNat = 45 by decide),if_pos (show (43 : UInt8).toNat = 43 from rfl)] at hrd
   have cx_vl:=hV G r k s1 false hS hk2 oM oM
   refine b7 [(0,_),(1,_)] Tryz.func126 kR Tryz.ntmps126 F F tU fun B hB hW=>?_
   repeat' (first | refine jR ?_ | (refine jo ?_;first | refine jO fun _=>?_ | refine jL fun _=>?_ | refine ah F ?_ | refine aK F ?_ | refine jV (am F F) ?_ | refine jC F F F ?_ | refine jF fun _=>?_ | refine ad F F F cx_sign F ?_ | refine ad F F F cx_pt F ?_ | (refine ai F F F cx_tk F ?_;rintro _ _ ⟨rfl,rfl⟩;dsimp only [zA,fA]) | (refine ai F F F cx_wa F ?_;rintro _ _ rfl;dsimp only [zA,fA]) | (refine da F F F cx_vl F ?_;rintro _ G1 _ hle ⟨u1,c1,t1,b1,rfl,hrep,rfl,hP⟩;dsimp only [zA,fA];skip)) | refine ae F F ?_ | refine af F F ?_)
   rename_i y
   refine Nx.sealC (b:=y) fun G2 hG2 hsy=>?_
   have hsl : bh G2 (.slice (some ⟨y,0,none⟩) 1 1) 4 ([c1] : List VC).length (ao bE [c1]):=⟨rfl,.inr ⟨y,0,1,rfl,Nat.le_refl _,hsy⟩⟩
   obtain ⟨hPl,hP0,hP1⟩:=hP
   cases b1 with
   | false =>
    refine aN (vs:=[_]) F ⟨aw F F F F,trivial⟩ F sB ⟨hle.trans hG2,.nd 63 [] 0 [u1],⟨63,[],0,some ⟨y,0,none⟩,1,1⟩,t1,false,F,cH dC dC (fun h=>absurd h dC) F hsl ⟨_,[],F,eI hG2 hrep,F⟩,F,by simp only [List.length_cons];omega,fun _=>⟨rfl,by rw [hrd,(hP0 rfl).2];rfl⟩,fun h=>(by cases h)⟩
   | true =>
    obtain ⟨hno,hto⟩:=hP1 rfl
    have hno2 : rd (ag qs) n k s1 = none:=by
     rcases hno with h | h
     ·cases h
     ·exact h
    refine aN (vs:=[_]) F ⟨aw F F F F,trivial⟩ F sB ⟨hle.trans hG2,.nd 63 [] 0 [u1],⟨63,[],0,some ⟨y,0,none⟩,1,1⟩,t1,true,F,cH dC dC (fun h=>absurd h dC) F hsl ⟨_,[],F,eI hG2 hrep,F⟩,F,by simp only [List.length_cons];omega,fun h=>(by cases h),fun _=>⟨.inr (by rw [hrd,hno2];rfl),by simp only [V.tot,V.tots,List.length_nil,List.length_cons];omega⟩⟩
theorem zl {n r sc : Nat} {qs : List b8} {k s : abu} (hV : md n sc qs) (hS : ScI G sc qs) (hk : aJ (ag qs) (91 :: k) = true) (hs : s.length < n + 1 ∧ s.length ≤ 1000) :
  cX abt 126 [Pt r 0,Ag (dQ (91 :: k))] G [dH r sc s false] (gO (rd (ag qs) (n + 1) (91 :: k)) r sc s false):=by
 have hk2:=gW (.inl rfl) hk
 obtain ⟨e1,e2,e3,_⟩:=iI (c:=91) (k:=k) (.inl rfl)
 have hrd : rd (ag qs) (n + 1) (91 :: k) s = iF (rd (ag qs) n k) s:=by rw [rd];exact vF F
 unfold dQ
 rw [e1,e2,e3]
 have cx_sign:=@ix G 91 (sg k) (bs k) (nm k)
 have cx_pt:=@oh G 91 (sg k) (bs k) (nm k)
 have cx_li:=zv (G:=G) (r:=r) (b:=false) hV hS hk2 (s:=s) ⟨oM,oM⟩
 refine b7 [(0,_),(1,_)] Tryz.func126 kR Tryz.ntmps126 F F tU fun B hB hW=>?_
 repeat' (first | refine jR ?_ | (refine jo ?_;first | refine jO fun _=>?_ | refine jL fun _=>?_ | refine ah F ?_ | refine aK F ?_ | refine jC F F F ?_ | refine ad F F F cx_sign F ?_ | refine ad F F F cx_pt F ?_ | (refine da F F F cx_li F ?_;rintro _ G1 _ hle ⟨u1,c1,t1,b1,rfl,hrep,rfl,hP⟩;dsimp only [zA,fA];skip)) | refine ae F F ?_ | refine af F F ?_)
 obtain ⟨hPl,hP0,hP1⟩:=hP
 refine aN (vs:=[_]) F ⟨aw F F F F,trivial⟩ F sB ⟨hle,u1,c1,t1,b1,F,hrep,F,hPl,fun h=>⟨F,by rw [hrd];exact (hP0 h).2⟩,fun h=>by rw [hrd];exact hP1 h⟩
theorem gU {ts : List Ty} {c : UInt8} {k : abu} (hk : aJ ts (c :: k) = true) (h91 : ¬ (c.toNat = 91 ∨ c.toNat = 63)) (hr : aL ts (c :: k) = none) : c :: k = [110] ∨ c :: k = [116] ∨ c :: k = [102]:=by
 have hko:=cU hk
 have hcs:=dB (r:=k) h91
 have hrn : bc (aG (c :: k)) = none:=by
  cases hx : bc (aG (c :: k)) with
  | none=>rfl
  | some x =>
   obtain ⟨t,ht⟩:=f8 hk (by rw [hx];rfl)
   rw [hcs,hr] at ht;cases ht
 have h:=nw hko hrn
 have h64 : ¬ c.toNat = 64:=by
  intro h64
  rw [hcs] at hrn
  simp [bc,h64] at hrn
 have e : bs (c :: k) = c :: k:=by unfold bs;rw [hcs];simp [mR,h64]
 rwa [e] at h
theorem mW {ts : List Ty} {n : Nat} {s : abu} {c : UInt8} (hc : c = 110 ∨ c = 116 ∨ c = 102) (hr : aL ts [c] = none) : rd ts (n + 1) [c] s = if c = 110 then (cC 999999 s).map fun x=>(.nd 110 (a8 x.1) 0 [],x.2) else if c = 116 then dI s else fg s:=by
 rw [rd];unfold eT
 dsimp only
 rcases hc with rfl | rfl | rfl <;> simp [hr]
theorem zj {n r sc : Nat} {qs : List b8} {s : abu} (hr : aL (ag qs) [110] = none) (hs : s.length ≤ 1000) :
  cX abt 126 [Pt r 0,Ag (dQ [110])] G [dH r sc s false] (gO (rd (ag qs) (n + 1) [110]) r sc s false):=by
 have hrd:=mW (ts:=ag qs) (n:=n) (s:=s) (c:=110) (.inl rfl) hr
 rw [if_pos rfl] at hrd
 have cx_sign:=@di G [110] []
 have cx_nu:=k7 (G:=G) (r:=r) (sc:=sc) (s:=s) (b:=false) (top:=999999) oM
 have hwl:=eZ br s
 show cX abt 126 [Pt r 0,Ag [S [],S [110],S []]] G [dH r sc s false] _
 refine b7 [(0,_),(1,_)] Tryz.func126 kR Tryz.ntmps126 F F tU fun B hB hW=>?_
 repeat' (first | refine jR ?_ | (refine jo ?_;first | refine jO fun _=>?_ | refine jL fun _=>?_ | refine ah F ?_ | refine aK F ?_ | refine jV (am F F) ?_ | refine jC F F F ?_ | refine ad F F F cx_sign F ?_ | (refine ai F F F cx_nu F ?_;rintro _ _ ⟨n1,rfl,⟨hn0,hn1⟩,hnum,rfl⟩;dsimp only [zA,fA]) | refine ad F F F (fJ oM) F ?_) | refine ae F F ?_ | refine af F F ?_)
 have hdl:=kW hn1
 cases hm : aR (s.takeWhile br) 999999 with
 | none =>
  refine aN (vs:=[_]) F ⟨aw F F F F,trivial⟩ F sB ⟨Gh.le.refl _,.nd 110 (a8 n1) 0 [],⟨110,a8 n1,0,none,0,0⟩,s.dropWhile br,true,F,be dC dC,F,oM,fun h=>(by cases h),fun _=>⟨.inr (by rw [hrd];unfold cC;rw [hm];rfl),by simp only [V.tot,V.tots];omega⟩⟩
 | some m =>
  obtain rfl : n1 = m:=hnum m hm
  refine aN (vs:=[_]) F ⟨aw F F F F,trivial⟩ F sB ⟨Gh.le.refl _,.nd 110 (a8 n1) 0 [],⟨110,a8 n1,0,none,0,0⟩,s.dropWhile br,false,F,be dC dC,F,oM,fun _=>⟨F,by rw [hrd];unfold cC;rw [hm];rfl⟩,fun h=>(by cases h)⟩
theorem zh {n r sc : Nat} {qs : List b8} {s : abu} (hr : aL (ag qs) [116] = none) (hs : s.length ≤ 1000) :
  cX abt 126 [Pt r 0,Ag (dQ [116])] G [dH r sc s false] (gO (rd (ag qs) (n + 1) [116]) r sc s false):=by
 have hrd:=mW (ts:=ag qs) (n:=n) (s:=s) (c:=116) (.inr (.inl rfl)) hr
 rw [if_neg dC,if_pos rfl] at hrd
 have cx_sign:=@di G [116] []
 have cx_qu:=xG (G:=G) (r:=r) (sc:=sc) (s:=s) (b:=false) oM
 show cX abt 126 [Pt r 0,Ag [S [],S [116],S []]] G [dH r sc s false] _
 refine b7 [(0,_),(1,_)] Tryz.func126 kR Tryz.ntmps126 F F tU fun B hB hW=>?_
 repeat' (first | refine jR ?_ | (refine jo ?_;first | refine jO fun _=>?_ | refine jL fun _=>?_ | refine ah F ?_ | refine aK F ?_ | refine jV (am F F) ?_ | refine jC F F F ?_ | refine ad F F F cx_sign F ?_ | (refine ai F F F cx_qu F ?_;rintro _ _ ⟨x1,t1,b1,rfl,hQ,rfl⟩;dsimp only [zA,fA])) | refine ae F F ?_ | refine af F F ?_)
 obtain ⟨hQl,hQ0,hQ1⟩:=hQ
 refine aN (vs:=[_]) F ⟨aw F F F F,trivial⟩ F sB ⟨Gh.le.refl _,.nd 116 x1 0 [],⟨116,x1,0,none,0,0⟩,t1,b1,F,be dC dC,F,oM,fun h=>⟨F,by rw [hrd];exact (hQ0 h).2⟩,fun h=>⟨.inr (by rw [hrd];rcases hQ1 h with h | h;cases h;exact h),by simp only [V.tot,V.tots];omega⟩⟩
theorem zm {n r sc : Nat} {qs : List b8} {s : abu} (hr : aL (ag qs) [102] = none) (hs : s.length ≤ 1000) :
  cX abt 126 [Pt r 0,Ag (dQ [102])] G [dH r sc s false] (gO (rd (ag qs) (n + 1) [102]) r sc s false):=by
 have hrd:=mW (ts:=ag qs) (n:=n) (s:=s) (c:=102) (.inr (.inr rfl)) hr
 rw [if_neg dC,if_neg dC] at hrd
 unfold fg at hrd
 have cx_sign:=@di G [102] []
 have cx_tk:=gu (G:=G) (r:=r) (sc:=sc) (s:=s) (l:=[121,101,115]) (b:=false) ⟨oM,by simp⟩
 have cx_wa:=c8 (G:=G) (r:=r) (sc:=sc) (s:=s) (l:=[110,111]) (b:=false) ⟨oM,by simp⟩
 have ey : ∀ l : abu,cG l s false = l.isPrefixOf s:=fun l=>by simp [cG]
 have el : ∀ l : abu,l.isPrefixOf s = true → s.length = l.length + (s.drop l.length).length:=fun l h=>by
  have:=oF h
  have h2:=congrArg List.length this
  rwa [List.length_append] at h2
 show cX abt 126 [Pt r 0,Ag [S [],S [102],S []]] G [dH r sc s false] _
 cases hy : ([121,101,115] : abu).isPrefixOf s with
 | true =>
  have hl : s.length = 3 + (s.drop 3).length:=el _ hy
  unfold dz at cx_tk
  rw [ey,hy,if_pos rfl] at cx_tk
  rw [hy,if_pos rfl] at hrd
  refine b7 [(0,_),(1,_)] Tryz.func126 kR Tryz.ntmps126 F F tU fun B hB hW=>?_
  repeat' (first | refine jR ?_ | (refine jo ?_;first | refine jO fun _=>?_ | refine jL fun _=>?_ | refine ah F ?_ | refine aK F ?_ | refine jV (am F F) ?_ | refine jC F F F ?_ | refine ad F F F cx_sign F ?_ | (refine ai F F F cx_tk F ?_;rintro _ _ ⟨rfl,rfl⟩;dsimp only [zA,fA])) | refine ae F F ?_ | refine af F F ?_)
  refine aN (vs:=[_]) F ⟨aw F F F F,trivial⟩ F sB ⟨Gh.le.refl _,.nd 102 [121,101,115] 0 [],⟨102,[121,101,115],0,none,0,0⟩,s.drop 3,false,F,be dC dC,F,oM,fun _=>⟨F,hrd⟩,fun h=>(by cases h)⟩
 | false =>
  have h1 : cG [121,101,115] s false = false:=by rw [ey,hy]
  rw [h1,fT h1] at cx_tk
  rw [hy,if_neg dC] at hrd
  cases hno : ([110,111] : abu).isPrefixOf s with
  | true =>
   have hl : s.length = 2 + (s.drop 2).length:=el _ hno
   unfold dz at cx_wa
   rw [ey,hno,if_pos rfl] at cx_wa
   rw [hno,if_pos rfl] at hrd
   refine b7 [(0,_),(1,_)] Tryz.func126 kR Tryz.ntmps126 F F tU fun B hB hW=>?_
   repeat' (first | refine jR ?_ | (refine jo ?_;first | refine jO fun _=>?_ | refine jL fun _=>?_ | refine ah F ?_ | refine aK F ?_ | refine jV (am F F) ?_ | refine jC F F F ?_ | refine ad F F F cx_sign F ?_ | (refine ai F F F cx_tk F ?_;rintro _ _ ⟨rfl,rfl⟩;dsimp only [zA,fA]) | (refine ai F F F cx_wa F ?_;rintro _ _ rfl;dsimp only [zA,fA])) | refine ae F F ?_ | refine af F F ?_)
   refine aN (vs:=[_]) F ⟨aw F F F F,trivial⟩ F sB ⟨Gh.le.refl _,.nd 102 [110,111] 0 [],⟨102,[110,111],0,none,0,0⟩,s.drop 2,false,F,be dC dC,F,oM,fun _=>⟨F,hrd⟩,fun h=>(by cases h)⟩
  | false =>
   have h2 : cG [110,111] s false = false:=by rw [ey,hno]
   rw [h2,fT h2,Bool.not_false] at cx_wa
   rw [hno,if_neg dC] at hrd
   refine b7 [(0,_),(1,_)] Tryz.func126 kR Tryz.ntmps126 F F tU fun B hB hW=>?_
   repeat' (first | refine jR ?_ | (refine jo ?_;first | refine jO fun _=>?_ | refine jL fun _=>?_ | refine ah F ?_ | refine aK F ?_ | refine jV (am F F) ?_ | refine jC F F F ?_ | refine ad F F F cx_sign F ?_ | (refine ai F F F cx_tk F ?_;rintro _ _ ⟨rfl,rfl⟩;dsimp only [zA,fA]) | (refine ai F F F cx_wa F ?_;rintro _ _ rfl;dsimp only [zA,fA])) | refine ae F F ?_ | refine af F F ?_)
   refine aN (vs:=[_]) F ⟨aw F F F F,trivial⟩ F sB ⟨Gh.le.refl _,.nd 102 [110,111] 0 [],⟨102,[110,111],0,none,0,0⟩,s,true,F,be dC dC,F,Nat.le_refl _,fun h=>(by cases h),fun _=>⟨.inr hrd,by simp only [V.tot,V.tots,List.length_cons,List.length_nil];omega⟩⟩
theorem zo {n r sc : Nat} {qs : List b8} {c : UInt8} {k s : abu} {t : Ty} (h91 : ¬ (c.toNat = 91 ∨ c.toNat = 63)) (hV : md n sc qs) (hS : ScI G sc qs) (hw : SchW (ag qs)) (hk : aJ (ag qs) (c :: k) = true) (hrf : aL (ag qs) (c :: k) = some t) (hs : s.length < n + 1 ∧ s.length ≤ 1000) :
  cX abt 126 [Pt r 0,Ag (dQ (c :: k))] G [dH r sc s false] (gO (rd (ag qs) (n + 1) (c :: k)) r sc s false):=by
 have hko:=cU hk
 have hsg:=f4 (r:=k) h91
 have hcs:=dB (r:=k) h91
 have hrn : (bc (aG (c :: k))).isSome = true:=by
  rw [hcs];unfold aL at hrf
  cases hx : bc (c :: k) with
  | none=>rw [hx] at hrf;cases hrf
  | some x=>rfl
 have hbs : bs (c :: k) = [64]:=(gB hko).2 hrn
 have hnm : bc (c :: k) = some (nm (c :: k)):=by
  unfold nm;rw [hcs] at hrn ⊢
  cases hx : bc (c :: k) with
  | none=>rw [hx] at hrn;cases hrn
  | some x=>rfl
 have hft : dK (ag qs) (nm (c :: k)) = some t:=by unfold aL at hrf;rw [hnm] at hrf;exact hrf
 have hkv:=d4 qs (nm (c :: k))
 rw [← fq] at hft
 rcases hfq : dU qs (nm (c :: k)) with _ | ⟨p,t'⟩
 ·rw [hfq] at hft;cases hft
 rw [hfq] at hft hkv
 dsimp only [Option.map_some] at hft hkv
 have htt : t' = t:=Option.some.inj hft
 subst htt
 have hqm:=fu hfq
 have htm:=bM hrf
 have hW:=hw.ty t' htm
 have hT : hD G p t':=hS.ty _ hqm
 obtain ⟨u,m,g1,g2,g3⟩:=hS.at'
 have hrd : rd (ag qs) (n + 1) (c :: k) s = bL (ag qs) (rd (ag qs) n) t' s:=by
  rw [rd];unfold eT
  dsimp only
  rw [if_neg (fun h=>h91 (.inl h)),if_neg (fun h=>h91 (.inr h)),hrf]
 have cx_ot : cX abt 171 [Pt r 0,Pt p 0] G [dH r sc s false] (gO (bL (ag qs) (rd (ag qs) n) t') r sc s false):=by
  rcases hW.sort with h | h | h
  ·exact aaz hV hS hw (fun d hd=>dv hw htm oM hd) hT hW h ⟨oM,oM⟩
  ·exact aay hV hS (fun d hd=>dv hw htm oM hd) hT hW h ⟨oM,oM⟩
  ·exact aaA hT hW h ⟨oM,oM⟩
 have cx_sign:=@di G [64] (nm (c :: k))
 unfold dQ
 rw [hsg,hbs]
 clear hft hfq hnm hrn hcs
 refine b7 [(0,_),(1,_)] Tryz.func126 kR Tryz.ntmps126 F F tU fun B hB hW=>?_
 repeat' (first | refine jR ?_ | (refine jo ?_;first | refine jO fun _=>?_ | refine jL fun _=>?_ | refine ah F ?_ | refine aK F ?_ | refine ad F F F cx_sign F ?_) | refine af F F ?_)
 rename_i x3 x4
 (refine ak (ar (id:=21) [.blk x3 (.cells (List.toArray [S [],S [64],S (nm (c :: k))]) sV (0,0))] (by intro y hy;simp only [List.mem_cons,List.not_mem_nil,or_false] at hy ⊢;simp [hy]) aj ?_);refine jW 8 [0,1,2,3,8] (aa 13 271) ?_;(refine jG (aa 13 783) 9 F (an F F F) ?_);refine jA 4 F ?_;(refine ah F ?_);refine jK (aa 13 799) ?_;refine jW 4 [5,6] (aa 13 895) ?_;(refine jG (aa 13 1023) 7 F (ay F F aS F F) ?_);((refine jG (aa 13 2047) 10 F (bG F F (c9 aS) aS F) ?_));refine jA 11 F ?_;(refine da F F F cx_ot F ?_;rintro _ G1 _ hle ⟨u1,c1,t1,b1,rfl,hrep,rfl,hP⟩;dsimp only [zA,fA];skip);refine jK (aa 13 4095) ?_;refine jA 12 F ?_;(refine jC F F F ?_);refine jK (aa 13 8191) ?_;refine jQ ?_)
 all_goals repeat' (refine jR ?_)
 all_goals (obtain ⟨hPl,hP0,hP1⟩:=hP)
 all_goals refine aN (vs:=[_]) F ⟨aw F F F F,trivial⟩ F sB ⟨hle,u1,c1,t1,b1,F,hrep,F,hPl,fun h=>⟨F,by rw [hrd];exact (hP0 h).2⟩,fun h=>by rw [hrd];exact hP1 h⟩
theorem pU {sc : Nat} {qs : List b8} (hw : SchW (ag qs)) : ∀ n,md n sc qs
 | 0=>fun G r k s b _ _ h _=>absurd h (Nat.not_lt_zero _)
 | n + 1=>fun G r k s b hS hk hn hs=>by
  have hV:=pU (sc:=sc) hw n
  cases b with
  | true =>
   exact qS.toM fun v L' ⟨h1,h2⟩=>⟨.nd 0 [] 0 [],⟨0,[],0,none,0,0⟩,s,true,h1,fb,h2,Nat.le_refl _,fun h=>(by cases h),fun _=>⟨.inl F,by simp only [V.tot,V.tots,List.length_nil];omega⟩⟩
  | false =>
   match k,hk with
   | [],hk=>cases hk
   | c :: k,hk =>
    by_cases h1 : c.toNat = 91
    ·obtain rfl:=cB h1 dC
     exact zl hV hS hk ⟨hn,hs⟩
    by_cases h2 : c.toNat = 63
    ·obtain rfl:=cB h2 dC
     exact zi F hV hS hk ⟨hn,hs⟩
    have h91 : ¬ (c.toNat = 91 ∨ c.toNat = 63):=fun h=>by rcases h with h | h <;> omega
    cases hr : aL (ag qs) (c :: k) with
    | some t=>exact zo h91 hV hS hw hk hr ⟨hn,hs⟩
    | none =>
     rcases gU hk h91 hr with e | e | e
     ·rw [e] at hr ⊢;exact zj hr hs
     ·rw [e] at hr ⊢;exact zh hr hs
     ·rw [e] at hr ⊢;exact zm hr hs
def tY (w : Nat) (x : abu) (t : Int) (ks : List V) : Prop :=
 (w = 110 ∧ ks = [] ∧ t = 0 ∧ ∃ n : Int,0 ≤ n ∧ n ≤ 999999 ∧ x = a8 n ∧ aR x 999999 = some n)
 ∨ (w = 116 ∧ ks = [] ∧ t = 0 ∧ dn (39 :: (x ++ [39])) = true)
 ∨ (w = 102 ∧ ks = [] ∧ t = 0 ∧ (x = [121,101,115] ∨ x = [110,111]))
 ∨ (w = 91 ∧ x = [] ∧ t = 0 ∧ ks.length ≤ 20 ∧ ∀ v ∈ ks,v.what ≠ 61)
 ∨ (w = 63 ∧ x = [] ∧ t = 0 ∧ ks.length ≤ 1 ∧ ∀ v ∈ ks,v.what ≠ 61)
 ∨ (w = 69 ∧ x = [] ∧ 0 ≤ t ∧ t ≤ 200 ∧ ks = [])
 ∨ (w = 85 ∧ x = [] ∧ 0 ≤ t ∧ t ≤ 200 ∧ ks.length = 1 ∧ ∀ v ∈ ks,v.what ≠ 61)
 ∨ (w = 61 ∧ x = [] ∧ 0 ≤ t ∧ t ≤ 200 ∧ ks.length = 1 ∧ ∀ v ∈ ks,v.what ≠ 61)
 ∨ (w = 82 ∧ x = [] ∧ t = 0 ∧ ks.Pairwise (fun a b=>a.tag < b.tag) ∧ ∀ v ∈ ks,v.what = 61)
mutual
def V.wf : V → Prop
 | .nd w x t ks=>tY w x t ks ∧ V.wfs ks
def V.wfs : List V → Prop
 | []=>True
 | v :: r=>V.wf v ∧ V.wfs r
end
theorem me : ∀ {ks : List V},V.wfs ks ↔ ∀ v ∈ ks,v.wf
 | []=>by simp [V.wfs]
 | v :: r=>by rw [V.wfs,me (ks:=r)];simp
theorem sh : ∀ (s : abu) {n m : Int},0 ≤ n → cN n s = some m → 0 ≤ m
 | [],n,m,h,e=>by simp only [cN,Option.some.injEq] at e;omega
 | c :: s,n,m,h,e=>by
  unfold cN at e
  split at e
  ·exact sh s oM e
  ·cases e
theorem qm {s : abu} {top n : Int} (h : aR s top = some n) : 0 ≤ n:=by
 unfold aR at h
 split at h
 ·split at h
  ·split at h
   ·rename_i h1 _ _ _ h2;simp only [Option.some.injEq] at h;subst h;exact sh _ (Int.le_refl 0) aS
   ·cases h
  ·cases h
 ·cases h
theorem mX {top : Int} {s r : abu} {n : Int} (h : cC top s = some (n,r)) : 0 ≤ n ∧ n ≤ top ∧ aR (a8 n) top = some n:=by
 unfold cC at h
 cases hn : aR (s.takeWhile br) top with
 | none=>rw [hn] at h;cases h
 | some m =>
  rw [hn] at h
  simp only [Option.map_some,Option.some.injEq,Prod.mk.injEq] at h
  obtain ⟨rfl,_⟩:=h
  obtain ⟨h1,h2,_⟩:=eh hn
  exact ⟨qm hn,h1,by rw [← h2];exact hn⟩
theorem mE {f : abu → Option (V × abu)} : ∀ (m : Nat) (s : abu) (acc : List V) {x : List V × abu},bi f m s acc = some x → x.1.length ≤ acc.length + m
 | 0,_,_,_,e=>by cases e
 | m + 1,s,acc,x,e=>by
  unfold bi at e
  cases hf : f s with
  | none=>rw [hf] at e;cases e
  | some y =>
   rw [hf] at e
   obtain ⟨v,r⟩:=y
   cases r with
   | nil=>cases e
   | cons c r =>
    dsimp only at e
    split at e
    ·have:=mE m r _ e
     simp only [List.length_append,List.length_singleton] at this;omega
    ·split at e
     ·simp only [Option.some.injEq] at e;subst e
      simp only [List.length_append,List.length_singleton];omega
     ·cases e
theorem nN {f : abu → abu → Option (V × abu)} {t : Ty} {s : abu} {x : (Fld × V) × abu} (e : a5 f t s = some x) : 0 ≤ x.1.1.tag ∧ x.1.1.tag ≤ 200:=by
 unfold a5 at e
 cases hn : cC 200 s with
 | none=>rw [hn] at e;cases e
 | some y =>
  rw [hn] at e
  obtain ⟨n,r⟩:=y
  have h1:=mX hn
  dsimp only at e
  cases hd : bZ t.fields n with
  | none=>rw [hd] at e;cases e
  | some d =>
   rw [hd] at e
   have h2 : d.tag = n:=by have:=List.find?_some hd;simpa using this
   cases r with
   | nil=>cases e
   | cons c r' =>
    dsimp only at e
    by_cases hc : c.toNat = 61
    ·rw [if_pos hc] at e
     cases hf : f d.kind r' with
     | none=>rw [hf] at e;cases e
     | some y =>
      rw [hf] at e
      simp only [Option.map_some,Option.some.injEq] at e
      subst e
      dsimp only;omega
    ·rw [if_neg hc] at e;cases e
theorem pb {ts : List Ty} {f : abu → abu → Option (V × abu)} (h : ∀ k s y,f k s = some y → y.1.wf ∧ y.1.what ≠ 61) {t : Ty} : ∀ (m : Nat) (last : Int) (s : abu) (acc : List V) {x : List V × abu},bX ts f t m last s acc = some x → (∀ v ∈ acc,v.wf ∧ v.what = 61 ∧ v.tag ≤ last) → acc.Pairwise (fun a b=>a.tag < b.tag) → (∀ v ∈ x.1,v.wf ∧ v.what = 61) ∧ x.1.Pairwise (fun a b=>a.tag < b.tag)
 | 0,_,_,_,_,e,_,_=>by cases e
 | m + 1,last,s,acc,x,e,ha,hp=>by
  unfold bX at e
  cases hf : a5 f t s with
  | none=>rw [hf] at e;cases e
  | some y =>
   rw [hf] at e
   obtain ⟨_,s',hy⟩:=gT hf
   have ht:=nN hf
   obtain ⟨⟨d,v⟩,r⟩:=y
   dsimp only at e hy ht
   obtain ⟨hv1,hv2⟩:=h _ _ _ hy
   dsimp only at hv1 hv2
   split at e
   ·cases e
   ·rename_i hd
    have hd' : last < d.tag:=oM
    have hw : V.wf (.nd 61 [] d.tag [v]):=by
     rw [V.wf]
     refine ⟨.inr (.inr (.inr (.inr (.inr (.inr (.inr (.inl ⟨F,F,ht.1,ht.2,F,?_⟩))))))),?_,trivial⟩
     ·intro u hu;simp only [List.mem_singleton] at hu;subst hu;exact hv2
     ·exact hv1
    have ha2 : ∀ u ∈ acc ++ [V.nd 61 [] d.tag [v]],u.wf ∧ u.what = 61 ∧ u.tag ≤ d.tag:=fun u hu=>by
     rcases List.mem_append.1 hu with hu | hu
     ·obtain ⟨a1,a2,a3⟩:=ha u hu;exact ⟨a1,a2,oM⟩
     ·simp only [List.mem_singleton] at hu;subst hu;exact ⟨hw,F,Int.le_refl _⟩
    have hp2 : (acc ++ [V.nd 61 [] d.tag [v]]).Pairwise (fun a b=>a.tag < b.tag):=by
     rw [List.pairwise_append]
     refine ⟨hp,List.pairwise_singleton _ _,fun a hA b hB=>?_⟩
     simp only [List.mem_singleton] at hB;subst hB
     have:=(ha a hA).2.2
     show a.tag < d.tag
     omega
    cases r with
    | nil=>cases e
    | cons c r =>
     dsimp only at e
     split at e
     ·exact pb h m _ r _ e ha2 hp2
     ·split at e
      ·simp only [Option.some.injEq] at e;subst e
       exact ⟨fun u hu=>⟨(ha2 u hu).1,(ha2 u hu).2.1⟩,hp2⟩
      ·cases e
theorem wu {ts : List Ty} : ∀ (n : Nat) (k s : abu) (x : V × abu),rd ts n k s = some x → x.1.wf ∧ x.1.what ≠ 61
 | 0,_,_,_,e=>by cases e
 | n + 1,k,s,x,e=>by
  have ih : ∀ k s y,rd ts n k s = some y → y.1.wf ∧ y.1.what ≠ 61:=fun k s y hy=>wu n k s y hy
  have h:=rU k s (x:=x) e
  obtain ⟨v,r⟩:=x
  dsimp only at h ⊢
  cases h with
  | lst0=>exact ⟨by rw [V.wf];exact ⟨.inr (.inr (.inr (.inl ⟨F,F,F,by simp,by simp⟩))),trivial⟩,by simp [V.what]⟩
  | lst k s r vs h =>
   have h1:=mE _ _ _ h
   have h2:=jv (p:=fun v=>v.wf ∧ v.what ≠ 61) (fun s y hy=>ih k s y hy) _ _ _ h (by simp)
   refine ⟨by rw [V.wf];exact ⟨.inr (.inr (.inr (.inl ⟨F,F,F,by simpa using h1,fun v hv=>(h2 v hv).2⟩))),me.2 fun v hv=>(h2 v hv).1⟩,by simp [V.what]⟩
  | non=>exact ⟨by rw [V.wf];exact ⟨.inr (.inr (.inr (.inr (.inl ⟨F,F,F,by simp,by simp⟩)))),trivial⟩,by simp [V.what]⟩
  | opt k s r v h =>
   have h1:=ih _ _ _ h
   have h2 : ∀ u ∈ [v],u.what ≠ 61:=fun u hu=>by simp only [List.mem_singleton] at hu;subst hu;exact h1.2
   exact ⟨by rw [V.wf];exact ⟨.inr (.inr (.inr (.inr (.inl ⟨F,F,F,by simp,h2⟩)))),h1.1,trivial⟩,by simp [V.what]⟩
  | num k s r n _ h =>
   have h1:=mX h
   exact ⟨by rw [V.wf];exact ⟨.inl ⟨F,F,F,n,h1.1,h1.2.1,F,h1.2.2⟩,trivial⟩,by simp [V.what]⟩
  | txt k s r v _ h =>
   unfold dI at h
   split at h
   ·cases h
   ·split at h
    ·split at h
     ·split at h
      ·rename_i hx
       simp only [Option.some.injEq,Prod.mk.injEq] at h
       obtain ⟨rfl,_⟩:=h
       exact ⟨by rw [V.wf];exact ⟨.inr (.inl ⟨F,F,F,hx⟩),trivial⟩,by simp [V.what]⟩
      ·cases h
     ·cases h
    ·cases h
  | flg k s r v _ h =>
   unfold fg at h
   split at h
   ·simp only [Option.some.injEq,Prod.mk.injEq] at h
    obtain ⟨rfl,_⟩:=h
    exact ⟨by rw [V.wf];exact ⟨.inr (.inr (.inl ⟨F,F,F,.inl F⟩)),trivial⟩,by simp [V.what]⟩
   ·split at h
    ·simp only [Option.some.injEq,Prod.mk.injEq] at h
     obtain ⟨rfl,_⟩:=h
     exact ⟨by rw [V.wf];exact ⟨.inr (.inr (.inl ⟨F,F,F,.inr F⟩)),trivial⟩,by simp [V.what]⟩
    ·cases h
  | recd0=>exact ⟨by rw [V.wf];exact ⟨.inr (.inr (.inr (.inr (.inr (.inr (.inr (.inr ⟨F,F,F,by simp,by simp⟩))))))),trivial⟩,by simp [V.what]⟩
  | recd k s r t vs _ _ h =>
   have h1:=pb ih _ _ _ _ h (by simp) (by simp)
   exact ⟨by rw [V.wf];exact ⟨.inr (.inr (.inr (.inr (.inr (.inr (.inr (.inr ⟨F,F,F,h1.2,fun v hv=>(h1.1 v hv).2⟩))))))),me.2 fun v hv=>(h1.1 v hv).1⟩,by simp [V.what]⟩
  | enm k s r t n _ _ h _ =>
   have h1:=mX h
   exact ⟨by rw [V.wf];exact ⟨.inr (.inr (.inr (.inr (.inr (.inl ⟨F,F,h1.1,h1.2.1,F⟩))))),trivial⟩,by simp [V.what]⟩
  | uni k s r t d v _ _ _ h =>
   obtain ⟨_,s',hy⟩:=gT h
   have ht:=nN h
   have h1:=ih _ _ _ hy
   have h2 : ∀ u ∈ [v],u.what ≠ 61:=fun u hu=>by simp only [List.mem_singleton] at hu;subst hu;exact h1.2
   exact ⟨by rw [V.wf];exact ⟨.inr (.inr (.inr (.inr (.inr (.inr (.inl ⟨F,F,ht.1,ht.2,F,h2⟩)))))),h1.1,trivial⟩,by simp [V.what]⟩
theorem vv {ts : List Ty} {k s : abu} {v : V} (h : dp ts k s = some v) : v.wf ∧ v.what ≠ 61:=by
 unfold dp at h
 split at h
 ·split at h
  ·rename_i hr
   simp only [Option.some.injEq] at h;subst h
   exact wu _ _ _ _ hr
  ·cases h
 ·cases h
def j5 (w : Nat) (x : abu) (t : Int) (k : Nat) (j : abu) : abu :=
 if w = 110 then cA ((aR x 999999).getD 0) else if w = 116 then cA x.length ++ x else if w = 102 then (if x = [121,101,115] then [1] else [0])
 else if w = 91 then cA k ++ j else if w = 63 then (if k = 0 then [0] else 1 :: j) else if w = 69 then cA t
 else if w = 85 ∨ w = 61 then cA t ++ (cA j.length ++ j) else j ++ [0]
mutual
def V.bys : V → abu
 | .nd w x t ks=>j5 w x t ks.length (V.byss ks).flatten
def V.byss : List V → List abu
 | []=>[]
 | v :: r=>V.bys v :: V.byss r
end
theorem fk (n : Int) : 1 ≤ (cA n).length:=by
 unfold cA
 rw [num]
 split <;> simp
theorem lc : ∀ ks : List V,V.byss ks = ks.map V.bys
 | []=>rfl
 | v :: r=>by rw [V.byss,lc r];rfl
theorem ld (ks : List V) : (V.byss ks).length = ks.length:=by rw [lc];simp
theorem wj {ks : List V} {i : Nat} (h : i < ks.length) : ac (V.byss ks) i = (ac ks i).bys:=by
 rw [lc,ck (by simpa using h),ck h];simp
theorem ur {x : abu} {top : Int} (h : 0 ≤ top) : 0 ≤ (aR x top).getD 0 ∧ (aR x top).getD 0 ≤ top:=by
 cases hn : aR x top with
 | none=>exact ⟨Int.le_refl _,h⟩
 | some n=>exact ⟨qm hn,(eh hn).1⟩
theorem nv {w : Nat} {x : abu} {t : Int} {k : Nat} {j : abu} (ht : t ≤ 999999) (hx : x.length ≤ 999999) (hk : k ≤ 999999) (hj : j.length ≤ 999999) : 1 ≤ (j5 w x t k j).length ∧ (j5 w x t k j).length ≤ 6 + x.length + j.length:=by
 have h0:=ur (x:=x) (top:=999999) dC
 have h1:=dA (n:=(aR x 999999).getD 0) h0.2
 have h2:=dA (n:=x.length) oM
 have h3:=dA (n:=k) oM
 have h4:=dA ht
 have h5:=dA (n:=j.length) oM
 have g1:=fk ((aR x 999999).getD 0)
 have g2:=fk x.length
 have g3:=fk k
 have g4:=fk t
 unfold j5
 repeat' split
 all_goals ((try simp only [List.length_append,List.length_cons,List.length_nil]);omega)
theorem oB {w : Nat} {x : abu} {t : Int} {ks : List V} (h : tY w x t ks) : 0 ≤ t ∧ t ≤ 200:=by
 unfold tY at h
 omega
mutual
theorem sH : ∀ v : V,v.wf → v.tot ≤ 999999 → 1 ≤ v.bys.length ∧ v.bys.length ≤ v.tot
 | .nd w x t ks,hw,hl=>by
  rw [V.wf] at hw
  rw [V.tot] at hl
  have h0:=e7 ks
  have h1:=l8 ks hw.2 oM
  have h2:=nv (w:=w) (x:=x) (t:=t) (k:=ks.length) (j:=(V.byss ks).flatten) (by have:=oB hw.1;omega) oM oM oM
  rw [V.bys,V.tot];omega
theorem l8 : ∀ ks : List V,V.wfs ks → V.tots ks ≤ 999999 → (V.byss ks).flatten.length ≤ V.tots ks
 | [],_,_=>by simp [V.byss]
 | v :: r,hw,hl=>by
  rw [V.wfs] at hw
  rw [V.tots] at hl
  have h1:=sH v hw.1 oM
  have h2:=l8 r hw.2 oM
  simp only [V.byss,List.flatten_cons,List.length_append,V.tots];omega
end
theorem pr {ks : List V} {i : Nat} (h : i < ks.length) : ((V.byss ks).take (i + 1)).flatten = ((V.byss ks).take i).flatten ++ (ac ks i).bys:=by
 rw [fU (by rw [ld];exact h),wj h];simp
theorem pq (ks : List V) (i : Nat) : (((V.byss ks).take i).flatten).length ≤ (V.byss ks).flatten.length:=by
 have h:=List.take_append_drop i (V.byss ks)
 have h2 : (V.byss ks).flatten = ((V.byss ks).take i).flatten ++ ((V.byss ks).drop i).flatten:=by rw [← List.flatten_append,h]
 rw [h2];simp
theorem xZ {ks : List V} (h : V.wfs ks) {i : Nat} (hi : i < ks.length) : (ac ks i).wf:=by
 rw [ck hi];exact me.1 h _ (List.getElem_mem hi)
abbrev cZ (p : Fld × V) : V:=.nd 61 [] p.1.tag [p.2]
inductive OfK (ts : List Ty) : abu → V → Prop
 | num (k : abu) (n : Int) : 0 ≤ n → n ≤ 999999 → OfK ts (110 :: k) (.nd 110 (a8 n) 0 [])
 | txt (k x : abu) : dn (39 :: (x ++ [39])) = true → OfK ts (116 :: k) (.nd 116 x 0 [])
 | flg (k x : abu) : x = [121,101,115] ∨ x = [110,111] → OfK ts (102 :: k) (.nd 102 x 0 [])
 | lst (k : abu) (ks : List V) : ks.length ≤ 20 → (∀ v ∈ ks,OfK ts k v) → OfK ts (91 :: k) (.nd 91 [] 0 ks)
 | non (k : abu) : OfK ts (63 :: k) (.nd 63 [] 0 [])
 | opt (k : abu) (v : V) : OfK ts k v → OfK ts (63 :: k) (.nd 63 [] 0 [v])
 | recd (k : abu) (t : Ty) (fs : List (Fld × V)) : aL ts k = some t → t.sort = 82 → (∀ p ∈ fs,p.1 ∈ t.fields) → (∀ p ∈ fs,OfK ts p.1.kind p.2) → (∀ p ∈ fs,p.2.out ≠ cx ts p.1) → fs.Pairwise (fun a b=>a.1.tag < b.1.tag) → OfK ts k (.nd 82 [] 0 (fs.map cZ))
 | enm (k : abu) (t : Ty) (d : Fld) : aL ts k = some t → t.sort = 69 → d ∈ t.fields → OfK ts k (.nd 69 [] d.tag [])
 | uni (k : abu) (t : Ty) (d : Fld) (v : V) : aL ts k = some t → t.sort ≠ 82 → t.sort ≠ 69 → d ∈ t.fields → OfK ts d.kind v → OfK ts k (.nd 85 [] d.tag [v])
theorem xw {t : Ty} (hw : TyW t) {d d' : Fld} (h1 : d ∈ t.fields) (h2 : d' ∈ t.fields) (he : d.tag = d'.tag) : d = d':=by
 have hp:=hw.asc
 obtain ⟨i,hi,rfl⟩:=List.mem_iff_getElem.1 h1
 obtain ⟨j,hj,rfl⟩:=List.mem_iff_getElem.1 h2
 rw [List.pairwise_iff_getElem] at hp
 rcases Nat.lt_trichotomy i j with h | h | h
 ·have:=(hp i j hi hj h).1;omega
 ·subst h;rfl
 ·have:=(hp j i hj hi h).1;omega
theorem dg {ts : List Ty} {k : abu} {t : Ty} {c : UInt8} {r : abu} (h : aL ts k = some t) (hk : k = c :: r) (hc : c.toNat ≠ 64) : False:=by
 subst hk
 have : bc (c :: r) = none:=by unfold bc;exact if_neg hc
 unfold aL at h
 rw [this] at h
 cases h
theorem lG {ts : List Ty} {k : abu} {u : V} {t : Ty} (h : OfK ts k u) (hr : aL ts k = some t) :
  (t.sort = 82 ∧ ∃ fs : List (Fld × V),u = .nd 82 [] 0 (fs.map cZ) ∧ (∀ p ∈ fs,p.1 ∈ t.fields) ∧ (∀ p ∈ fs,OfK ts p.1.kind p.2) ∧ (∀ p ∈ fs,p.2.out ≠ cx ts p.1) ∧ fs.Pairwise (fun a b=>a.1.tag < b.1.tag))
  ∨ (t.sort = 69 ∧ ∃ d,u = .nd 69 [] d.tag [] ∧ d ∈ t.fields) ∨ (t.sort ≠ 82 ∧ t.sort ≠ 69 ∧ ∃ d v,u = .nd 85 [] d.tag [v] ∧ d ∈ t.fields ∧ OfK ts d.kind v):=by
 cases h with
 | num=>exact (dg hr F dC).elim
 | txt=>exact (dg hr F dC).elim
 | flg=>exact (dg hr F dC).elim
 | lst=>exact (dg hr F dC).elim
 | non=>exact (dg hr F dC).elim
 | opt=>exact (dg hr F dC).elim
 | recd _ t' fs g1 g2 g3 g4 g5 g6=>rw [hr] at g1;obtain rfl:=Option.some.inj g1;exact .inl ⟨g2,fs,F,g3,g4,g5,g6⟩
 | enm _ t' d g1 g2 g3=>rw [hr] at g1;obtain rfl:=Option.some.inj g1;exact .inr (.inl ⟨g2,d,F,g3⟩)
 | uni _ t' d v g1 g2 g3 g4 g5=>rw [hr] at g1;obtain rfl:=Option.some.inj g1;exact .inr (.inr ⟨g2,g3,d,v,F,g4,g5⟩)
theorem t5 {i : Int} (h : 0 ≤ i ∧ i ≤ 9) : (u8 (48 + i)).toNat = (48 + i).toNat:=by have:=er (a:=48 + i) oM;omega
theorem pz : ∀ (s : abu) {n m : Int} {c : UInt8},cN n s = some m → 48 ≤ c.toNat ∧ c.toNat ≤ 57 → cN n (s ++ [c]) = some (10 * m + ((c.toNat : Int) - 48))
 | [],n,m,c,h,hc=>by simp only [cN,Option.some.injEq] at h;subst h;simp only [List.nil_append,cN,if_pos hc]
 | d :: s,n,m,c,h,hc=>by
  unfold cN at h
  split at h
  ·rename_i hd
   have:=pz s h hc
   simp only [List.cons_append]
   unfold cN
   rw [if_pos hd];exact this
  ·cases h
theorem lR : ∀ (k : Nat) {m : Int},m.toNat ≤ k → 0 ≤ m → cN 0 (a8 m) = some m ∧ ∀ c ∈ a8 m,br c = true:=by
 intro k
 induction k with
 | zero =>
  intro m hk h0
  have : m = 0:=oM
  subst this
  rw [dh dC dC]
  exact ⟨by decide,by intro c hc;simp only [List.mem_singleton] at hc;subst hc;decide⟩
 | succ k ih =>
  intro m hk h0
  by_cases h : m < 10
  ·have hd:=t5 (i:=m) oM
   have hd2 : br (u8 (48 + m)) = true:=by unfold br;rw [decide_eq_true_eq];omega
   rw [dh h h0]
   refine ⟨?_,fun c hc=>by simp only [List.mem_singleton] at hc;subst hc;exact hd2⟩
   unfold cN cN
   rw [if_pos oM];congr 1;omega
  ·obtain ⟨h1,h2⟩:=ih (m:=m / 10) oM oM
   have hd:=t5 (i:=m % 10) oM
   have hd2 : br (u8 (48 + m % 10)) = true:=by unfold br;rw [decide_eq_true_eq];omega
   rw [iw h]
   refine ⟨by rw [pz _ h1 oM];congr 1;omega,fun c hc=>?_⟩
   rcases List.mem_append.1 hc with hc | hc
   ·exact h2 c hc
   ·simp only [List.mem_singleton] at hc;subst hc;exact hd2
theorem n5 {m : Int} (h : m ≤ 999999) : (a8 m).length ≤ 6:=si _ 5 oM
theorem nQ {m top : Int} (h0 : 0 ≤ m) (h1 : m ≤ top) (ht : top ≤ 999999) : aR (a8 m) top = some m:=by
 unfold aR
 rw [if_pos (n5 oM),(lR _ (Nat.le_refl _) h0).1]
 dsimp only
 rw [if_pos ⟨rfl,h1⟩]
def Dl (s : abu) : Prop:=∀ c r,s = c :: r → br c = false
theorem iv {c : UInt8} {r : abu} (h : br c = false) : Dl (c :: r):=fun d s e=>by injection e with e1 e2;subst e1;exact h
theorem zf : Dl []:=fun _ _ e=>by cases e
theorem aal : ∀ {s : abu},Dl s → s.takeWhile br = [] ∧ s.dropWhile br = s
 | [],_=>⟨rfl,rfl⟩
 | c :: r,h=>by have:=h c r rfl;rw [List.takeWhile_cons,List.dropWhile_cons,this];exact ⟨F,F⟩
theorem t6 {p : UInt8 → Bool} : ∀ {s r : abu},(∀ c ∈ s,p c = true) → (s ++ r).takeWhile p = s ++ r.takeWhile p ∧ (s ++ r).dropWhile p = r.dropWhile p
 | [],_,_=>⟨rfl,rfl⟩
 | c :: s,r,h=>by
  obtain ⟨h1,h2⟩:=t6 (s:=s) (r:=r) fun d hd=>h d (by simp [hd])
  have:=h c (by simp)
  rw [List.cons_append,List.takeWhile_cons,List.dropWhile_cons,this,if_pos rfl,if_pos rfl,h1,h2];exact ⟨F,F⟩
theorem mY {m top : Int} {r : abu} (h0 : 0 ≤ m) (h1 : m ≤ top) (ht : top ≤ 999999) (hr : Dl r) : cC top (a8 m ++ r) = some (m,r):=by
 obtain ⟨e1,e2⟩:=t6 (r:=r) (lR _ (Nat.le_refl _) h0).2
 obtain ⟨e3,e4⟩:=aal hr
 unfold cC
 rw [e1,e2,e3,e4,List.append_nil,nQ h0 h1 ht];rfl
theorem zL {x : abu} (h : dn (39 :: (x ++ [39])) = true) : ∀ j,j < x.length → bt x j ≠ 39:=by
 intro j hj e
 unfold dn at h
 rw [decide_eq_true_eq] at h
 have h1:=h.2.2.2 (j + 1) (by simp;omega)
 rw [d9] at h1
 have h2 : bt (x ++ [39]) j = bt x j:=by simp [bt,List.getD,List.getElem?_append_left hj]
 rw [h2,e] at h1
 rcases h1 with h1 | h1
 ·omega
 ·exact absurd h1 dC
theorem s9 {x r : abu} (h : dn (39 :: (x ++ [39])) = true) : dI (39 :: (x ++ 39 :: r)) = some (.nd 116 x 0 [],r):=by
 have hc : aB 39 (x ++ 39 :: r) = (x,r,true):=by
  have h1:=oT (k:=39) (s:=x ++ 39 :: r) (i:=x.length) (by simp) (fun j hj=>by
   have:=zL h j hj
   have h2 : bt (x ++ 39 :: r) j = bt x j:=by simp [bt,List.getD,List.getElem?_append_left hj]
   rw [h2];exact this) (by simp [bt,List.getD])
  rw [h1]
  congr 1
  ·exact List.take_left
  ·congr 1
   rw [show x.length + 1 = (x ++ [39]).length by simp,show x ++ 39 :: r = (x ++ [39]) ++ r by simp,List.drop_left]
 unfold dI
 dsimp only
 rw [if_pos dC,hc]
 dsimp only
 rw [if_pos h]
theorem um {x r : abu} (h : x = [121,101,115] ∨ x = [110,111]) : fg (x ++ r) = some (.nd 102 x 0 [],r):=by
 unfold fg
 rcases h with rfl | rfl
 ·rw [if_pos (by simp [List.isPrefixOf])];rfl
 ·rw [if_neg (by simp [List.isPrefixOf]),if_pos (by simp [List.isPrefixOf])];rfl
theorem nJ {f : abu → Option (V × abu)} {rest : abu} : ∀ (ks : List V) (m : Nat) (acc : List V),ks ≠ [] → ks.length ≤ m → (∀ v ∈ ks,∀ r,Dl r → f (v.out ++ r) = some (v,r)) → bi f m (aV 44 (ks.map V.out) ++ 93 :: rest) acc = some (acc ++ ks,rest)
 | [],_,_,h,_,_=>absurd rfl h
 | [v],m,acc,_,hm,hf=>by
  obtain ⟨m,rfl⟩ : ∃ n,m = n + 1:=⟨m - 1,by simp at hm;omega⟩
  unfold bi
  simp only [List.map_cons,List.map_nil,aV]
  rw [hf v (by simp) _ (iv dC)]
  dsimp only
  rw [if_neg dC,if_pos dC]
 | v :: u :: ks,m,acc,_,hm,hf=>by
  obtain ⟨m,rfl⟩ : ∃ n,m = n + 1:=⟨m - 1,by simp at hm;omega⟩
  have ih:=nJ (rest:=rest) (u :: ks) m (acc ++ [v]) (by simp) (by simp at hm ⊢;omega) fun w hw=>hf w (by simp [hw])
  unfold bi
  simp only [List.map_cons,aV,List.append_assoc,List.cons_append] at ih ⊢
  rw [hf v (by simp) _ (iv dC)]
  dsimp only
  rw [if_pos dC,ih]
  simp
theorem fX {t : Ty} (hw : TyW t) {d : Fld} (h : d ∈ t.fields) : bZ t.fields d.tag = some d:=by
 cases e : bZ t.fields d.tag with
 | none=>have:=(List.find?_eq_none.1 e) d h;simp at this
 | some d' =>
  have h1 : d'.tag = d.tag:=by have:=List.find?_some e;simpa using this
  rw [xw hw (List.mem_of_find?_eq_some e) h h1]
theorem kG {f : abu → abu → Option (V × abu)} {t : Ty} (hw : TyW t) {d : Fld} {v : V} {r : abu} (h : d ∈ t.fields) (hf : f d.kind (v.out ++ r) = some (v,r)) : a5 f t (a8 d.tag ++ 61 :: (v.out ++ r)) = some ((d,v),r):=by
 have ht:=(hw.fld d h).tag
 unfold a5
 rw [mY oM ht.2 dC (iv dC)]
 dsimp only
 rw [fX hw h]
 dsimp only
 rw [if_pos dC,hf];rfl
theorem pc {ts : List Ty} {f : abu → abu → Option (V × abu)} {t : Ty} (hw : TyW t) {rest : abu} : ∀ (fs : List (Fld × V)) (m : Nat) (last : Int) (acc : List V),fs ≠ [] → fs.length ≤ m → (∀ p ∈ fs,p.1 ∈ t.fields ∧ p.2.out ≠ cx ts p.1 ∧ last < p.1.tag ∧ ∀ r,Dl r → f p.1.kind (p.2.out ++ r) = some (p.2,r)) → fs.Pairwise (fun a b=>a.1.tag < b.1.tag) →
  bX ts f t m last (aV 44 ((fs.map cZ).map V.out) ++ 125 :: rest) acc = some (acc ++ fs.map cZ,rest)
 | [],_,_,_,h,_,_,_=>absurd rfl h
 | [p],m,last,acc,_,hm,hf,_=>by
  obtain ⟨m,rfl⟩ : ∃ n,m = n + 1:=⟨m - 1,by simp at hm;omega⟩
  obtain ⟨h1,h2,h3,h4⟩:=hf p (by simp)
  unfold bX
  simp only [List.map_cons,List.map_nil,aV,cZ,kf,List.append_assoc,List.cons_append]
  rw [kG hw h1 (h4 _ (iv dC))]
  dsimp only
  rw [if_neg (by rintro (h | h);omega;exact h2 h),if_neg dC,if_pos dC]
 | p :: q :: fs,m,last,acc,_,hm,hf,hp=>by
  obtain ⟨m,rfl⟩ : ∃ n,m = n + 1:=⟨m - 1,by simp at hm;omega⟩
  obtain ⟨h1,h2,h3,h4⟩:=hf p (by simp)
  rw [List.pairwise_cons] at hp
  have ih:=pc (ts:=ts) (f:=f) hw (rest:=rest) (q :: fs) m p.1.tag (acc ++ [cZ p]) (by simp) (by simp at hm ⊢;omega) (fun w hw=>⟨(hf w (by simp [hw])).1,(hf w (by simp [hw])).2.1,hp.1 w hw,(hf w (by simp [hw])).2.2.2⟩) hp.2
  unfold bX
  simp only [List.map_cons,aV,kf,List.append_assoc,List.cons_append] at ih ⊢
  rw [kG hw h1 (h4 _ (iv dC))]
  dsimp only
  rw [if_neg (by rintro (h | h);omega;exact h2 h),if_pos dC,ih]
  simp
theorem pA {m : Int} (h : 0 ≤ m) : ∃ c r,a8 m = c :: r ∧ br c = true:=by
 cases e : a8 m with
 | nil=>have:=kV m;rw [e] at this;simp at this
 | cons c r=>exact ⟨c,r,F,(lR _ (Nat.le_refl _) h).2 c (by rw [e];simp)⟩
theorem wO {c : UInt8} (h : br c = true) : 48 ≤ c.toNat ∧ c.toNat ≤ 57:=by unfold br at h;rwa [decide_eq_true_eq] at h
theorem vL {ts : List Ty} {k : abu} {v : V} (h : OfK ts k v) : ∃ c r,v.out = c :: r ∧ c.toNat ≠ 93:=by
 cases h with
 | num k n h1 h2=>obtain ⟨c,r,e,hc⟩:=pA h1;have:=wO hc;exact ⟨c,r,by rw [V.out];exact e,oM⟩
 | txt k x=>exact ⟨39,_,by rw [V.out];rfl,by decide⟩
 | flg k x h=>rcases h with rfl | rfl;exact ⟨121,_,by rw [V.out];rfl,by decide⟩;exact ⟨110,_,by rw [V.out];rfl,by decide⟩
 | lst=>exact ⟨91,_,by rw [V.out];rfl,by decide⟩
 | non=>exact ⟨45,_,by rw [V.out];rfl,by decide⟩
 | opt=>exact ⟨43,_,by rw [V.out];rfl,by decide⟩
 | recd=>exact ⟨123,_,by rw [V.out];rfl,by decide⟩
 | enm=>exact ⟨35,_,by rw [V.out];rfl,by decide⟩
 | uni=>exact ⟨60,_,by rw [V.out];rfl,by decide⟩
theorem ww {ts : List Ty} (hw : SchW ts) : ∀ (n : Nat) {k : abu} {v : V},OfK ts k v → v.deep ≤ n → ∀ r,Dl r → rd ts n k (v.out ++ r) = some (v,r)
 | 0,k,v,h,hd,r,hr=>by
  obtain ⟨w,x,t,ks⟩:=v
  have hne : w ≠ 61:=by cases h <;> decide
  rw [cj hne] at hd;omega
 | n + 1,k,v,h,hd,r,hr=>by
  have ih:=fun {k : abu} {v : V}=>ww hw n (k:=k) (v:=v)
  show eT ts (rd ts n) k (v.out ++ r) = some (v,r)
  cases h with
  | num k m h1 h2 =>
   have e : V.out (.nd 110 (a8 m) 0 []) = a8 m:=by rw [V.out];rfl
   have hrf : aL ts (110 :: k) = none:=by cases h : aL ts (110 :: k) with | none=>rfl | some t=>exact (dg h F dC).elim
   rw [e]
   unfold eT
   try dsimp only
   rw [if_neg dC,if_neg dC,hrf]
   try dsimp only
   rw [if_pos dC,mY h1 h2 dC hr];rfl
  | txt k x h1 =>
   have e : V.out (.nd 116 x 0 []) ++ r = 39 :: (x ++ 39 :: r):=by rw [V.out];simp [d6]
   have hrf : aL ts (116 :: k) = none:=by cases h : aL ts (116 :: k) with | none=>rfl | some t=>exact (dg h F dC).elim
   rw [e]
   unfold eT
   try dsimp only
   rw [if_neg dC,if_neg dC,hrf]
   try dsimp only
   rw [if_neg dC,if_pos dC,s9 h1]
  | flg k x h1 =>
   have e : V.out (.nd 102 x 0 []) = x:=by rw [V.out];rfl
   have hrf : aL ts (102 :: k) = none:=by cases h : aL ts (102 :: k) with | none=>rfl | some t=>exact (dg h F dC).elim
   rw [e]
   unfold eT
   try dsimp only
   rw [if_neg dC,if_neg dC,hrf]
   try dsimp only
   rw [if_neg dC,if_neg dC,if_pos dC,um h1]
  | lst k ks h1 h2 =>
   rw [cj dC] at hd
   rw [vK]
   unfold eT
   try dsimp only
   rw [if_pos dC]
   try dsimp only
   rw [if_pos dC]
   cases ks with
   | nil=>simp only [List.map_nil,aV,List.nil_append];rw [if_pos dC]
   | cons v ks =>
    have hI:=nJ (f:=rd ts n k) (rest:=r) (v :: ks) 20 [] (by simp) h1 fun u hu r hr=>ih (h2 u hu) (by have:=V.deep_mem hu;omega) r hr
    obtain ⟨c,s,e1,e2⟩:=vL (h2 v (by simp))
    cases hj : aV 44 ((v :: ks).map V.out) ++ 93 :: r with
    | nil=>simp at hj
    | cons c' s' =>
     have hc' : c' = c:=by
      have : ∃ s2,aV 44 ((v :: ks).map V.out) ++ 93 :: r = c :: s2:=by
       cases ks with
       | nil=>simp only [List.map_cons,List.map_nil,aV,e1,List.cons_append];exact ⟨_,F⟩
       | cons u ks=>simp only [List.map_cons,aV,e1,List.cons_append];exact ⟨_,F⟩
      obtain ⟨s2,h3⟩:=this
      rw [hj] at h3;injection h3
     try dsimp only
     rw [if_neg (by rw [hc'];exact e2),← hj,hI];rfl
  | non k =>
   have e : V.out (.nd 63 [] 0 []) ++ r = 45 :: r:=by rw [V.out];rfl
   rw [e]
   unfold eT
   try dsimp only
   rw [if_neg dC,if_pos dC]
   try dsimp only
   rw [if_pos dC]
  | opt k v h1 =>
   rw [cj dC] at hd
   have hd2 : v.deep ≤ n:=by have:=V.deep_mem (ks:=[v]) (v:=v) (by simp);omega
   rw [xa]
   unfold eT
   try dsimp only
   rw [if_neg dC,if_pos dC]
   try dsimp only
   rw [if_neg dC,if_pos dC,ih h1 hd2 r hr];rfl
  | recd k t fs h1 h2 h3 h4 h5 h6 =>
   rw [cj dC] at hd
   have hk : ∃ k',k = 64 :: k':=by
    cases k with
    | nil=>simp [aL,bc] at h1
    | cons c k' =>
     by_cases h64 : c.toNat = 64
     ·exact ⟨k',by rw [show c = 64 from UInt8.toNat_inj.1 h64]⟩
     ·exact (dg h1 F h64).elim
   obtain ⟨k',rfl⟩:=hk
   rw [w9]
   unfold eT
   try dsimp only
   rw [if_neg dC,if_neg dC,h1]
   try dsimp only
   unfold bL
   dsimp only
   rw [if_pos h2,if_pos dC]
   cases fs with
   | nil=>simp only [List.map_nil,aV,List.nil_append];rw [if_pos dC]
   | cons p fs =>
    have hlen : (p :: fs).length ≤ (aV 44 (((p :: fs).map cZ).map V.out) ++ 125 :: r).length + 1:=by
     have h7 : ∀ xs : List abu,(∀ x ∈ xs,1 ≤ x.length) → xs.length ≤ (aV 44 xs).length:=by
      intro xs
      induction xs with
      | nil=>intro _;simp
      | cons x xs ihx =>
       intro hx
       have hx1:=hx x (by simp)
       have ihx:=ihx fun y hy=>hx y (by simp [hy])
       cases xs with
       | nil=>simp only [aV,List.length_cons,List.length_nil];omega
       | cons y xs=>simp only [aV,List.length_append,List.length_cons] at ihx ⊢;omega
     have h8:=h7 (((p :: fs).map cZ).map V.out) (fun x hx=>by
      obtain ⟨v,hv,rfl⟩:=List.mem_map.1 hx
      obtain ⟨q,hq,rfl⟩:=List.mem_map.1 hv
      rw [kf];simp;omega)
     simp only [List.length_map] at h8
     simp only [List.length_append,List.length_cons]
     simp only [List.length_cons] at h8
     omega
    have hI:=pc (ts:=ts) (f:=rd ts n) (hw.ty t (bM h1)) (rest:=r) (p :: fs) ((aV 44 (((p :: fs).map cZ).map V.out) ++ 125 :: r).length + 1) 0 [] (by simp) hlen (fun q hq=>⟨h3 q hq,h5 q hq,by have:=((hw.ty t (bM h1)).fld _ (h3 q hq)).tag;omega,fun r hr=>ih (h4 q hq) (by
     have:=V.deep_mem (ks:=(p :: fs).map cZ) (v:=cZ q) (List.mem_map.2 ⟨q,hq,rfl⟩)
     rw [show V.deep (cZ q) = V.deep q.2 from ng] at this
     omega) r hr⟩) h6
    obtain ⟨c,s,e1,e2⟩:=pA (m:=p.1.tag) (by have:=((hw.ty t (bM h1)).fld _ (h3 p (by simp))).tag;omega)
    have he2:=wO e2
    cases hj : aV 44 (((p :: fs).map cZ).map V.out) ++ 125 :: r with
    | nil=>simp at hj
    | cons c' s' =>
     have hc' : c' = c:=by
      have : ∃ s2,aV 44 (((p :: fs).map cZ).map V.out) ++ 125 :: r = c :: s2:=by
       cases fs with
       | nil=>simp only [List.map_cons,List.map_nil,aV,kf,e1,List.cons_append];exact ⟨_,F⟩
       | cons u ks=>simp only [List.map_cons,aV,kf,e1,List.cons_append];exact ⟨_,F⟩
      obtain ⟨s2,h3⟩:=this
      rw [hj] at h3;injection h3
     try dsimp only
     rw [if_neg (by rw [hc'];omega),← hj,hI];rfl
  | enm k t d h1 h2 h3 =>
   have hk : ∃ k',k = 64 :: k':=by
    cases k with
    | nil=>simp [aL,bc] at h1
    | cons c k' =>
     by_cases h64 : c.toNat = 64
     ·exact ⟨k',by rw [show c = 64 from UInt8.toNat_inj.1 h64]⟩
     ·exact (dg h1 F h64).elim
   obtain ⟨k',rfl⟩:=hk
   have ht:=((hw.ty t (bM h1)).fld d h3).tag
   have e : V.out (.nd 69 [] d.tag []) ++ r = 35 :: (a8 d.tag ++ r):=by rw [V.out];rfl
   rw [e]
   unfold eT
   try dsimp only
   rw [if_neg dC,if_neg dC,h1]
   try dsimp only
   unfold bL
   dsimp only
   rw [if_neg oM,if_pos h2,if_pos dC,mY oM ht.2 dC hr]
   try dsimp only
   rw [fX (hw.ty t (bM h1)) h3,if_pos (by simp)]
  | uni k t d v h1 h2 h3 h4 h5 =>
   rw [cj dC] at hd
   have hd2 : v.deep ≤ n:=by have:=V.deep_mem (ks:=[v]) (v:=v) (by simp);omega
   have hk : ∃ k',k = 64 :: k':=by
    cases k with
    | nil=>simp [aL,bc] at h1
    | cons c k' =>
     by_cases h64 : c.toNat = 64
     ·exact ⟨k',by rw [show c = 64 from UInt8.toNat_inj.1 h64]⟩
     ·exact (dg h1 F h64).elim
   obtain ⟨k',rfl⟩:=hk
   rw [rW]
   unfold eT
   try dsimp only
   rw [if_neg dC,if_neg dC,h1]
   try dsimp only
   unfold bL
   dsimp only
   rw [if_neg h2,if_neg h3,if_pos dC,kG (hw.ty t (bM h1)) h4 (ih h5 hd2 _ (iv dC))]
   try dsimp only
   rw [if_pos dC]
theorem pT {ts : List Ty} (hw : SchW ts) {k : abu} {v : V} (h : OfK ts k v) (hl : v.out.length ≤ 400) (hd : v.deep ≤ 12) : dp ts k v.out = some v:=by
 have h1:=ww hw 12 h hd [] zf
 rw [List.append_nil] at h1
 unfold dp
 rw [if_pos hl,h1]
theorem r3 {ts : List Ty} {k : abu} (h : aJ ts k = true) : ∃ c r,k = c :: r:=by
 cases k with
 | nil=>unfold aJ bn eN at h;simp at h
 | cons c r=>exact ⟨c,r,F⟩
theorem z6 {t : Ty} (hw : TyW t) (hs : t.sort ≠ 82) : t.fields.headD default ∈ t.fields:=by
 have:=hw.ne hs
 cases h : t.fields with
 | nil=>exact absurd h this
 | cons d r=>simp
theorem tI : a8 0 = [48]:=by rw [dh dC dC];decide
theorem kJ : V.out (.nd 110 (a8 0) 0 []) = [48]:=by rw [V.out];exact tI
def ew (p : Pr) : List Value:=[S p.1,S p.2]
instance : RowF ew 2:=⟨fun _=>rfl⟩
abbrev dY : TypeId:=211
abbrev dM : TypeId:=161
abbrev gm : TypeId:=110
abbrev i8 : TypeId:=112
instance : PK abt dY:=PK.mk' (N:=abt.types.size - 1) (st:=9) (fs:=bo abt dY) kR kR kR kR kR kR kR kR kR kR kR kR
def wn (ab : Nat) (u1 u2 : Value) (r : Bool × List Pr) (v : Value) (L' : List Own) : Prop:=∃ v',v = Bo r.1 ∧ L' = [.blk ab (.cells (List.toArray [u1,u2,v']) dM (0,0)),.acc v' dY 2 r.2.length (ao ew r.2)]
abbrev vq (G : Gh) (ab : Nat) (u1 u2 : Value) (ts us : List Ty) (n : Nat) : Prop:=∀ (k1 k2 : abu) (m : List Pr) (v : Value),AskW ts us m → ts.length * us.length < m.length + n → aJ ts k1 = true → aJ us k2 = true →
 b6 abt 119 [Pt ab 0,S k1,S k2] G [.blk ab (.cells (List.toArray [u1,u2,v]) dM (0,0)),.acc v dY 2 m.length (ao ew m)] (wn ab u1 u2 (dw ts us n k1 k2 m))
abbrev aaK (t u : Ty) (ts us : List Ty) (kk : abu → abu → List Pr → Bool × List Pr) (m : List Pr) (i : Nat × List Pr × Value) : Prop :=
 (i.1 ≤ u.fields.length ∧ m.length ≤ i.2.1.length) ∧ AskW ts us i.2.1 ∧ fw ts us kk t u (u.fields.drop i.1) i.2.1 = fw ts us kk t u u.fields m
theorem lk {α : Type} [Inhabited α] {l : List α} {i : Nat} (h : i < l.length) : l.drop i = ac l i :: l.drop (i + 1):=by
 rw [List.drop_eq_getElem_cons h,ck h]
theorem vZ {ab n : Nat} {u1 u2 : Value} {vs ws : List cW} (h1 : SchR G u1 vs) (h2 : SchR G u2 ws) (w1 : SchW (aQ vs)) (w2 : SchW (aQ ws)) (ih : vq G ab u1 u2 (aQ vs) (aQ ws) n)
  {x y : cW} (hx : x ∈ vs) (hy : y ∈ ws) {m : List Pr} {v : Value} (hm : AskW (aQ vs) (aQ ws) m) (hf : (aQ vs).length * (aQ ws).length < m.length + n) :
  b6 abt 159 [Pt ab 0,Ag (iX x),Ag (iX y)] G [.blk ab (.cells (List.toArray [u1,u2,v]) dM (0,0)),.acc v dY 2 m.length (ao ew m)] (wn ab u1 u2 (lQ (aQ vs) (aQ ws) (dw (aQ vs) (aQ ws) n) x.2 y.2 m)):=by
 have hxt : x.2 ∈ aQ vs:=List.mem_map_of_mem hx
 have hyt : y.2 ∈ aQ ws:=List.mem_map_of_mem hy
 have hfx:=h1.fl _ hx
 have hfy:=h2.fl _ hy
 have W1:=w1.ty _ hxt
 have W2:=w2.ty _ hyt
 obtain ⟨⟨a1,c1⟩,t⟩:=x
 obtain ⟨⟨a2,c2⟩,u⟩:=y
 simp only [iB] at hfx hfy
 dsimp only at hxt hyt hfx hfy W1 W2 ⊢
 simp only [iX,iB]
 have fl1:=W1.len
 have fl2:=W2.len
 unfold lQ
 by_cases hs : t.sort = u.sort
 case neg =>
  rw [if_pos hs]
  refine jH [(0,_),(1,_),(2,_)] Tryz.func159 Tryz.ntmps159 fun B hB hW=>?_
  repeat' (first | refine jR ?_ | (refine jo ?_;first | refine jO fun _=>?_ | refine ah F ?_) | refine ae F (aC oM) ?_)
  refine aN (vs:=[_]) (L':=[.blk ab (.cells (List.toArray [u1,u2,v]) dM (0,0)),.acc v dY 2 m.length (ao ew m)]) F ⟨F,trivial⟩ F sB ⟨F,v,F,F⟩
 rw [if_neg (by simp [hs])]
 refine jH [(0,_),(1,_),(2,_)] Tryz.func159 Tryz.ntmps159 fun B hB hW=>?_
 repeat' (first | refine jR ?_ | (refine jo ?_;first | refine jO fun _=>?_ | refine ah F ?_) | refine af F (aF oM) ?_)
 rename_i x4 x5
 refine Nx.perm (L':=[.blk ab (.cells (List.toArray [u1,u2,v]) dM (0,0)),.acc v dY 2 m.length (ao ew m),.blk x5 (.cells (List.toArray [U8 u.sort,S u.name,.slice a2 u.fields.length c2]) gm (0,0)),.blk x4 (.cells (List.toArray [U8 t.sort,S t.name,.slice a1 t.fields.length c1]) gm (0,0))]) (List.perm_append_comm (l₁:=[Own.blk x5 (.cells (List.toArray [U8 u.sort,S u.name,.slice a2 u.fields.length c2]) gm (0,0)),Own.blk x4 (.cells (List.toArray [U8 t.sort,S t.name,.slice a1 t.fields.length c1]) gm (0,0))]) (l₂:=[Own.blk ab (.cells (List.toArray [u1,u2,v]) dM (0,0)),Own.acc v dY 2 m.length (ao ew m)])) ?_
 refine aU (ι:=Nat × List Pr × Value) (fun i=>aaK t u (aQ vs) (aQ ws) (dw (aQ vs) (aQ ws) n) m i) (fun i=>[(0,Pt ab 0),(4,Pt x4 0),(5,Pt x5 0),(7,I i.1)]) (fun _=>G) (fun i=>[.blk ab (.cells (List.toArray [u1,u2,i.2.2]) dM (0,0)),.acc i.2.2 dY 2 i.2.1.length (ao ew i.2.1),.blk x5 (.cells (List.toArray [U8 u.sort,S u.name,.slice a2 u.fields.length c2]) gm (0,0)),.blk x4 (.cells (List.toArray [U8 t.sort,S t.name,.slice a1 t.fields.length c1]) gm (0,0))]) (fun i=>u.fields.length - i.1) (0,m,v) ?_ tU F a6 (fun i Hi=>?_)
 ·exact ⟨⟨Nat.zero_le _,Nat.le_refl _⟩,hm,F⟩
 obtain ⟨i,mi,vi⟩:=i
 dsimp only at Hi ⊢
 obtain ⟨⟨hi1,hml⟩,hask,hev⟩:=Hi
 dsimp only at hi1 hml hask hev
 by_cases hi : i < u.fields.length
 case neg =>
  repeat' (first | refine jR ?_ | (refine jo ?_;first | refine ah F ?_ | refine jV (aq F) ?_) | refine af F (aF oM) ?_)
  refine aN (vs:=[_]) (L':=[.blk ab (.cells (List.toArray [u1,u2,vi]) dM (0,0)),.acc vi dY 2 mi.length (ao ew mi)]) F ⟨F,trivial⟩ F sB ⟨F,vi,?_,?_⟩
  ·rw [← hev,List.drop_eq_nil_of_le oM];rfl
  ·rw [← hev,List.drop_eq_nil_of_le oM];rfl
 rw [lk hi,fw] at hev
 obtain ⟨bu,ou,cu',e,hsu⟩:=hfy.expl oM
 simp only [Value.slice.injEq] at e
 obtain ⟨rfl,-,rfl⟩:=e
 have cx_fl0:=wi (x:=((a1,c1),t)) (tag:=(ac u.fields i).tag) hfx (by dsimp only;omega)
 simp only [iB] at cx_fl0
 cases hft : bZ t.fields (ac u.fields i).tag with
 | none =>
  rw [hft] at hev cx_fl0
  dsimp only at hev
  have cx_fld : aI abt 185 [Ag [U8 t.sort,S t.name,.slice a1 t.fields.length c1],I (ac u.fields i).tag] G (· = Tu [Ag [I 0,S [],S [],S []],Bo false]):=cx_fl0
  by_cases hR : u.sort = 82
  ·rw [if_pos hR] at hev
   have hR2 : t.sort = 82:=oM
   repeat' (first | refine jM ?_ | (refine jo ?_;first | refine ah F ?_ | (refine jV (bz F F aS ?_) ?_;focus omega) | refine aK F ?_ | refine jV (aq F) ?_ | refine jV (al F F oM) ?_ | refine jL fun _=>?_ | refine jC F F F ?_ | refine aP F ?_ | refine ad F F F cx_fld F ?_) | refine aO F F F ?_ | (refine ae F (by first | rfl | (refine decide_eq_true ?_;(omega))) ?_) | refine af F (aF oM) ?_)
   exact aT (i + 1,mi,vi) ⟨⟨by dsimp only;omega,hml⟩,hask,hev⟩ (by dsimp only;omega) tU rfl sB
  ·rw [if_neg hR] at hev
   have hR2 : ¬ t.sort = 82:=oM
   repeat' (first | refine jR ?_ | (refine jo ?_;first | refine ah F ?_ | (refine jV (bz F F aS ?_) ?_;focus omega) | refine aK F ?_ | refine jV (aq F) ?_ | refine jV (al F F oM) ?_ | refine jL fun _=>?_ | refine jC F F F ?_ | refine aP F ?_ | refine ad F F F cx_fld F ?_) | refine aO F F F ?_ | refine ae F (aC oM) ?_)
   all_goals refine aN (vs:=[_]) (L':=[.blk ab (.cells (List.toArray [u1,u2,vi]) dM (0,0)),.acc vi dY 2 mi.length (ao ew mi)]) F ⟨F,trivial⟩ F sB ⟨F,vi,?_,?_⟩
   all_goals (rw [← hev];first | done | rfl)
 | some f =>
  rw [hft] at hev cx_fl0
  dsimp only at hev
  have cx_fld : aI abt 185 [Ag [U8 t.sort,S t.name,.slice a1 t.fields.length c1],I (ac u.fields i).tag] G (· = Tu [Ag [I f.tag,S f.name,S f.kind,S f.stand],Bo true]):=cx_fl0
  by_cases hE : u.sort = 69
  ·rw [if_pos hE] at hev
   have hE2 : t.sort = 69:=oM
   repeat' (first | refine jM ?_ | (refine jo ?_;first | refine ah F ?_ | (refine jV (bz F F aS ?_) ?_;focus omega) | refine aK F ?_ | refine jV (aq F) ?_ | refine jV (al F F oM) ?_ | refine jL fun _=>?_ | refine jC F F F ?_ | refine aH F ?_ | refine ad F F F cx_fld F ?_) | refine aD F F F ?_ | refine ae F (aC oM) ?_ | refine af F F ?_)
   exact aT (i + 1,mi,vi) ⟨⟨by dsimp only;omega,hml⟩,hask,hev⟩ (by dsimp only;omega) tU rfl sB
  rw [if_neg hE] at hev
  have hE2 : ¬ t.sort = 69:=oM
  have hfm : f ∈ t.fields:=List.mem_of_find?_eq_some hft
  have hin1:=dv w1 hxt hE2 hfm
  have hin2:=dv w2 hyt hE (a7 hi)
  have cx_sta:=qT (f:=f) h1 w1 hin1
  have cx_stb:=qT (f:=ac u.fields i) h2 w2 hin2
  have cx_k0:=ih f.kind (ac u.fields i).kind mi vi hask oM hin1 hin2
  have hgr:=kT (ts:=aQ vs) (us:=aQ ws) n f.kind (ac u.fields i).kind mi hask
  generalize dw (aQ vs) (aQ ws) n f.kind (ac u.fields i).kind mi = r at hev cx_k0 hgr
  obtain ⟨rb,mj⟩:=r
  dsimp only at hev hgr
  cases rb
  ·rw [if_pos rfl] at hev
   have cx_ks : b6 abt 119 [Pt ab 0,S f.kind,S (ac u.fields i).kind] G [.blk ab (.cells (List.toArray [u1,u2,vi]) dM (0,0)),.acc vi dY 2 mi.length (ao ew mi)] (fun v L'=>∃ v',v = Bo false ∧ L' = [.blk ab (.cells (List.toArray [u1,u2,v']) dM (0,0)),.acc v' dY 2 mj.length (ao ew mj)]):=cx_k0
   repeat' (first | refine jR ?_ | (refine jo ?_;first | refine ah F ?_ | (refine jV (bz F F aS ?_) ?_;focus omega) | refine aK F ?_ | refine jV (aq F) ?_ | refine jV (al F F oM) ?_ | refine jL fun _=>?_ | refine jC F F F ?_ | refine aH F ?_ | refine ad F F F cx_fld F ?_) | refine aD F F F ?_ | refine ae F (aC oM) ?_ | (refine af F (by first | rfl | (refine decide_eq_false ?_;(omega))) ?_))
   rename_i x8 x9
   (refine ak (ar (id:=11) [.blk x9 (.cells (List.toArray [I f.tag,S f.name,S f.kind,S f.stand]) i8 (0,0)),.blk x8 (.cells (List.toArray [I (ac u.fields i).tag,S (ac u.fields i).name,S (ac u.fields i).kind,S (ac u.fields i).stand]) i8 (0,0)),.blk x5 (.cells (List.toArray [U8 u.sort,S u.name,.slice (some ⟨bu,ou,none⟩) u.fields.length c2]) gm (0,0)),.blk x4 (.cells (List.toArray [U8 t.sort,S t.name,.slice a1 t.fields.length c1]) gm (0,0))] (by intro y hy;simp only [List.mem_cons,List.not_mem_nil,or_false] at hy ⊢;rcases hy with hy | hy | hy | hy <;> simp [hy]) aj ?_);refine jW 24 [0,1,3] (aa 27 11) ?_;(refine jG (aa 27 15) 2 F (an F F F) ?_);(refine jG (aa 27 31) 4 F (an F F F) ?_);refine jA 5 F ?_;(refine fI F F F cx_ks F ?_;rintro _ _ ⟨v2,rfl,rfl⟩;dsimp only [zA,fA]);refine jS (aa 27 63) ?_;refine jT 19 [6,7] (aa 27 255) ?_;(try (refine Nx.re (d:=58) (v':=Bo true) F (congrArg Value.bool F) ?_));refine jT 18 [8] (aa 27 511) ?_;(refine jN (aa 27 1023) 9 F ?_);refine jT 15 [10,11] (aa 27 4095) ?_;(try (fail));refine jT 9 [12,13,14,18,19,20] (aa 27 1867775) ?_;(refine jN (aa 27 1900543) 15 F ?_);(refine jN (aa 27 1966079) 16 F ?_);(refine jN (aa 27 4063231) 21 F ?_);(refine jN (aa 27 8257535) 22 F ?_);(refine jN (aa 27 8388607) 17 F ?_);(refine jN (aa 27 16777215) 23 F ?_);refine jT 2 [24] (aa 27 33554431) ?_;(refine jN (aa 27 67108863) 25 F ?_);(refine jG (aa 27 134217727) 26 F (bU F F F) ?_);refine jQ ?_)
   repeat' (first | refine jR ?_ | refine ae F F ?_)
   all_goals refine aN (vs:=[_]) (L':=[.blk ab (.cells (List.toArray [u1,u2,v2]) dM (0,0)),.acc v2 dY 2 mj.length (ao ew mj)]) F ⟨F,trivial⟩ F sB ⟨F,v2,?_,?_⟩
   all_goals (rw [← hev];first | done | rfl)
  ·rw [if_neg (by simp)] at hev
   have cx_ks : b6 abt 119 [Pt ab 0,S f.kind,S (ac u.fields i).kind] G [.blk ab (.cells (List.toArray [u1,u2,vi]) dM (0,0)),.acc vi dY 2 mi.length (ao ew mi)] (fun v L'=>∃ v',v = Bo true ∧ L' = [.blk ab (.cells (List.toArray [u1,u2,v']) dM (0,0)),.acc v' dY 2 mj.length (ao ew mj)]):=cx_k0
   have hsf1 : cx (aQ vs) f = cx (aQ vs) f:=rfl
   generalize cx (aQ vs) f = sa at hev cx_sta hsf1
   generalize cx (aQ ws) (ac u.fields i) = sb at hev cx_stb
   clear hsf1
   by_cases hR : u.sort = 82
   ·have hR2 : t.sort = 82:=oM
    by_cases hsab : sa = sb
    ·rw [if_neg (by simp [hsab])] at hev
     repeat' (first | refine jR ?_ | (refine jo ?_;first | refine ah F ?_ | (refine jV (bz F F aS ?_) ?_;focus omega) | refine aK F ?_ | refine jV (aq F) ?_ | refine jV (al F F oM) ?_ | refine jL fun _=>?_ | refine jC F F F ?_ | refine aH F ?_ | refine ad F F F cx_fld F ?_) | refine aD F F F ?_ | refine ae F (aC oM) ?_ | (refine af F (by first | rfl | (refine decide_eq_false ?_;(omega))) ?_))
     rename_i x8 x9
     (refine ak (ar (id:=11) [.blk x9 (.cells (List.toArray [I f.tag,S f.name,S f.kind,S f.stand]) i8 (0,0)),.blk x8 (.cells (List.toArray [I (ac u.fields i).tag,S (ac u.fields i).name,S (ac u.fields i).kind,S (ac u.fields i).stand]) i8 (0,0)),.blk x5 (.cells (List.toArray [U8 u.sort,S u.name,.slice (some ⟨bu,ou,none⟩) u.fields.length c2]) gm (0,0)),.blk x4 (.cells (List.toArray [U8 t.sort,S t.name,.slice a1 t.fields.length c1]) gm (0,0))] (by intro y hy;simp only [List.mem_cons,List.not_mem_nil,or_false] at hy ⊢;rcases hy with hy | hy | hy | hy <;> simp [hy]) aj ?_);refine jW 24 [0,1,3] (aa 27 11) ?_;(refine jG (aa 27 15) 2 F (an F F F) ?_);(refine jG (aa 27 31) 4 F (an F F F) ?_);refine jA 5 F ?_;(refine fI F F F cx_ks F ?_;rintro _ _ ⟨v2,rfl,rfl⟩;dsimp only [zA,fA]);refine jS (aa 27 63) ?_;refine jT 19 [6,7] (aa 27 255) ?_;(try (refine Nx.re (d:=58) (v':=Bo false) F (congrArg Value.bool F) ?_));refine jT 18 [8] (aa 27 511) ?_;(refine jG (aa 27 1023) 9 F (an F F F) ?_);refine jT 15 [10,11] (aa 27 4095) ?_;(try ((refine Nx.re (d:=62) (v':=Bo true) F (congrArg Value.bool (aC oM)) ?_)));refine jT 9 [12,13,14,18,19,20] (aa 27 1867775) ?_;(refine jG (aa 27 1900543) 15 F (an F F F) ?_);(refine jG (aa 27 1966079) 16 F (bC F F F F) ?_);(refine jG (aa 27 4063231) 21 F (an F F F) ?_);(refine jG (aa 27 8257535) 22 F (bC F F F F) ?_);(refine jA 17 F ?_;(refine ad F F F cx_sta F ?_);refine jS (aa 27 8388607) ?_);(refine jA 23 F ?_;(refine ad F F F cx_stb F ?_);refine jS (aa 27 16777215) ?_);refine jT 2 [24] (aa 27 33554431) ?_;(refine jG (aa 27 67108863) 25 F (bU F F F) ?_);(refine jG (aa 27 134217727) 26 F (aW F F F) ?_);refine jQ ?_)
     repeat' (first | refine jM ?_ | (refine af F ?_ ?_;(focus ((simp [*];done);done))))
     all_goals exact aT (i + 1,mj,v2) ⟨⟨by dsimp only;omega,Nat.le_trans hml hgr.2⟩,hgr.1,hev⟩ (by dsimp only;omega) tU rfl sB
    ·rw [if_pos ⟨hR,hsab⟩] at hev
     repeat' (first | refine jR ?_ | (refine jo ?_;first | refine ah F ?_ | (refine jV (bz F F aS ?_) ?_;focus omega) | refine aK F ?_ | refine jV (aq F) ?_ | refine jV (al F F oM) ?_ | refine jL fun _=>?_ | refine jC F F F ?_ | refine aH F ?_ | refine ad F F F cx_fld F ?_) | refine aD F F F ?_ | refine ae F (aC oM) ?_ | (refine af F (by first | rfl | (refine decide_eq_false ?_;(omega))) ?_))
     rename_i x8 x9
     (refine ak (ar (id:=11) [.blk x9 (.cells (List.toArray [I f.tag,S f.name,S f.kind,S f.stand]) i8 (0,0)),.blk x8 (.cells (List.toArray [I (ac u.fields i).tag,S (ac u.fields i).name,S (ac u.fields i).kind,S (ac u.fields i).stand]) i8 (0,0)),.blk x5 (.cells (List.toArray [U8 u.sort,S u.name,.slice (some ⟨bu,ou,none⟩) u.fields.length c2]) gm (0,0)),.blk x4 (.cells (List.toArray [U8 t.sort,S t.name,.slice a1 t.fields.length c1]) gm (0,0))] (by intro y hy;simp only [List.mem_cons,List.not_mem_nil,or_false] at hy ⊢;rcases hy with hy | hy | hy | hy <;> simp [hy]) aj ?_);refine jW 24 [0,1,3] (aa 27 11) ?_;(refine jG (aa 27 15) 2 F (an F F F) ?_);(refine jG (aa 27 31) 4 F (an F F F) ?_);refine jA 5 F ?_;(refine fI F F F cx_ks F ?_;rintro _ _ ⟨v2,rfl,rfl⟩;dsimp only [zA,fA]);refine jS (aa 27 63) ?_;refine jT 19 [6,7] (aa 27 255) ?_;(try (refine Nx.re (d:=58) (v':=Bo false) F (congrArg Value.bool F) ?_));refine jT 18 [8] (aa 27 511) ?_;(refine jG (aa 27 1023) 9 F (an F F F) ?_);refine jT 15 [10,11] (aa 27 4095) ?_;(try ((refine Nx.re (d:=62) (v':=Bo true) F (congrArg Value.bool (aC oM)) ?_)));refine jT 9 [12,13,14,18,19,20] (aa 27 1867775) ?_;(refine jG (aa 27 1900543) 15 F (an F F F) ?_);(refine jG (aa 27 1966079) 16 F (bC F F F F) ?_);(refine jG (aa 27 4063231) 21 F (an F F F) ?_);(refine jG (aa 27 8257535) 22 F (bC F F F F) ?_);(refine jA 17 F ?_;(refine ad F F F cx_sta F ?_);refine jS (aa 27 8388607) ?_);(refine jA 23 F ?_;(refine ad F F F cx_stb F ?_);refine jS (aa 27 16777215) ?_);refine jT 2 [24] (aa 27 33554431) ?_;(refine jG (aa 27 67108863) 25 F (bU F F F) ?_);(refine jG (aa 27 134217727) 26 F (aW F F F) ?_);refine jQ ?_)
     repeat' (first | refine jR ?_ | refine ae F (aC ‹_›) ?_)
     all_goals refine aN (vs:=[_]) (L':=[.blk ab (.cells (List.toArray [u1,u2,v2]) dM (0,0)),.acc v2 dY 2 mj.length (ao ew mj)]) F ⟨F,trivial⟩ F sB ⟨F,v2,?_,?_⟩
     all_goals (rw [← hev];first | done | rfl)
   ·have hR2 : ¬ t.sort = 82:=oM
    rw [if_neg (by simp [hR])] at hev
    repeat' (first | refine jR ?_ | (refine jo ?_;first | refine ah F ?_ | (refine jV (bz F F aS ?_) ?_;focus omega) | refine aK F ?_ | refine jV (aq F) ?_ | refine jV (al F F oM) ?_ | refine jL fun _=>?_ | refine jC F F F ?_ | refine aH F ?_ | refine ad F F F cx_fld F ?_) | refine aD F F F ?_ | refine ae F (aC oM) ?_ | (refine af F (by first | rfl | (refine decide_eq_false ?_;(omega))) ?_))
    rename_i x8 x9
    (refine ak (ar (id:=11) [.blk x9 (.cells (List.toArray [I f.tag,S f.name,S f.kind,S f.stand]) i8 (0,0)),.blk x8 (.cells (List.toArray [I (ac u.fields i).tag,S (ac u.fields i).name,S (ac u.fields i).kind,S (ac u.fields i).stand]) i8 (0,0)),.blk x5 (.cells (List.toArray [U8 u.sort,S u.name,.slice (some ⟨bu,ou,none⟩) u.fields.length c2]) gm (0,0)),.blk x4 (.cells (List.toArray [U8 t.sort,S t.name,.slice a1 t.fields.length c1]) gm (0,0))] (by intro y hy;simp only [List.mem_cons,List.not_mem_nil,or_false] at hy ⊢;rcases hy with hy | hy | hy | hy <;> simp [hy]) aj ?_);refine jW 24 [0,1,3] (aa 27 11) ?_;(refine jG (aa 27 15) 2 F (an F F F) ?_);(refine jG (aa 27 31) 4 F (an F F F) ?_);refine jA 5 F ?_;(refine fI F F F cx_ks F ?_;rintro _ _ ⟨v2,rfl,rfl⟩;dsimp only [zA,fA]);refine jS (aa 27 63) ?_;refine jT 19 [6,7] (aa 27 255) ?_;(try (refine Nx.re (d:=58) (v':=Bo false) F (congrArg Value.bool F) ?_));refine jT 18 [8] (aa 27 511) ?_;(refine jG (aa 27 1023) 9 F (an F F F) ?_);refine jT 15 [10,11] (aa 27 4095) ?_;(try ((refine Nx.re (d:=62) (v':=Bo false) F (congrArg Value.bool (aF oM)) ?_)));refine jT 9 [12,13,14,18,19,20] (aa 27 1867775) ?_;(refine jN (aa 27 1900543) 15 F ?_);(refine jN (aa 27 1966079) 16 F ?_);(refine jN (aa 27 4063231) 21 F ?_);(refine jN (aa 27 8257535) 22 F ?_);(refine jN (aa 27 8388607) 17 F ?_);(refine jN (aa 27 16777215) 23 F ?_);refine jT 2 [24] (aa 27 33554431) ?_;(refine jG (aa 27 67108863) 25 F (aW F F F) ?_);(refine jG (aa 27 134217727) 26 F (aW F F F) ?_);refine jQ ?_)
    repeat' (first | refine jM ?_ | refine af F F ?_)
    all_goals exact aT (i + 1,mj,v2) ⟨⟨by dsimp only;omega,Nat.le_trans hml hgr.2⟩,hgr.1,hev⟩ (by dsimp only;omega) tU rfl sB
theorem g8 {ts : List Ty} {k : abu} (h : aJ ts k = true) (hr : aL ts (aG k) = none) : bc (aG k) = none:=by
 cases hc : bc (aG k) with
 | none=>rfl
 | some x =>
  obtain ⟨t,ht⟩:=f8 h (by rw [hc];rfl)
  rw [hr] at ht;cases ht
theorem ff {ts : List Ty} {k : abu} {t : Ty} (h : aL ts k = some t) : (bc k).isSome = true:=by
 unfold aL at h
 cases hc : bc k with
 | none=>rw [hc] at h;cases h
 | some x=>rfl
theorem AskW.names {ts us : List Ty} {m : List Pr} (h : AskW ts us m) (w1 : SchW ts) (w2 : SchW us) : vp m:=fun p hp=>by
 obtain ⟨⟨t,ht,e1⟩,u,hu,e2⟩:=h.mem p hp
 have:=gH (w1.ty t ht).name
 have:=gH (w2.ty u hu).name
 rw [← e1,← e2];omega
abbrev sS : TypeId:=110
theorem wb {ab : Nat} {u1 u2 : Value} {vs ws : List cW} (h1 : SchR G u1 vs) (h2 : SchR G u2 ws) (w1 : SchW (aQ vs)) (w2 : SchW (aQ ws)) : ∀ n,vq G ab u1 u2 (aQ vs) (aQ ws) n:=by
  intro n
  induction n with
  | zero=>intro k1 k2 m v hm hf;have:=hm.len;omega
  | succ n ih =>
    intro k1 k2 m v hm hf hk1 hk2
    have hm64 : m.length ≤ 64:=Nat.le_trans hm.len (Nat.mul_le_mul w1.len w2.len)
    have hvl : vs.length ≤ 1000000:=by have:=w1.len;rw [j6] at this;omega
    have hwl : ws.length ≤ 1000000:=by have:=w2.len;rw [j6] at this;omega
    have o1:=dy (cU hk1)
    have o2:=dy (cU hk2)
    have oc1:=gM o1.1
    have oc2:=gM o2.1
    have l1:=gf k1
    have l2:=gf k2
    have q1:=o1.1
    have q2:=o2.1
    have e1 : k1.take (((k1.length : Nat) : Int) - ((aG k1).length : Nat)).toNat = sg k1:=by unfold sg;congr 1;omega
    have e2 : k2.take (((k2.length : Nat) : Int) - ((aG k2).length : Nat)).toNat = sg k2:=by unfold sg;congr 1;omega
    unfold dw
    by_cases hs : sg k1 = sg k2
    case neg =>
      rw [if_pos hs]
      have hne : k1.take (((k1.length : Nat) : Int) - ((aG k1).length : Nat)).toNat ≠ k2.take (((k2.length : Nat) : Int) - ((aG k2).length : Nat)).toNat:=by rw [e1,e2];exact hs
      refine jH [(0,_),(1,_),(2,_)] Tryz.func119 Tryz.ntmps119 fun B hB hW=>?_
      repeat' (first | refine jR ?_ | (refine jo ?_;(refine ad F F F (fY (by (repeat (assumption));done)) rfl ?_)) | refine ae F (aC ‹_›) ?_ | (refine ak (ar (id:=3) _ (fun _ h=>h) aj ?_);refine jW 0 [0,1,2,3,4,5,6,7,8,9,10,11,12,13,14] (aa 15 32767) ?_;refine jQ ?_))
      all_goals refine aN (vs:=[_]) (L':=[.blk ab (.cells (List.toArray [u1,u2,v]) dM (0,0)),.acc v dY 2 m.length (ao ew m)]) F ⟨F,trivial⟩ F a6 ⟨F,v,F,F⟩
    rw [if_neg (by simp [hs])]
    have hne : ¬ (k1.take (((k1.length : Nat) : Int) - ((aG k1).length : Nat)).toNat ≠ k2.take (((k2.length : Nat) : Int) - ((aG k2).length : Nat)).toNat):=by rw [e1,e2];simp [hs]
    clear e1 e2
    have r1:=j8 vs (aG k1)
    have r2:=j8 ws (aG k2)
    have cx_rfa:=oe (k:=aG k1) h1 hvl oc1 oM
    have cx_rfb:=oe (k:=aG k2) h2 hwl oc2 oM
    rcases hr1 : fe vs (aG k1) with _ | ⟨⟨a1,c1⟩,t⟩
    · rw [hr1] at r1 cx_rfa
      have r1 : aL (aQ vs) (aG k1) = none:=r1.symm
      have hn1:=g8 hk1 r1
      rw [r1]
      dsimp only
      by_cases hcc : aG k1 = aG k2
      · have hr2 : fe ws (aG k2) = none:=by unfold fe;rw [← hcc,hn1];rfl
        rw [hr2] at cx_rfb
        rw [decide_eq_true hcc]
        refine jH [(0,_),(1,_),(2,_)] Tryz.func119 Tryz.ntmps119 fun B hB hW=>?_
        repeat' (first | refine jR ?_ | (refine jo ?_;first | refine ah F ?_ | refine jL fun _=>?_ | refine jC F F F ?_ | refine aP F ?_ | (refine ad F F F (fY (by (repeat (assumption));done)) rfl ?_) | refine ad F F F cx_rfa F ?_ | refine ad F F F cx_rfb F ?_) | (refine aO F F (by first | rfl | (refine decide_eq_true ?_;(assumption))) ?_) | refine ae F F ?_ | refine af F (aF ‹_›) ?_ | (refine ak (ar (id:=3) _ (fun _ h=>h) aj ?_);refine jW 0 [0,1,2,3,4,5,6,7,8,9,10,11,12,13,14] (aa 15 32767) ?_;refine jQ ?_))
        all_goals refine aN (vs:=[_]) (L':=[.blk ab (.cells (List.toArray [u1,u2,v]) dM (0,0)),.acc v dY 2 m.length (ao ew m)]) F ⟨F,trivial⟩ F sB ⟨F,v,F,F⟩
      · rw [decide_eq_false hcc]
        refine jH [(0,_),(1,_),(2,_)] Tryz.func119 Tryz.ntmps119 fun B hB hW=>?_
        repeat' (first | refine jR ?_ | (refine jo ?_;first | refine ah F ?_ | refine jL fun _=>?_ | refine jC F F F ?_ | refine aP F ?_ | refine aH F ?_ | (refine ad F F F (fY (by (repeat (assumption));done)) rfl ?_) | refine ad F F F cx_rfa F ?_ | refine ad F F F cx_rfb F ?_) | refine aO F F F ?_ | (refine aD F F (by first | rfl | (refine decide_eq_false ?_;(assumption))) ?_) | refine ae F F ?_ | refine af F (aF ‹_›) ?_ | (refine ak (ar (id:=3) _ (fun _ h=>h) aj ?_);refine jW 0 [0,1,2,3,4,5,6,7,8,9,10,11,12,13,14] (aa 15 32767) ?_;refine jQ ?_))
        all_goals refine aN (vs:=[_]) (L':=[.blk ab (.cells (List.toArray [u1,u2,v]) dM (0,0)),.acc v dY 2 m.length (ao ew m)]) F ⟨F,trivial⟩ F sB ⟨F,v,F,F⟩
    rw [hr1] at r1 cx_rfa
    have r1 : aL (aQ vs) (aG k1) = some t:=r1.symm
    rcases hr2 : fe ws (aG k2) with _ | ⟨⟨a2,c2⟩,u⟩
    · rw [hr2] at r2 cx_rfb
      have r2 : aL (aQ ws) (aG k2) = none:=r2.symm
      have hn2:=g8 hk2 r2
      have hcc : ¬ aG k1 = aG k2:=fun e=>by have:=ff r1;rw [e,hn2] at this;cases this
      rw [r1,r2]
      dsimp only
      rw [decide_eq_false hcc]
      refine jH [(0,_),(1,_),(2,_)] Tryz.func119 Tryz.ntmps119 fun B hB hW=>?_
      repeat' (first | refine jR ?_ | (refine jo ?_;first | refine ah F ?_ | refine jL fun _=>?_ | refine jC F F F ?_ | refine aH F ?_ | (refine ad F F F (fY (by (repeat (assumption));done)) rfl ?_) | refine ad F F F cx_rfa F ?_ | refine ad F F F cx_rfb F ?_) | (refine aD F F (by first | rfl | (refine decide_eq_false ?_;(assumption))) ?_) | refine ae F F ?_ | refine af F (aF ‹_›) ?_ | (refine ak (ar (id:=3) _ (fun _ h=>h) aj ?_);refine jW 0 [0,1,2,3,4,5,6,7,8,9,10,11,12,13,14] (aa 15 32767) ?_;refine jQ ?_))
      all_goals refine aN (vs:=[_]) (L':=[.blk ab (.cells (List.toArray [u1,u2,v]) dM (0,0)),.acc v dY 2 m.length (ao ew m)]) F ⟨F,trivial⟩ F sB ⟨F,v,F,F⟩
    rw [hr2] at r2 cx_rfb
    have r2 : aL (aQ ws) (aG k2) = some u:=r2.symm
    rw [r1,r2]
    dsimp only
    have htm:=bM r1
    have hum:=bM r2
    have cx_rfa : aI abt 141 [u1,S (aG k1)] G (· = Tu [Ag [U8 t.sort,S t.name,.slice a1 t.fields.length c1],Bo true]):=cx_rfa
    have cx_rfb : aI abt 141 [u2,S (aG k2)] G (· = Tu [Ag [U8 u.sort,S u.name,.slice a2 u.fields.length c2],Bo true]):=cx_rfb
    have nl1:=gH (w1.ty t htm).name
    have nl2:=gH (w2.ty u hum).name
    have hps:=hm.names w1 w2
    unfold iL
    refine jH [(0,_),(1,_),(2,_)] Tryz.func119 Tryz.ntmps119 fun B hB hW=>?_
    refine Nx.shp (.tail _ (.head _)) fun hsh=>?_
    have hsh2:=hsh.sl
    obtain ⟨av,cv,rfl⟩:=hsh2
    repeat' (first | refine jR ?_ | (refine jo ?_;(refine ad F F F (fY (by (repeat (assumption));done)) rfl ?_)))
    (refine ak (ar (id:=3) _ (fun _ h=>h) aj ?_);refine jW 0 [0,1,2,3,4,5,6,7,8,9,10,11,12,13,14] (aa 15 32767) ?_;refine jQ ?_)
    repeat' (first | refine jR ?_ | (refine jo ?_;first | refine ah F ?_ | refine jL fun _=>?_ | refine jC F F F ?_ | refine aH F ?_ | refine jV (am F F) ?_ | refine ad F F F cx_rfa F ?_ | refine ad F F F cx_rfb F ?_) | refine aD F F F ?_ | (refine af F (by first | rfl | (refine decide_eq_false ?_;(assumption))) ?_))
    rename_i x9 x11 x13
    refine aU (ι:=Nat) (fun i=>i ≤ m.length ∧ ∀ k,k < i → ac m k ≠ (t.name,u.name)) (fun i=>[(0,Pt ab 0),(9,Pt x9 0),(11,Pt x11 0),(13,Pt x13 0),(14,I i)]) (fun _=>G) (fun i=>[.blk x13 (.cells (List.toArray [S t.name,S u.name]) dY (0,0)),.blk x11 (.cells (List.toArray [U8 u.sort,S u.name,.slice a2 u.fields.length c2]) sS (0,0)),.blk x9 (.cells (List.toArray [U8 t.sort,S t.name,.slice a1 t.fields.length c1]) sS (0,0)),.blk ab (.cells (List.toArray [u1,u2,.slice av m.length cv]) dM (0,0)),.acc (.slice av m.length cv) dY 2 m.length (ao ew m)]) (fun i=>m.length - i) 0 ?_ tU F a6 (fun i Hi=>?_)
    · exact ⟨Nat.zero_le _,fun k hk=>absurd hk oM⟩
    by_cases hi : i < m.length
    · obtain ⟨bv,cv',e⟩:=hsh.pos oM
      simp only [Value.slice.injEq] at e
      obtain ⟨rfl,-,rfl⟩:=e
      have hpi:=hps _ (a7 hi)
      have hb : ((ac m i).1.length ≤ 1000000 ∧ (ac m i).2.length ≤ 1000000) ∧ t.name.length ≤ 1000000 ∧ u.name.length ≤ 1000000:=⟨hpi,oM,oM⟩
      by_cases heq : (ac m i).1 = t.name ∧ (ac m i).2 = u.name
      · repeat' (first | refine jR ?_ | (refine jo ?_;first | refine ah F ?_ | refine jV (aq F) ?_) | refine ae F (aC oM) ?_)
        (refine ak (ar (id:=13) _ (fun _ h=>h) aj ?_);refine jT 5 [0,1,2,4] (aa 9 23) ?_;(refine jG (aa 9 31) 3 F (an F F F) ?_);(refine jG (aa 9 63) 5 F (al F F oM) ?_);(refine jG (aa 9 127) 6 F (nZ F F F oM) ?_);(refine jG (aa 9 255) 7 F (bC F F F F) ?_);(refine jG (aa 9 511) 8 F (wK F F ‹_›) ?_);refine jQ ?_)
        repeat' (first | refine jR ?_ | refine ae F (aC ‹_›) ?_)
        all_goals refine aN (vs:=[_]) (L':=[.blk ab (.cells (List.toArray [u1,u2,.slice (some ⟨bv,0,none⟩) m.length cv]) dM (0,0)),.acc (.slice (some ⟨bv,0,none⟩) m.length cv) dY 2 m.length (ao ew m)]) F ⟨F,trivial⟩ F sB ⟨F,.slice (some ⟨bv,0,none⟩) m.length cv,?_,?_⟩
        all_goals have hmem : (t.name, u.name) ∈ m := by
                    have:=a7 hi
                    rwa [show ac m i = (t.name,u.name) from Prod.ext heq.1 heq.2] at this
        all_goals (rw [if_pos hmem];first | done | rfl)
      · repeat' (first | refine jR ?_ | (refine jo ?_;first | refine ah F ?_ | refine jV (aq F) ?_) | refine ae F (aC oM) ?_)
        (refine ak (ar (id:=13) _ (fun _ h=>h) aj ?_);refine jT 5 [0,1,2,4] (aa 9 23) ?_;(refine jG (aa 9 31) 3 F (an F F F) ?_);(refine jG (aa 9 63) 5 F (al F F oM) ?_);(refine jG (aa 9 127) 6 F (nZ F F F oM) ?_);(refine jG (aa 9 255) 7 F (bC F F F F) ?_);(refine jG (aa 9 511) 8 F (wK F F ‹_›) ?_);refine jQ ?_)
        repeat' (first | refine jM ?_ | refine af F (aF ‹_›) ?_)
        all_goals
          refine aT (i + 1) ⟨oM,fun k hk=>?_⟩ oM tU F a6
          rcases Nat.lt_or_ge k i with h3 | h3
          · exact Hi.2 k h3
          · have : k = i:=oM
            subst this
            intro e;rw [e] at heq;exact heq ⟨F,F⟩
    have hnot : (t.name,u.name) ∉ m:=fun h=>by
      obtain ⟨k,hk,e⟩:=iu h
      exact Hi.2 k oM e
    have cx_tsq : ∀ v,b6 abt 159 [Pt ab 0,Ag [U8 t.sort,S t.name,.slice a1 t.fields.length c1],Ag [U8 u.sort,S u.name,.slice a2 u.fields.length c2]] G [.blk ab (.cells (List.toArray [u1,u2,v]) dM (0,0)),.acc v dY 2 (m.length + 1) (ao ew m ++ [S t.name,S u.name])] (wn ab u1 u2 (lQ (aQ vs) (aQ ws) (dw (aQ vs) (aQ ws) n) t u (m ++ [(t.name,u.name)]))):=fun v=>by
      have:=vZ (v:=v) h1 h2 w1 w2 ih (kF hr1) (kF hr2) (hm.snoc htm hum hnot) (by simp only [List.length_append,List.length_cons,List.length_nil];omega)
      simp only [cn,List.length_append,List.length_cons,List.length_nil,Nat.zero_add] at this
      exact this
    rw [if_neg hnot]
    generalize lQ (aQ vs) (aQ ws) (dw (aQ vs) (aQ ws) n) t u (m ++ [(t.name,u.name)]) = r at cx_tsq
    repeat' (first | refine jR ?_ | (refine jo ?_;first | refine ah F ?_ | refine jV (aq F) ?_) | refine af F (aF oM) ?_)
    (refine ak (ar (id:=15) [.blk x13 (.cells (List.toArray [S t.name,S u.name]) dY (0,0)),.blk x11 (.cells (List.toArray [U8 u.sort,S u.name,.slice a2 u.fields.length c2]) sS (0,0)),.blk x9 (.cells (List.toArray [U8 t.sort,S t.name,.slice a1 t.fields.length c1]) sS (0,0))] (by intro y hy;simp only [List.mem_cons,List.not_mem_nil,or_false] at hy ⊢;rcases hy with hy | hy | hy <;> simp [hy]) aj ?_);refine jW 7 [0,1,2,3] (aa 11 15) ?_;(refine jG (aa 11 47) 5 F (bC F F F F) ?_);refine cd [4,6] kR dC ⟨?_,?_,trivial⟩;(focus (refine aX F F ?_;(refine ah F ?_);refine jK (aa 11 63) ?_;refine jA 6 F ?_;(refine jF fun _=>?_);refine jK (aa 11 127) ?_;refine jA 7 F ?_;((refine bj F F F F F F F F F ?_ fun _ _=>?_;focus omega));refine jK (aa 11 255) ?_;refine jW 1 [8,9] (aa 11 1023) ?_;refine jA 10 F ?_;(refine jD F F F ?_);refine jK (aa 11 2047) ?_;refine jQ ?_));rotate_left 1;(focus (refine aX F F ?_;(refine jF fun _=>?_);refine jK (aa 11 111) ?_;refine jA 4 F ?_;(refine ah F ?_);refine jK (aa 11 127) ?_;refine jA 7 F ?_;((refine bj F F F F F F F F F ?_ fun _ _=>?_;focus omega));refine jK (aa 11 255) ?_;refine jW 1 [8,9] (aa 11 1023) ?_;refine jA 10 F ?_;(refine jD F F F ?_);refine jK (aa 11 2047) ?_;refine jQ ?_));rotate_left 1)
    repeat' (first | refine jR ?_ | (refine jo ?_;first | refine aK F ?_ | (refine fI F F F (cx_tsq _) F ?_;rintro _ _ ⟨v2,rfl,rfl⟩;dsimp only [zA,fA])))
    all_goals exact aN (vs:=[_]) (L':=[.blk ab (.cells (List.toArray [u1,u2,v2]) dM (0,0)),.acc v2 dY 2 r.2.length (ao ew r.2)]) F ⟨F,trivial⟩ F sB ⟨F,v2,F,F⟩
abbrev mz : TypeId:=225
instance : PK abt mz:=PK.mk' (N:=abt.types.size - 1) (st:=9) (fs:=bo abt mz) kR kR kR kR kR kR kR kR kR kR kR kR
def zI (mb : Nat) (r : Bool × List Pr) (v : Value) (L' : List Own) : Prop:=v = Bo r.1 ∧ L' = [.blk mb (cl r.2)]
abbrev vr (G : Gh) (eb mb : Nat) (ts us : List Ty) (n : Nat) : Prop:=∀ (k1 k2 : abu) (m : List Pr),AskW ts us m → ts.length * us.length < m.length + n → aJ ts k1 = true → aJ us k2 = true →
 b6 abt 118 [Pt eb 0,Ag [S (sg k1),S (bs k1),S (nm k1)],Ag [S (sg k2),S (bs k2),S (nm k2)]] G [.blk mb (cl m)] (zI mb (dw ts us n k1 k2 m))
abbrev aaL (t u : Ty) (ts us : List Ty) (kk : abu → abu → List Pr → Bool × List Pr) (m : List Pr) (i : Nat × List Pr) : Prop :=
 (i.1 ≤ u.fields.length ∧ m.length ≤ i.2.length) ∧ AskW ts us i.2 ∧ fw ts us kk t u (u.fields.drop i.1) i.2 = fw ts us kk t u u.fields m
theorem v3 {eb mb ba bb n : Nat} {qs rs : List b8} (hE : bN G eb 0 [Pt ba 0,Pt bb 0,.map (some mb)]) (h1 : ScI G ba qs) (h2 : ScI G bb rs) (w1 : SchW (ag qs)) (w2 : SchW (ag rs)) (ih : vr G eb mb (ag qs) (ag rs) n)
  {x y : b8} (hx : x ∈ qs) (hy : y ∈ rs) {m : List Pr} (hm : AskW (ag qs) (ag rs) m) (hf : (ag qs).length * (ag rs).length < m.length + (n + 1)) :
  b6 abt 158 [Pt eb 0,Pt x.1 0,Pt y.1 0] G [.blk mb (cl m)] (zI mb (iL (ag qs) (ag rs) (dw (ag qs) (ag rs) n) x.2 y.2 m)):=by
 have hxt : x.2 ∈ ag qs:=List.mem_map_of_mem hx
 have hyt : y.2 ∈ ag rs:=List.mem_map_of_mem hy
 have hfx:=h1.ty _ hx
 have hfy:=h2.ty _ hy
 have W1:=w1.ty _ hxt
 have W2:=w2.ty _ hyt
 have hps:=hm.names w1 w2
 obtain ⟨p1,t⟩:=x
 obtain ⟨p2,u⟩:=y
 dsimp only at hxt hyt hfx hfy W1 W2 ⊢
 obtain ⟨fv1,ln1,s1,f1⟩:=hfx
 obtain ⟨fv2,ln2,s2,f2⟩:=hfy
 have fl1:=W1.len
 have fl2:=W2.len
 have nl1:=gH W1.name
 have nl2:=gH W2.name
 have hb : (t.name.length ≤ 1000000 ∧ u.name.length ≤ 1000000) ∧ vp m:=⟨⟨oM,oM⟩,hps⟩
 unfold iL
 by_cases hmem : (t.name,u.name) ∈ m
 ·rw [if_pos hmem]
  refine jH [(0,_),(1,_),(2,_)] Tryz.func158 Tryz.ntmps158 fun B hB hW=>?_
  repeat' (first | refine jR ?_ | refine ae F (aC ‹_›) ?_ | (refine ak (ar (id:=1) _ (fun _ h=>h) aj ?_);refine jT 5 [0,1,2,4,5,6] (aa 11 119) ?_;(refine jG (aa 11 127) 3 F (ay F F aS F F) ?_);(refine jG (aa 11 255) 7 F (ay F F aS F F) ?_);(refine jG (aa 11 511) 8 F (am F F) ?_);refine jA 9 F ?_;(refine jL fun _=>?_);refine jK (aa 11 1023) ?_;refine jA 10 F ?_;(refine jC F F F ?_);refine jK (aa 11 2047) ?_;refine jQ ?_) | (refine ak (ar (id:=2) _ (fun _ h=>h) aj ?_);refine jT 3 [0,1,2] (aa 6 7) ?_;(refine jG (aa 6 15) 3 F (ay F F aS F F) ?_);(refine jG (aa 6 31) 4 F (bC F F F F) ?_);(refine jG (aa 6 63) 5 F (oL F F MapIP.mem ‹_›) ?_);refine jQ ?_))
  all_goals exact aN (vs:=[_]) (L':=[.blk mb (cl m)]) F ⟨F,trivial⟩ F sB ⟨F,F,F⟩
 rw [if_neg hmem]
 unfold lQ
 have hm':=hm.snoc hxt hyt hmem
 have hf' : (ag qs).length * (ag rs).length < (m ++ [(t.name,u.name)]).length + n:=by simp only [List.length_append,List.length_cons,List.length_nil];omega
 by_cases hs : t.sort = u.sort
 case neg =>
  rw [if_pos hs]
  refine jH [(0,_),(1,_),(2,_)] Tryz.func158 Tryz.ntmps158 fun B hB hW=>?_
  repeat' (refine jR ?_)
  (refine ak (ar (id:=1) _ (fun _ h=>h) aj ?_);refine jT 5 [0,1,2,4,5,6] (aa 11 119) ?_;(refine jG (aa 11 127) 3 F (ay F F aS F F) ?_);(refine jG (aa 11 255) 7 F (ay F F aS F F) ?_);(refine jG (aa 11 511) 8 F (am F F) ?_);refine jA 9 F ?_;(refine jL fun _=>?_);refine jK (aa 11 1023) ?_;refine jA 10 F ?_;(refine jC F F F ?_);refine jK (aa 11 2047) ?_;refine jQ ?_)
  repeat' (refine jR ?_)
  (refine ak (ar (id:=2) _ (fun _ h=>h) aj ?_);refine jT 3 [0,1,2] (aa 6 7) ?_;(refine jG (aa 6 15) 3 F (ay F F aS F F) ?_);(refine jG (aa 6 31) 4 F (bC F F F F) ?_);(refine jG (aa 6 63) 5 F (oL F F MapIP.mem ‹_›) ?_);refine jQ ?_)
  repeat' (first | refine jR ?_ | refine af F (aF ‹_›) ?_)
  rename_i x7
  (refine ak (ar (id:=4) [.blk x7 (.cells (List.toArray [S t.name,S u.name]) mz (0,0))] (by intro y hy;simp only [List.mem_cons,List.not_mem_nil,or_false] at hy ⊢;simp [hy]) aj ?_);refine jW 3 [0,1,2] (aa 6 7) ?_;(refine jG (aa 6 15) 3 F (ay F F aS F F) ?_);(refine jG (aa 6 31) 4 F (bC F F F F) ?_);refine jA 5 F ?_;(refine uW F F F F ‹_› ‹_› ?_);refine jS (aa 6 63) ?_;refine jQ ?_)
  repeat' (refine jR ?_)
  (refine ak (ar (id:=5) _ (fun _ h=>h) aj ?_);refine jT 3 [0,1,2,4,5,6] (aa 9 119) ?_;(refine jG (aa 9 127) 3 F (ay F F aS F F) ?_);(refine jG (aa 9 255) 7 F (ay F F aS F F) ?_);refine jT 0 [8] (aa 9 511) ?_;refine jQ ?_)
  repeat' (first | refine jR ?_ | refine ae F (aC oM) ?_)
  all_goals exact aN (vs:=[_]) (L':=[.blk mb (cl (m ++ [(t.name,u.name)]))]) F ⟨F,trivial⟩ F sB ⟨F,F,F⟩
 rw [if_neg (by simp [hs])]
 refine jH [(0,_),(1,_),(2,_)] Tryz.func158 Tryz.ntmps158 fun B hB hW=>?_
 repeat' (refine jR ?_)
 (refine ak (ar (id:=1) _ (fun _ h=>h) aj ?_);refine jT 5 [0,1,2,4,5,6] (aa 11 119) ?_;(refine jG (aa 11 127) 3 F (ay F F aS F F) ?_);(refine jG (aa 11 255) 7 F (ay F F aS F F) ?_);(refine jG (aa 11 511) 8 F (am F F) ?_);refine jA 9 F ?_;(refine jL fun _=>?_);refine jK (aa 11 1023) ?_;refine jA 10 F ?_;(refine jC F F F ?_);refine jK (aa 11 2047) ?_;refine jQ ?_)
 repeat' (refine jR ?_)
 (refine ak (ar (id:=2) _ (fun _ h=>h) aj ?_);refine jT 3 [0,1,2] (aa 6 7) ?_;(refine jG (aa 6 15) 3 F (ay F F aS F F) ?_);(refine jG (aa 6 31) 4 F (bC F F F F) ?_);(refine jG (aa 6 63) 5 F (oL F F MapIP.mem ‹_›) ?_);refine jQ ?_)
 repeat' (first | refine jR ?_ | refine af F (aF ‹_›) ?_)
 rename_i x7
 (refine ak (ar (id:=4) [.blk x7 (.cells (List.toArray [S t.name,S u.name]) mz (0,0))] (by intro y hy;simp only [List.mem_cons,List.not_mem_nil,or_false] at hy ⊢;simp [hy]) aj ?_);refine jW 3 [0,1,2] (aa 6 7) ?_;(refine jG (aa 6 15) 3 F (ay F F aS F F) ?_);(refine jG (aa 6 31) 4 F (bC F F F F) ?_);refine jA 5 F ?_;(refine uW F F F F ‹_› ‹_› ?_);refine jS (aa 6 63) ?_;refine jQ ?_)
 repeat' (refine jR ?_)
 (refine ak (ar (id:=5) _ (fun _ h=>h) aj ?_);refine jT 3 [0,1,2,4,5,6] (aa 9 119) ?_;(refine jG (aa 9 127) 3 F (ay F F aS F F) ?_);(refine jG (aa 9 255) 7 F (ay F F aS F F) ?_);refine jT 0 [8] (aa 9 511) ?_;refine jQ ?_)
 repeat' (first | refine jR ?_ | (refine jo ?_;first | refine jV (ay F F aS F F) ?_ | refine jV (dc F aS) ?_) | refine af F (aF oM) ?_)
 refine Nx.perm (L':=[.blk mb (cl (m ++ [(t.name,u.name)])),.blk x7 (.cells (List.toArray [S t.name,S u.name]) mz (0,0))]) (List.Perm.swap _ _ []) ?_
 refine aU (ι:=Nat × List Pr) (fun i=>aaL t u (ag qs) (ag rs) (dw (ag qs) (ag rs) n) (m ++ [(t.name,u.name)]) i) (fun i=>[(0,Pt eb 0),(1,Pt p1 0),(2,Pt p2 0),(44,I u.fields.length),(45,I i.1)]) (fun _=>G) (fun i=>[.blk mb (cl i.2),.blk x7 (.cells (List.toArray [S t.name,S u.name]) mz (0,0))]) (fun i=>u.fields.length - i.1) (0,(m ++ [(t.name,u.name)])) ?_ tU F a6 (fun i Hi=>?_)
 ·exact ⟨⟨Nat.zero_le _,Nat.le_refl _⟩,hm',F⟩
 clear hmem hb
 obtain ⟨i,mi⟩:=i
 dsimp only at Hi ⊢
 obtain ⟨⟨hi1,hml⟩,hask,hev⟩:=Hi
 dsimp only at hi1 hml hask hev
 by_cases hi : i < u.fields.length
 case neg =>
  repeat' (first | refine jR ?_ | refine af F (aF oM) ?_)
  refine aN (vs:=[_]) (L':=[.blk mb (cl mi)]) F ⟨F,trivial⟩ F sB ⟨F,?_,?_⟩
  ·rw [← hev,List.drop_eq_nil_of_le oM];rfl
  ·rw [← hev,List.drop_eq_nil_of_le oM];rfl
 rw [lk hi,fw] at hev
 obtain ⟨bu,ou,cu',rfl,hsu⟩:=f2.expl oM
 cases hft : bZ t.fields (ac u.fields i).tag with
 | none =>
  rw [hft] at hev
  dsimp only at hev
  have cx_fld:=dF s1 f1 oM hft
  by_cases hR : u.sort = 82
  ·rw [if_pos hR] at hev
   have hR2 : t.sort = 82:=oM
   repeat' (first | refine jM ?_ | (refine jo ?_;first | (refine jV (bq F F aS ?_ F F) ?_;focus omega) | refine jV (ay F F aS F F) ?_ | refine jV (al F F oM) ?_ | refine jV (bD F F) ?_ | refine aP F ?_ | refine ad F F F cx_fld F ?_) | (refine aO F F (by first | rfl | (refine decide_eq_true ?_;(omega))) ?_) | (refine ae F (by first | rfl | (refine decide_eq_true ?_;(omega))) ?_))
   exact aT (i + 1,mi) ⟨⟨by dsimp only;omega,hml⟩,hask,hev⟩ (by dsimp only;omega) tU rfl a6
  ·rw [if_neg hR] at hev
   have hR2 : ¬ t.sort = 82:=oM
   repeat' (first | refine jR ?_ | (refine jo ?_;first | (refine jV (bq F F aS ?_ F F) ?_;focus omega) | refine jV (ay F F aS F F) ?_ | refine jV (al F F oM) ?_ | refine jV (bD F F) ?_ | refine aP F ?_ | refine aH F ?_ | refine jV (d5 F F) ?_ | refine ad F F F cx_fld F ?_) | refine aO F F F ?_ | (refine aD F F (by first | rfl | (refine decide_eq_false ?_;(omega))) ?_) | (refine ae F (by first | rfl | (refine decide_eq_true ?_;(omega))) ?_) | refine af F F ?_ | (refine ak (ar (id:=13) _ (fun _ h=>h) aj ?_);refine jT 15 [0] (aa 16 1) ?_;(refine jG (aa 16 3) 1 F (bD F F) ?_);refine jT 13 [2] (aa 16 7) ?_;(try (refine Nx.re (d:=84) (v':=Bo true) F (congrArg Value.bool F) ?_));refine jT 6 [3,4,5,6,8,9,10] (aa 16 1919) ?_;(refine jN (aa 16 2047) 7 F ?_);(refine jN (aa 16 4095) 11 F ?_);(refine jN (aa 16 8191) 12 F ?_);refine jT 2 [13] (aa 16 16383) ?_;(refine jG (aa 16 32767) 14 F (bU F F F) ?_);refine jT 0 [15] (aa 16 65535) ?_;refine jQ ?_))
   all_goals refine aN (vs:=[_]) (L':=[.blk mb (cl mi)]) F ⟨F,trivial⟩ F sB ⟨F,?_,?_⟩
   all_goals (rw [← hev];first | done | rfl)
 | some f =>
  rw [hft] at hev
  dsimp only at hev
  obtain ⟨j,hj,hno,hat,rfl⟩:=cV hft
  obtain ⟨bf,of,cf,rfl,hsf⟩:=f1.expl oM
  have cx_fld:=dE s1 hsf oM hj hno hat
  by_cases hE : u.sort = 69
  ·rw [if_pos hE] at hev
   have hE2 : t.sort = 69:=oM
   repeat' (first | refine jM ?_ | (refine jo ?_;first | (refine jV (bq F F aS ?_ F F) ?_;focus omega) | refine jV (ay F F aS F F) ?_ | refine jV (al F F oM) ?_ | refine jV (bD F F) ?_ | refine aP F ?_ | refine aH F ?_ | refine jV (d5 F F) ?_ | refine ad F F F cx_fld F ?_) | refine aO F F F ?_ | refine aD F F F ?_ | refine ae F (aC oM) ?_)
   exact aT (i + 1,mi) ⟨⟨by dsimp only;omega,hml⟩,hask,hev⟩ (by dsimp only;omega) tU rfl a6
  rw [if_neg hE] at hev
  have hE2 : ¬ t.sort = 69:=oM
  have hin1:=dv w1 hxt hE2 (a7 hj)
  have hin2:=dv w2 hyt hE (a7 hi)
  have cx_sta:=pQ h1 w1 hsf hj hin1
  have cx_stb:=pQ h2 w2 hsu hi hin2
  have cx_k0:=ih (ac t.fields j).kind (ac u.fields i).kind mi hask oM hin1 hin2
  have hgr:=kT (ts:=ag qs) (us:=ag rs) n (ac t.fields j).kind (ac u.fields i).kind mi hask
  generalize dw (ag qs) (ag rs) n (ac t.fields j).kind (ac u.fields i).kind mi = r at hev cx_k0 hgr
  obtain ⟨rb,mj⟩:=r
  dsimp only at hev hgr
  cases rb
  ·rw [if_pos rfl] at hev
   have cx_ks : b6 abt 118 [Pt eb 0,Ag [S (sg (ac t.fields j).kind),S (bs (ac t.fields j).kind),S (nm (ac t.fields j).kind)],Ag [S (sg (ac u.fields i).kind),S (bs (ac u.fields i).kind),S (nm (ac u.fields i).kind)]] G [.blk mb (cl mi)] (fun v L'=>v = Bo false ∧ L' = [.blk mb (cl mj)]):=cx_k0
   repeat' (first | refine jR ?_ | (refine jo ?_;first | (refine jV (bq F F aS ?_ F F) ?_;focus omega) | refine jV (ay F F aS F F) ?_ | refine jV (al F F oM) ?_ | refine jV (bD F F) ?_ | refine aP F ?_ | refine aH F ?_ | refine jV (d5 F F) ?_ | refine ad F F F cx_fld F ?_) | refine aO F F F ?_ | refine aD F F F ?_ | refine ae F (aC oM) ?_ | refine af F (aF oM) ?_)
   (refine ak (ar (id:=13) [.blk x7 (.cells (List.toArray [S t.name,S u.name]) mz (0,0))] (by intro y hy;simp only [List.mem_cons,List.not_mem_nil,or_false] at hy ⊢;simp [hy]) aj ?_);refine jW 15 [0] (aa 16 1) ?_;(refine jG (aa 16 3) 1 F (bD F F) ?_);refine jW 13 [2] (aa 16 7) ?_;(try (refine Nx.re (d:=84) (v':=Bo false) F (congrArg Value.bool F) ?_));refine jW 6 [3,4,5,6,8,9,10] (aa 16 1919) ?_;((refine jG (aa 16 2047) 7 F (du F F aS ?_ F F) ?_;focus omega));((refine jG (aa 16 4095) 11 F (du F F aS ?_ F F) ?_;focus omega));(refine jA 12 F ?_;(refine iR F F F cx_ks F ?_;rintro _ _ ⟨rfl,rfl⟩;dsimp only [zA,fA]);refine jS (aa 16 8191) ?_);refine jT 2 [13] (aa 16 16383) ?_;(refine jG (aa 16 32767) 14 F (aW F F F) ?_);refine jT 0 [15] (aa 16 65535) ?_;refine jQ ?_)
   repeat' (first | refine jR ?_ | refine ae F F ?_)
   all_goals refine aN (vs:=[_]) (L':=[.blk mb (cl mj)]) F ⟨F,trivial⟩ F sB ⟨F,?_,?_⟩
   all_goals (rw [← hev];first | done | rfl)
  ·rw [if_neg (by simp)] at hev
   have cx_ks : b6 abt 118 [Pt eb 0,Ag [S (sg (ac t.fields j).kind),S (bs (ac t.fields j).kind),S (nm (ac t.fields j).kind)],Ag [S (sg (ac u.fields i).kind),S (bs (ac u.fields i).kind),S (nm (ac u.fields i).kind)]] G [.blk mb (cl mi)] (fun v L'=>v = Bo true ∧ L' = [.blk mb (cl mj)]):=cx_k0
   generalize cx (ag qs) (ac t.fields j) = sa at hev cx_sta
   generalize cx (ag rs) (ac u.fields i) = sb at hev cx_stb
   by_cases hR : u.sort = 82
   ·have hR2 : t.sort = 82:=oM
    by_cases hsab : sa = sb
    ·rw [if_neg (by simp [hsab])] at hev
     repeat' (first | refine jR ?_ | (refine jo ?_;first | (refine jV (bq F F aS ?_ F F) ?_;focus omega) | refine jV (ay F F aS F F) ?_ | refine jV (al F F oM) ?_ | refine jV (bD F F) ?_ | refine aP F ?_ | refine aH F ?_ | refine jV (d5 F F) ?_ | refine ad F F F cx_fld F ?_) | refine aO F F F ?_ | refine aD F F F ?_ | refine ae F (aC oM) ?_ | refine af F (aF oM) ?_)
     (refine ak (ar (id:=13) [.blk x7 (.cells (List.toArray [S t.name,S u.name]) mz (0,0))] (by intro y hy;simp only [List.mem_cons,List.not_mem_nil,or_false] at hy ⊢;simp [hy]) aj ?_);refine jW 15 [0] (aa 16 1) ?_;(refine jG (aa 16 3) 1 F (bD F F) ?_);refine jW 13 [2] (aa 16 7) ?_;(try (refine Nx.re (d:=84) (v':=Bo false) F (congrArg Value.bool F) ?_));refine jW 6 [3,4,5,6,8,9,10] (aa 16 1919) ?_;((refine jG (aa 16 2047) 7 F (du F F aS ?_ F F) ?_;focus omega));((refine jG (aa 16 4095) 11 F (du F F aS ?_ F F) ?_;focus omega));(refine jA 12 F ?_;(refine iR F F F cx_ks F ?_;rintro _ _ ⟨rfl,rfl⟩;dsimp only [zA,fA]);refine jS (aa 16 8191) ?_);refine jT 2 [13] (aa 16 16383) ?_;(refine jG (aa 16 32767) 14 F (aW F F F) ?_);refine jT 0 [15] (aa 16 65535) ?_;refine jQ ?_)
     repeat' (first | refine jM ?_ | (refine af F ?_ ?_;(focus ((first | rfl | (simp [*];done));done))) | (refine ak (ar (id:=15) _ (fun _ h=>h) aj ?_);refine jT 18 [0,1,2] (aa 21 7) ?_;(refine jG (aa 21 15) 3 F (ay F F aS F F) ?_);refine jT 15 [4,5] (aa 21 63) ?_;(try ((refine Nx.re (d:=103) (v':=Bo true) F (congrArg Value.bool (aC oM)) ?_)));refine jT 7 [6,7,8,10,12,13,14,16] (aa 21 95743) ?_;(refine jG (aa 21 96255) 9 F (ay F F aS F F) ?_);(refine jG (aa 21 129023) 15 F (ay F F aS F F) ?_);(refine jA 11 F ?_;(refine ad F F F cx_sta F ?_);refine jS (aa 21 131071) ?_);(refine jA 17 F ?_;(refine ad F F F cx_stb F ?_);refine jS (aa 21 262143) ?_);refine jT 2 [18] (aa 21 524287) ?_;(refine jG (aa 21 1048575) 19 F (bU F F F) ?_);refine jT 0 [20] (aa 21 2097151) ?_;refine jQ ?_))
     all_goals exact aT (i + 1,mj) ⟨⟨by dsimp only;omega,Nat.le_trans hml hgr.2⟩,hgr.1,hev⟩ (by dsimp only;omega) tU rfl a6
    ·rw [if_pos ⟨hR,hsab⟩] at hev
     repeat' (first | refine jR ?_ | (refine jo ?_;first | (refine jV (bq F F aS ?_ F F) ?_;focus omega) | refine jV (ay F F aS F F) ?_ | refine jV (al F F oM) ?_ | refine jV (bD F F) ?_ | refine aP F ?_ | refine aH F ?_ | refine jV (d5 F F) ?_ | refine ad F F F cx_fld F ?_) | refine aO F F F ?_ | refine aD F F F ?_ | refine ae F (aC oM) ?_ | refine af F (aF oM) ?_)
     (refine ak (ar (id:=13) [.blk x7 (.cells (List.toArray [S t.name,S u.name]) mz (0,0))] (by intro y hy;simp only [List.mem_cons,List.not_mem_nil,or_false] at hy ⊢;simp [hy]) aj ?_);refine jW 15 [0] (aa 16 1) ?_;(refine jG (aa 16 3) 1 F (bD F F) ?_);refine jW 13 [2] (aa 16 7) ?_;(try (refine Nx.re (d:=84) (v':=Bo false) F (congrArg Value.bool F) ?_));refine jW 6 [3,4,5,6,8,9,10] (aa 16 1919) ?_;((refine jG (aa 16 2047) 7 F (du F F aS ?_ F F) ?_;focus omega));((refine jG (aa 16 4095) 11 F (du F F aS ?_ F F) ?_;focus omega));(refine jA 12 F ?_;(refine iR F F F cx_ks F ?_;rintro _ _ ⟨rfl,rfl⟩;dsimp only [zA,fA]);refine jS (aa 16 8191) ?_);refine jT 2 [13] (aa 16 16383) ?_;(refine jG (aa 16 32767) 14 F (aW F F F) ?_);refine jT 0 [15] (aa 16 65535) ?_;refine jQ ?_)
     repeat' (first | refine jR ?_ | refine ae F (aC ‹_›) ?_ | refine af F F ?_ | (refine ak (ar (id:=15) _ (fun _ h=>h) aj ?_);refine jT 18 [0,1,2] (aa 21 7) ?_;(refine jG (aa 21 15) 3 F (ay F F aS F F) ?_);refine jT 15 [4,5] (aa 21 63) ?_;(try ((refine Nx.re (d:=103) (v':=Bo true) F (congrArg Value.bool (aC oM)) ?_)));refine jT 7 [6,7,8,10,12,13,14,16] (aa 21 95743) ?_;(refine jG (aa 21 96255) 9 F (ay F F aS F F) ?_);(refine jG (aa 21 129023) 15 F (ay F F aS F F) ?_);(refine jA 11 F ?_;(refine ad F F F cx_sta F ?_);refine jS (aa 21 131071) ?_);(refine jA 17 F ?_;(refine ad F F F cx_stb F ?_);refine jS (aa 21 262143) ?_);refine jT 2 [18] (aa 21 524287) ?_;(refine jG (aa 21 1048575) 19 F (bU F F F) ?_);refine jT 0 [20] (aa 21 2097151) ?_;refine jQ ?_))
     all_goals refine aN (vs:=[_]) (L':=[.blk mb (cl mj)]) F ⟨F,trivial⟩ F sB ⟨F,?_,?_⟩
     all_goals (rw [← hev];first | done | rfl)
   ·have hR2 : ¬ t.sort = 82:=oM
    rw [if_neg (by simp [hR])] at hev
    repeat' (first | refine jR ?_ | (refine jo ?_;first | (refine jV (bq F F aS ?_ F F) ?_;focus omega) | refine jV (ay F F aS F F) ?_ | refine jV (al F F oM) ?_ | refine jV (bD F F) ?_ | refine aP F ?_ | refine aH F ?_ | refine jV (d5 F F) ?_ | refine ad F F F cx_fld F ?_) | refine aO F F F ?_ | refine aD F F F ?_ | refine ae F (aC oM) ?_ | refine af F (aF oM) ?_)
    (refine ak (ar (id:=13) [.blk x7 (.cells (List.toArray [S t.name,S u.name]) mz (0,0))] (by intro y hy;simp only [List.mem_cons,List.not_mem_nil,or_false] at hy ⊢;simp [hy]) aj ?_);refine jW 15 [0] (aa 16 1) ?_;(refine jG (aa 16 3) 1 F (bD F F) ?_);refine jW 13 [2] (aa 16 7) ?_;(try (refine Nx.re (d:=84) (v':=Bo false) F (congrArg Value.bool F) ?_));refine jW 6 [3,4,5,6,8,9,10] (aa 16 1919) ?_;((refine jG (aa 16 2047) 7 F (du F F aS ?_ F F) ?_;focus omega));((refine jG (aa 16 4095) 11 F (du F F aS ?_ F F) ?_;focus omega));(refine jA 12 F ?_;(refine iR F F F cx_ks F ?_;rintro _ _ ⟨rfl,rfl⟩;dsimp only [zA,fA]);refine jS (aa 16 8191) ?_);refine jT 2 [13] (aa 16 16383) ?_;(refine jG (aa 16 32767) 14 F (aW F F F) ?_);refine jT 0 [15] (aa 16 65535) ?_;refine jQ ?_)
    repeat' (first | refine jM ?_ | refine af F F ?_ | (refine ak (ar (id:=15) _ (fun _ h=>h) aj ?_);refine jT 18 [0,1,2] (aa 21 7) ?_;(refine jG (aa 21 15) 3 F (ay F F aS F F) ?_);refine jT 15 [4,5] (aa 21 63) ?_;(try ((refine Nx.re (d:=103) (v':=Bo false) F (congrArg Value.bool (aF oM)) ?_)));refine jT 7 [6,7,8,10,12,13,14,16] (aa 21 95743) ?_;(refine jN (aa 21 96255) 9 F ?_);(refine jN (aa 21 129023) 15 F ?_);(refine jN (aa 21 131071) 11 F ?_);(refine jN (aa 21 262143) 17 F ?_);refine jT 2 [18] (aa 21 524287) ?_;(refine jG (aa 21 1048575) 19 F (aW F F F) ?_);refine jT 0 [20] (aa 21 2097151) ?_;refine jQ ?_))
    all_goals exact aT (i + 1,mj) ⟨⟨by dsimp only;omega,Nat.le_trans hml hgr.2⟩,hgr.1,hev⟩ (by dsimp only;omega) tU rfl a6
end Go.E
