/- Contracts and plain laws that the statement rests on, part 4. Conditions: as each says. -/
import Derived.Test.YtglhncibfmhblabGreatDoorZ3
set_option linter.unusedVariables false
set_option linter.unusedSimpArgs false
namespace Go.E
set_option maxRecDepth 20000
set_option maxHeartbeats 2000000
open Go.Proofs
variable {G : Gh}
theorem pd {α : Type} [Inhabited α] {p : α → Bool} : ∀ {l : List α} {i : Nat},i < l.length → (∀ k,k < i → p (ae l k) = false) → p (ae l i) = true → l.find? p = some (ae l i)
 | [],i,hi,_,_=>by simp at hi
 | a :: l,0,_,_,h=>by
  have h : p a = true:=h
  rw [List.find?_cons,h];rfl
 | a :: l,i + 1,hi,hno,h=>by
  have h0 : p a = false:=hno 0 oM
  rw [List.find?_cons,h0]
  exact pd (l:=l) (i:=i) (by simpa using hi) (fun k hk=>hno (k + 1) oM) h
theorem sG {α : Type} [Inhabited α] {p : α → Bool} {l : List α} (hno : ∀ k,k < l.length → p (ae l k) = false) : l.find? p = none:=by
 rw [List.find?_eq_none]
 intro x hx
 obtain ⟨i,hi,rfl⟩:=List.mem_iff_getElem.1 hx
 have:=hno i hi
 rw [a6 hi] at this
 simp [this]
theorem sF {fs : List Fld} {tag : Int} {i : Nat} (hi : i < fs.length) (hno : ∀ k,k < i → (ae fs k).tag ≠ tag) (h : (ae fs i).tag = tag) : bJ fs tag = some (ae fs i) :=
 pd hi (fun k hk=>by simpa using hno k hk) (by simpa using h)
theorem xG {fs : List Fld} {tag : Int} (hno : ∀ k,k < fs.length → (ae fs k).tag ≠ tag) : bJ fs tag = none:=sG fun k hk=>by simpa using hno k hk
theorem d6 {fs : List Fld} {tag : Int} {f : Fld} (h : bJ fs tag = some f) : ∃ i,i < fs.length ∧ (∀ k,k < i → (ae fs k).tag ≠ tag) ∧ (ae fs i).tag = tag ∧ ae fs i = f:=by
 have hex : ∃ i,i < fs.length ∧ (ae fs i).tag = tag:=by
  have hm:=List.mem_of_find?_eq_some h
  have ht:=List.find?_some h
  obtain ⟨i,hi,rfl⟩:=List.mem_iff_getElem.1 hm
  exact ⟨i,hi,by rw [a6 hi];simpa using ht⟩
 obtain ⟨i,hi,ht⟩:=hex
 induction i using Nat.strongRecOn with
 | _ i ih =>
  by_cases hc : ∃ k,k < i ∧ (ae fs k).tag = tag
  ·obtain ⟨k,hk,hkt⟩:=hc
   exact ih k hk oM hkt
  ·have hno : ∀ k,k < i → (ae fs k).tag ≠ tag:=fun k hk e=>hc ⟨k,hk,e⟩
   refine ⟨i,hi,hno,ht,?_⟩
   rw [sF hi hno ht] at h
   exact Option.some.inj h
abbrev zF : Fld:=⟨0,[],[],[]⟩
abbrev aae : TypeId:=128
abbrev abm : TypeId:=122
theorem gG {x : b8} {tag : Int} (hf : bh G (gP x) 4 x.2.fields.length (aA gB x.2.fields)) (hl : x.2.fields.length ≤ 1000) :
  am abK 114 [Ag [U8 x.2.sort,S x.2.name,gP x],I tag] G (· = Tu [Ag (gB ((bJ x.2.fields tag).getD zF)),Bo (bJ x.2.fields tag).isSome]):=by
 obtain ⟨⟨a,ca⟩,t⟩:=x
 simp only [gP] at hf ⊢
 dsimp only at hl
 refine jE [(0,_),(1,_)] Tryz.func114 Tryz.ntmps114 fun B hB=>?_
 repeat' (first | refine jR ?_ | (refine jo ?_;first | refine jO fun _=>?_ | refine jL fun _=>?_))
 rename_i y z
 refine aR (ι:=Nat) (fun i=>i ≤ t.fields.length ∧ ∀ k,k < i → (ae t.fields k).tag ≠ tag) (fun i=>[(1,I tag),(2,Pt y 0),(4,Pt z 0),(6,I i)]) (fun _=>G) (fun i=>[.blk z (.cells [I 0,S [],S [],S []].toArray aae (0,0)),.blk y (.cells [U8 t.sort,S t.name,.slice a t.fields.length ca].toArray abm (0,0))]) (fun i=>t.fields.length - i) 0 ?_ tU F aX (fun i Hi=>?_)
 ·exact ⟨Nat.zero_le _,fun k hk=>absurd hk oM⟩
 by_cases hi : i < t.fields.length
 ·obtain ⟨bf,of,cf,e,hs⟩:=hf.expl oM
  simp only [Value.slice.injEq] at e
  obtain ⟨rfl,-,rfl⟩:=e
  repeat' (first | refine jM ?_ | (refine jo ?_;first | refine aj F ?_ | (refine jV (cD F F aS ?_) ?_;focus omega) | (refine jV (bN F F aS ?_ F F) ?_;focus omega) | refine jV (aw F) ?_ | refine jV (ax F F oM) ?_ | refine jC F F F ?_) | refine ac F (ay oM) ?_ | refine cT F (fun _=>?_) (fun _=>?_))
  ·rename_i he
   refine jZ (vs:=[_,_]) F ⟨aE F F F F,F,trivial⟩ F ⟨F,F,?_⟩
   rw [sF hi Hi.2 he];rfl
  ·rename_i he
   refine aW (i + 1) ⟨oM,fun k hk=>?_⟩ oM tU F aX
   rcases Nat.lt_or_ge k i with h3 | h3
   ·exact Hi.2 k h3
   ·have : k = i:=oM
    subst this;exact he
 ·repeat' (first | refine jR ?_ | (refine jo ?_;first | refine aj F ?_ | refine jV (aw F) ?_ | refine jC F F F ?_ | refine jV (ao F F) ?_) | refine ad F (aC oM) ?_)
  refine jZ (vs:=[_,_]) F ⟨aE F F F F,F,trivial⟩ F ⟨F,F,?_⟩
  rw [xG fun k hk=>Hi.2 k oM];rfl
theorem dQ {b : Nat} {t : Ty} {fv : Value} {ln : abL} {tag : Int} (hs : bW G b 0 [U8 t.sort,S t.name,fv,S ln]) (hf : bh G fv 6 t.fields.length (aA iM t.fields)) (hl : t.fields.length ≤ 1000) (h : bJ t.fields tag = none) :
  am abK 126 [Pt b 0,I tag] G (· = .pointer none):=by
 have hno : ∀ k,k < t.fields.length → (ae t.fields k).tag ≠ tag:=fun k hk e=>by
  have h1:=List.find?_eq_none.1 h (ae t.fields k) (bT hk)
  exact h1 (by simpa using e)
 refine jE [(0,_),(1,_)] Tryz.func126 Tryz.ntmps126 fun B hB=>?_
 repeat' (first | refine jR ?_ | (refine jo ?_;first | refine jV (aI F F aS F F) ?_ | refine jV (cY F aS) ?_))
 refine aR (ι:=Nat) (fun i=>i ≤ t.fields.length) (fun i=>[(0,Pt b 0),(1,I tag),(10,I t.fields.length),(11,I i)]) (fun _=>G) (fun i=>[]) (fun i=>t.fields.length - i) 0 ?_ tU F aX (fun i Hi=>?_)
 ·exact Nat.zero_le _
 by_cases hi : i < t.fields.length
 ·obtain ⟨bf,of,cf,rfl,hsf⟩:=hf.expl oM
  have h2:=hno i hi
  repeat' (first | refine jM ?_ | (refine jo ?_;first | (refine jV (bN F F aS ?_ F F) ?_;focus omega) | refine jV (aI F F aS F F) ?_ | refine jV (ax F F oM) ?_) | refine ac F (ay oM) ?_ | refine ad F (aC ‹_›) ?_)
  exact aW (i + 1) oM oM tU F aX
 ·repeat' (first | refine jR ?_ | refine ad F (aC oM) ?_)
  refine jY (vs:=[_]) ?_
  rfl
theorem eF {b bf of cf j : Nat} {t : Ty} {ln : abL} {tag : Int} (hs : bW G b 0 [U8 t.sort,S t.name,.slice (some ⟨bf,of,none⟩) t.fields.length cf,S ln]) (hsf : bW G bf of (aA iM t.fields)) (hl : t.fields.length ≤ 1000) (hj : j < t.fields.length) (hno : ∀ k,k < j → (ae t.fields k).tag ≠ tag) (hat : (ae t.fields j).tag = tag) :
  am abK 126 [Pt b 0,I tag] G (· = Pt bf (of + j * 6)):=by
 refine jE [(0,_),(1,_)] Tryz.func126 Tryz.ntmps126 fun B hB=>?_
 repeat' (first | refine jR ?_ | (refine jo ?_;first | refine jV (aI F F aS F F) ?_ | refine jV (aw F) ?_))
 refine aR (ι:=Nat) (fun i=>i ≤ j) (fun i=>[(0,Pt b 0),(1,I tag),(10,I t.fields.length),(11,I i)]) (fun _=>G) (fun i=>[]) (fun i=>t.fields.length - i) 0 ?_ tU F aX (fun i Hi=>?_)
 ·exact Nat.zero_le _
 by_cases hij : i = j
 ·subst hij
  repeat' (first | refine jR ?_ | (refine jo ?_;first | (refine jV (bN F F aS ?_ F F) ?_;focus omega) | refine jV (aI F F aS F F) ?_ | refine jV (ax F F oM) ?_) | (refine ac F (by refine decide_eq_true ?_;first | assumption | omega) ?_))
  all_goals refine jY (vs:=[_]) ?_
  all_goals rfl
 ·have h2:=hno i oM
  repeat' (first | refine jM ?_ | (refine jo ?_;first | (refine jV (bN F F aS ?_ F F) ?_;focus omega) | refine jV (aI F F aS F F) ?_ | refine jV (ax F F oM) ?_) | refine ac F (ay oM) ?_ | refine ad F (aC ‹_›) ?_)
  exact aW (i + 1) oM oM tU F aX
theorem rf {u : Value} {vs : List b8} {f : Fld} (h : SchR G u vs) (hw : SchW (ag vs)) (hk : aP (ag vs) f.kind = true) :
  am abK 89 [u,Ag [I f.tag,S f.name,S f.kind,S f.stand]] G (· = S (cL (ag vs) f)):=by
 have cx_std:=u4 h hw hk
 unfold cL
 by_cases hs : f.stand = []
 ·rw [if_pos hs,hs]
  refine jE [(0,_),(1,_)] Tryz.func89 Tryz.ntmps89 fun B hB=>?_
  repeat' (first | refine jR ?_ | (refine jo ?_;first | refine jO fun _=>?_ | refine aj F ?_ | refine ab F F F cx_std F ?_) | refine ad F F ?_)
  all_goals refine jY (vs:=[_]) ?_
  all_goals rfl
 ·rw [if_neg hs]
  refine jE [(0,_),(1,_)] Tryz.func89 Tryz.ntmps89 fun B hB=>?_
  repeat' (first | refine jR ?_ | (refine jo ?_;first | refine jO fun _=>?_ | refine aj F ?_) | refine ac F (ay ‹_›) ?_)
  all_goals refine jY (vs:=[_]) ?_
  all_goals rfl
theorem wV {b bf of j : Nat} {qs : List cx} {fs : List Fld} (h : ScI G b qs) (hw : SchW (ak qs)) (hsf : bW G bf of (aA iM fs)) (hj : j < fs.length) (hk : aP (ak qs) (ae fs j).kind = true) :
  am abK 159 [Pt b 0,Pt bf (of + j * 6)] G (· = S (cL (ak qs) (ae fs j))):=by
 have cx_std:=u6 h hw hk
 unfold cL
 by_cases hs : (ae fs j).stand = []
 ·rw [if_pos hs]
  have hs2 : ¬ (ae fs j).stand ≠ []:=fun h=>h hs
  refine jE [(0,_),(1,_)] Tryz.func159 Tryz.ntmps159 fun B hB=>?_
  repeat' (first | refine jR ?_ | (refine jo ?_;first | (refine jV (bN F F aS ?_ F F) ?_;focus omega) | (refine jV (gT F F aS ?_ F F) ?_;focus omega) | refine ab F F F cx_std F ?_) | refine ad F (aC ‹_›) ?_)
  all_goals refine jY (vs:=[_]) ?_
  all_goals rfl
 ·rw [if_neg hs]
  refine jE [(0,_),(1,_)] Tryz.func159 Tryz.ntmps159 fun B hB=>?_
  repeat' (first | refine jR ?_ | (refine jo ?_;(refine jV (bN F F aS ?_ F F) ?_;focus omega)) | refine ac F (ay ‹_›) ?_)
  all_goals refine jY (vs:=[_]) ?_
  all_goals rfl
abbrev g5 : TypeId:=104
abbrev yq : TypeId:=9
theorem cX {w : Nat} {x : abL} {t : Int} {ks : List V} : V.tot (.nd w x t ks) = 20 + x.length + V.tots ks:=by rw [V.tot]
theorem mv : ∀ (n : Nat) {v : V} {c : VC},v.tot ≤ n → v.tot ≤ 1000000 → V.rep G v c → am abK 61 [Ag (b6 c)] G (· = S v.out):=by
 intro n
 induction n with
 | zero=>intro v c h1 _ _;have:=io v;omega
 | succ n ih =>
  intro v c h1 h2 h
  obtain ⟨w,x,t,ks⟩:=v
  rw [cX] at h1 h2
  obtain ⟨a,k,cs,rfl,hw,ht,h61,hcl,hsl,hks⟩:=mj h
  have hkl:=dT ks
  have hol:=iI ks
  have hjl:=na hks
  have hj2:=e9 44 (V.outs ks)
  rw [hol] at hj2
  simp only [b6,VC.sl]
  refine jB (Post:=fun v G' L'=>G' = G ∧ L' = [] ∧ _) [(0,_)] Tryz.func61 Tryz.ntmps61 fun B hok hB hW=>?_
  repeat' (first | refine jR ?_ | (refine jo ?_;first | refine jO fun _=>?_ | refine aj F ?_ | refine jV (aw F) ?_))
  rename_i bv
  refine Nx.addNil yq 1 ?_
  refine aR (ι:=Nat × Value) (fun q=>q.1 ≤ ks.length) (fun q=>[(1,Pt bv 0),(2,S []),(3,q.2),(8,.slice a ks.length k),(9,I ks.length),(10,I q.1)]) (fun _=>G) (fun q=>[.acc q.2 yq 1 q.1 (aA dv ((V.outs ks).take q.1)),.blk bv (.cells (List.toArray [U8 w,S x,I t,.slice a ks.length k]) g5 (0,0))]) (fun q=>ks.length - q.1) (0,aK) ?_ tU F aX (fun q Hq=>?_)
  ·exact Nat.zero_le _
  obtain ⟨i,pv⟩:=q
  dsimp only at Hq ⊢
  by_cases hi : i < ks.length
  ·have hti:=fU hi
   have cx_pr:=ih oM oM (iF hks i hi)
   obtain ⟨bf,of,cf,e,hs⟩:=hsl.expl oM
   simp only [Value.slice.injEq] at e
   obtain ⟨rfl,-,rfl⟩:=e
   repeat' (first | refine jM ?_ | (refine jo ?_;first | (refine jV (cD F F aS ?_) ?_;focus omega) | refine aG F ?_ | refine jV (ax F F oM) ?_ | refine jL fun _=>?_ | refine jC F F F ?_ | refine jF fun _=>?_ | refine cQ F F F F F F F F F oM fun _ _=>?_ | refine ab F F F cx_pr F ?_) | refine ac F (ay oM) ?_)
   have e2 : aA dv ((V.outs ks).take i) ++ [S (ae ks i).out] = aA dv ((V.outs ks).take (i + 1)):=by rw [dK oM,cy,kD hi];rfl
   rw [e2]
   exact aW (i + 1,_) (by dsimp only;omega) (by dsimp only;omega) tU rfl sB
  ·have hin : i = ks.length:=oM
   subst hin
   refine Nx.sealA .here fun G1 hG1 hsP=>?_
   rw [← hol,List.take_length] at hsP
   have cx_join:=zW (c:=44) hsP oM
   have hd:=fx ht.2
   have hE : ks.isEmpty = decide (ks.length = 0):=by cases ks <;> simp
   repeat' (first | refine jX ?_ | (refine jo ?_;first | refine aj F ?_ | refine jV (aw F) ?_ | refine ab F F F cx_join F ?_ | refine ab F F F (fB oM) F ?_) | refine ad F (aC oM) ?_ | refine cT F (fun _=>?_) (fun _=>?_))
   all_goals refine Nx.base hok hB ?_
   all_goals refine jY (vs:=[_]) ?_
   all_goals (rw [ar,V.out,hE];unfold ew;simp only [decide_eq_true_eq];repeat (first | rw [if_pos oM] | rw [if_neg oM]))
   all_goals (first | rfl | (simp;done))
theorem uT {x : abL} {t : Int} {u : V} : V.deep (.nd 61 x t [u]) = u.deep:=by rw [V.deep,if_pos rfl,V.deeps,V.deeps,Nat.max_zero]
theorem oz (v : V) : ∀ (ks : List V),V.deeps (ks ++ [v]) = max (V.deeps ks) v.deep
 | []=>by simp [V.deeps]
 | u :: r=>by simp only [List.cons_append,V.deeps,oz v r];omega
mutual
theorem nq : ∀ v : V,v.deep ≤ v.tot
 | .nd w x t ks=>by
  have:=lT ks
  rw [V.deep,V.tot];split <;> omega
theorem lT : ∀ ks : List V,V.deeps ks ≤ V.tots ks
 | []=>by simp [V.deeps]
 | v :: r=>by
  have:=nq v
  have:=lT r
  rw [V.deeps,V.tots];omega
end
theorem vn : ∀ (n : Nat) {v : V} {c : VC},v.tot ≤ n → v.tot ≤ 1000000 → V.rep G v c → am abK 129 [Ag (b6 c)] G (· = I (v.deep : Nat)):=by
 intro n
 induction n with
 | zero=>intro v c h1 _ _;have:=io v;omega
 | succ n ih =>
  intro v c h1 h2 h
  obtain ⟨w,x,t,ks⟩:=v
  rw [cX] at h1 h2
  obtain ⟨a,k,cs,rfl,hw,ht,h61,hcl,hsl,hks⟩:=mj h
  have hkl:=dT ks
  simp only [b6,VC.sl]
  by_cases hq : w = 61
  ·have hk1:=h61 hq
   have hti:=fU (ks:=ks) (i:=0) oM
   have cx_dp:=ih oM oM (iF hks 0 oM)
   obtain ⟨bf,of,cf,e,hs⟩:=hsl.expl oM
   simp only [Value.slice.injEq] at e
   obtain ⟨rfl,-,rfl⟩:=e
   refine jE [(0,_)] Tryz.func129 Tryz.ntmps129 fun B hB=>?_
   repeat' (first | refine jR ?_ | (refine jo ?_;first | refine jO fun _=>?_ | refine aj F ?_ | (refine jV (cD F F aS ?_) ?_;focus omega) | refine jV (a9 F F oM) ?_ | refine ab F F F cx_dp F ?_) | refine ac F (ay oM) ?_)
   refine jY (vs:=[_]) ?_
   rw [ar]
   obtain ⟨u,rfl⟩:=List.length_eq_one_iff.1 hk1
   subst hq
   rw [uT];rfl
  ·rw [cF hq]
   refine jE [(0,_)] Tryz.func129 Tryz.ntmps129 fun B hB=>?_
   repeat' (first | refine jR ?_ | (refine jo ?_;first | refine jO fun _=>?_ | refine aj F ?_ | refine jV (aw F) ?_) | refine ad F (aC oM) ?_)
   rename_i bv
   refine Nx.re (d:=3) (v':=I (V.deeps (ks.take 0) : Nat)) F F ?_
   refine aR (ι:=Nat) (fun i=>i ≤ ks.length) (fun i=>[(3,I (V.deeps (ks.take i) : Nat)),(15,.slice a ks.length k),(16,I ks.length),(17,I i)]) (fun _=>G) (fun i=>[]) (fun i=>ks.length - i) 0 ?_ tU F (by repeat (exact List.nil_sublist _)) (fun i Hi=>?_)
   ·exact Nat.zero_le _
   by_cases hi : i < ks.length
   ·have hti:=fU hi
    have cx_dp:=ih oM oM (iF hks i hi)
    obtain ⟨bf,of,cf,e,hs⟩:=hsl.expl oM
    simp only [Value.slice.injEq] at e
    obtain ⟨rfl,-,rfl⟩:=e
    repeat' (first | refine jM ?_ | (refine jo ?_;first | (refine jV (cD F F aS ?_) ?_;focus omega) | refine aG F ?_ | refine jV (ax F F oM) ?_ | refine jL fun _=>?_ | refine jC F F F ?_ | refine jV (aax F F) ?_ | refine ab F F F cx_dp F ?_) | refine ac F (ay oM) ?_)
    refine Nx.re (d:=3) (v':=I (V.deeps (ks.take (i + 1)) : Nat)) F (congrArg (Value.int .i64) (by rw [dK hi,oz];omega)) ?_
    exact aW (i + 1) oM oM tU F (by repeat (exact List.nil_sublist _))
   ·have hin : i = ks.length:=oM
    subst hin
    rw [List.take_length]
    have hdt:=lT ks
    repeat' (first | refine jM ?_ | refine ad F (aC oM) ?_)
    refine jY (vs:=[_]) ?_
    rw [ar];congr 1
abbrev abr : TypeId:=183
theorem rD {s p : abL} (hs : s.length ≤ 1000000 ∧ p.length ≤ 1000000) : am abK 195 [S s,S p] G (· = Tu [S (if p.isPrefixOf s = true then s.drop p.length else s),Bo (p.isPrefixOf s)]):=by
 have cx_hp : am abK 157 [S s,S p] G (· = Bo (p.isPrefixOf s)):=gq
 cases hp : p.isPrefixOf s with
 | false =>
  rw [hp] at cx_hp
  refine jE [(0,_),(1,_)] Tryz.func195 Tryz.ntmps195 fun B hB=>?_
  repeat' (first | refine jR ?_ | (refine jo ?_;refine ab F F F gq F ?_) | (refine ac F ?_ ?_;(focus ((simp [*];done);done))))
  refine jY (vs:=[_,_]) ?_
  rfl
 | true =>
  rw [hp] at cx_hp
  have hl : p.length ≤ s.length:=by
   have:=List.isPrefixOf_iff_prefix.1 hp
   exact this.length_le
  refine jE [(0,_),(1,_)] Tryz.func195 Tryz.ntmps195 fun B hB=>?_
  repeat' (first | refine jM ?_ | (refine jo ?_;refine ab F F F gq F ?_) | (refine ad F ?_ ?_;(focus ((simp [*];done);done))))
  refine jY (vs:=[_,_]) ?_
  rfl
theorem rZ {s p : abL} (hs : s.length ≤ 1000000 ∧ p.length ≤ 1000000) : am abK 184 [S s,S p] G (· = Tu [S (if p.isPrefixOf s = true then s.drop p.length else s),Bo (p.isPrefixOf s)]):=by
 have cx_cp:=rD (G:=G) hs
 refine jE [(0,_),(1,_)] Tryz.func184 Tryz.ntmps184 fun B hB=>?_
 repeat' (first | refine jR ?_ | (refine jo ?_;refine ab F F F cx_cp F ?_))
 refine jY (vs:=[_,_]) ?_
 rfl
def cH (l s : abL) (b : Bool) : Bool:=!b && l.isPrefixOf s
def dB (l s : abL) (b : Bool) : abL:=if cH l s b = true then s.drop l.length else s
abbrev dG (r sc : Nat) (s : abL) (b : Bool) : Own:=.blk r (.cells (List.toArray [Pt sc 0,S s,Bo b]) abr (0,0))
theorem gm {r sc : Nat} {s l : abL} {b : Bool} (hs : s.length ≤ 1000000 ∧ l.length ≤ 1000000) : bQ abK 163 [Pt r 0,S l] G [dG r sc s b] (fun v L'=>v = Bo (cH l s b) ∧ L' = [dG r sc (dB l s b) b]):=by
 have cx_cp:=rZ (G:=G) hs
 unfold dB cH
 cases hp : l.isPrefixOf s with
 | false =>
  rw [hp] at cx_cp
  refine jH [(0,_),(1,_)] Tryz.func163 Tryz.ntmps163 fun B hB hW=>?_
  repeat' (first | refine jR ?_ | (refine jo ?_;first | refine aj F ?_ | refine av F ?_ | refine ab F F F cx_cp F ?_) | refine al F F F ?_ | refine ad F F ?_)
  exact aZ (vs:=[_]) F ⟨F,trivial⟩ F (List.Sublist.refl _) ⟨F,by cases b <;> rfl,by cases b <;> rfl⟩
 | true =>
  rw [hp] at cx_cp
  cases b with
  | true =>
   refine jH [(0,_),(1,_)] Tryz.func163 Tryz.ntmps163 fun B hB hW=>?_
   repeat' (first | refine jR ?_ | (refine jo ?_;first | refine aj F ?_ | refine aL F ?_ | refine ab F F F cx_cp F ?_) | refine aD F F F ?_ | refine ad F F ?_)
   exact aZ (vs:=[_]) F ⟨F,trivial⟩ F (List.Sublist.refl _) ⟨F,F,F⟩
  | false =>
   refine jH [(0,_),(1,_)] Tryz.func163 Tryz.ntmps163 fun B hB hW=>?_
   repeat' (first | refine jR ?_ | (refine jo ?_;first | refine aj F ?_ | refine aL F ?_ | refine jD F F F ?_ | refine ab F F F cx_cp F ?_) | refine aD F F F ?_ | refine ac F F ?_)
   exact aZ (vs:=[_]) F ⟨F,trivial⟩ F (List.Sublist.refl _) ⟨F,F,F⟩
theorem df {r sc : Nat} {s l : abL} {b : Bool} (hs : s.length ≤ 1000000 ∧ l.length ≤ 1000000) : bQ abK 164 [Pt r 0,S l] G [dG r sc s b] (fun v L'=>L' = [dG r sc (dB l s b) (!cH l s b)]):=by
 have cx_tk:=gm (G:=G) (r:=r) (sc:=sc) (b:=b) hs
 cases ht : cH l s b with
 | false =>
  rw [ht] at cx_tk
  refine jH [(0,_),(1,_)] Tryz.func164 Tryz.ntmps164 fun B hB hW=>?_
  repeat' (first | refine jR ?_ | (refine jo ?_;first | refine jD F F F ?_ | (refine af F F F cx_tk F ?_;rintro _ _ ⟨rfl,rfl⟩;dsimp only [zA,fA])) | refine ac F F ?_)
  exact nh (vs:=[]) F trivial F (List.Sublist.refl _) ⟨F,F⟩
 | true =>
  have hb : b = false:=by unfold cH at ht;cases b <;> simp_all
  subst hb
  rw [ht] at cx_tk
  refine jH [(0,_),(1,_)] Tryz.func164 Tryz.ntmps164 fun B hB hW=>?_
  repeat' (first | refine jR ?_ | (refine jo ?_;(refine af F F F cx_tk F ?_;rintro _ _ ⟨rfl,rfl⟩;dsimp only [zA,fA])) | refine ad F F ?_)
  exact nh (vs:=[]) F trivial F (List.Sublist.refl _) ⟨F,F⟩
theorem kj {p : Nat → Bool} {q : UInt8 → Bool} (h : ∀ c : UInt8,p c.toNat = q c) : ∀ s : abL,db p s = s.dropWhile q
 | []=>rfl
 | c :: r=>by
  rw [db,h c,List.dropWhile_cons]
  cases q c with
  | true=>simp only [if_true];exact kj h r
  | false=>simp
theorem zj : ∀ c : UInt8,eB [48,49,50,51,52,53,54,55,56,57] c.toNat = aU c:=by
 intro c
 have : ∀ n : Nat,n < 256 → eB [48,49,50,51,52,53,54,55,56,57] n = decide (48 ≤ n ∧ n ≤ 57):=by decide +kernel
 exact this _ c.toNat_lt
def txB : abL:=[97,98,99,100,101,102,103,104,105,106,107,108,109,110,111,112,113,114,115,116,117,118,119,120,121,122,48,49,50,51,52,53,54,55,56,57,32]
def cJ (c : UInt8) : Bool:=decide (hO c.toNat)
theorem yo : ∀ c : UInt8,eB txB c.toNat = cJ c:=by
 intro c
 have : ∀ n : Nat,n < 256 → eB txB n = decide (hO n):=by decide +kernel
 exact this _ c.toNat_lt
theorem i1 (q : UInt8 → Bool) (s : abL) : s.take (s.length - (s.dropWhile q).length) = s.takeWhile q:=by
 have h:=List.takeWhile_append_dropWhile (p:=q) (l:=s)
 have hl : (s.takeWhile q).length + (s.dropWhile q).length = s.length:=by
  have:=congrArg List.length h
  rwa [List.length_append] at this
 have e : s.length - (s.dropWhile q).length = (s.takeWhile q).length:=oM
 rw [e]
 have h2 : (s.takeWhile q ++ s.dropWhile q).take (s.takeWhile q).length = s.takeWhile q:=List.take_left
 rwa [h] at h2
theorem dA (q : UInt8 → Bool) (s : abL) : (s.takeWhile q).length + (s.dropWhile q).length = s.length:=by
 have h:=List.takeWhile_append_dropWhile (p:=q) (l:=s)
 have:=congrArg List.length h
 rwa [List.length_append] at this
theorem oV (x : abL) : cW (39 :: (x ++ [39])) = true ↔ x.length ≤ 12 ∧ ∀ c ∈ x,cJ c = true:=by
 unfold cW
 rw [decide_eq_true_eq]
 unfold wX
 have e0 : bt (39 :: (x ++ [39])) 0 = 39:=be _ _
 have e1 : (39 :: (x ++ [39]) : abL).length = x.length + 2:=by simp
 have e2 : bt (39 :: (x ++ [39])) (x.length + 1) = 39:=by
  rw [dJ];simp [bt]
 have e3 : ∀ i,i < x.length → bt (39 :: (x ++ [39])) (i + 1) = bt x i:=fun i hi=>by
  rw [dJ];simp [bt,List.getD,List.getElem?_append_left hi]
 rw [e1,show x.length + 2 - 1 = x.length + 1 by omega]
 constructor
 ·rintro ⟨⟨_,h1⟩,_,_,h2⟩
  refine ⟨oM,fun c hc=>?_⟩
  obtain ⟨i,hi,rfl⟩:=List.mem_iff_getElem.1 hc
  have:=h2 (i + 1) oM
  rw [e3 i hi] at this
  have h3 : bt x i = (x[i]).toNat:=by simp [bt,List.getD,List.getElem?_eq_getElem hi]
  rw [h3] at this
  unfold cJ
  rw [decide_eq_true_eq]
  rcases this with h | h
  ·omega
  ·exact h
 ·rintro ⟨h1,h2⟩
  refine ⟨⟨oM,oM⟩,e0,e2,fun i hi=>?_⟩
  cases i with
  | zero=>exact .inl F
  | succ i =>
   have hi' : i < x.length:=oM
   rw [e3 i hi']
   have h3 : bt x i = (x[i]).toNat:=by simp [bt,List.getD,List.getElem?_eq_getElem hi']
   rw [h3]
   have:=h2 _ (List.getElem_mem hi')
   unfold cJ at this
   rw [decide_eq_true_eq] at this
   exact .inr this
theorem yI {c : UInt8} (h : c.toNat = 39) : cJ c = false:=by
 have : c = 39:=UInt8.toNat_inj.1 h
 subst this;decide
theorem uv (s : abL) : c7 s = match s with
  | []=>none
  | c :: r=>if c.toNat = 39 then (match r.dropWhile cJ with
   | []=>none
   | d :: t=>if d.toNat = 39 ∧ (r.takeWhile cJ).length ≤ 12 then some (.nd 116 (r.takeWhile cJ) 0 [],t) else none) else none:=by
 cases s with
 | nil=>rfl
 | cons c r =>
  unfold c7
  dsimp only
  by_cases hc : c.toNat = 39
  ·rw [if_pos hc,if_pos hc]
   have hcut : ∀ r : abL,aF 39 r = match r.dropWhile cJ with
    | []=>(r,[],false)
    | d :: t=>if d.toNat = 39 then (r.takeWhile cJ,t,true) else (r.takeWhile cJ ++ (aF 39 (d :: t)).1,(aF 39 (d :: t)).2):=by
    intro r
    induction r with
    | nil=>rfl
    | cons x r ih =>
     rw [List.dropWhile_cons,List.takeWhile_cons]
     by_cases hx : cJ x = true
     ·rw [if_pos hx,if_pos hx]
      have h39 : ¬ x.toNat = 39:=fun h=>by rw [yI h] at hx;cases hx
      rw [aF,if_neg h39,ih]
      cases hd : r.dropWhile cJ with
      | nil=>rfl
      | cons d t =>
       dsimp only
       split
       ·rfl
       ·rfl
     ·rw [if_neg hx,if_neg hx]
      dsimp only
      split
      ·rename_i h39;rw [aF,if_pos h39]
      ·simp
   rw [hcut]
   cases hd : r.dropWhile cJ with
   | nil=>rfl
   | cons d t =>
    dsimp only
    by_cases h39 : d.toNat = 39
    ·rw [if_pos h39]
     dsimp only
     by_cases h12 : (r.takeWhile cJ).length ≤ 12
     ·rw [if_pos ((oV _).2 ⟨h12,fun c hc=>List.all_eq_true.1 (List.all_takeWhile (l:=r) (p:=cJ)) c hc⟩),if_pos ⟨h39,h12⟩]
     ·rw [if_neg (fun h=>h12 ((oV _).1 h).1),if_neg (fun h=>h12 h.2)]
    ·rw [if_neg h39,if_neg (fun h=>h39 h.1)]
     cases hcc : aF 39 (d :: t) with
     | mk a b =>
      obtain ⟨b,f⟩:=b
      cases f with
      | false=>rfl
      | true =>
       dsimp only
       rw [if_neg]
       intro h
       have hall:=((oV _).1 h).2
       have hdx : cJ d = false:=by
        have:=List.head_dropWhile_not (p:=cJ) (l:=r) (by rw [hd];simp)
        simpa [hd] using this
       have ha : d ∈ a:=by
        rw [aF,if_neg h39] at hcc
        simp only [Prod.mk.injEq] at hcc
        rw [← hcc.1];simp
       have:=hall d (List.mem_append_right _ ha)
       rw [hdx] at this;cases this
  ·rw [if_neg hc,if_neg hc]
theorem k6 {r sc : Nat} {s : abL} {b : Bool} {top : Int} (hs : s.length ≤ 1000000) : bQ abK 165 [Pt r 0,I top] G [dG r sc s b]
  (fun v L'=>∃ n,v = I n ∧ (0 ≤ n ∧ n ≤ 999999) ∧ (∀ m,aM (s.takeWhile aU) top = some m → n = m) ∧ L' = [dG r sc (s.dropWhile aU) (b || (aM (s.takeWhile aU) top).isNone)]):=by
 have hwl:=dA aU s
 have cx_tl : am abK 119 [S s,S [48,49,50,51,52,53,54,55,56,57]] G (· = S (s.dropWhile aU)):=by
  rw [← kj zj]
  exact lc F kR F
 have e1 : s.take (((s.length : Nat) : Int) - (((s.dropWhile aU).length : Nat) : Int)).toNat = s.takeWhile aU:=by
  rw [← i1];congr 1;omega
 have cx_pnB:=gE (G:=G) (s:=s.takeWhile aU) (top:=top) oM
 rw [← e1] at cx_pnB
 cases hnum2 : (aM (s.takeWhile aU) top) with
 | none =>
  rw [← e1] at hnum2
  have hno : (!(aM (s.take (((s.length : Nat) : Int) - (((s.dropWhile aU).length : Nat) : Int)).toNat) top).isSome) = true:=by rw [hnum2];rfl
  refine jH [(0,_),(1,_)] Tryz.func165 Tryz.ntmps165 fun B hB hW=>?_
  repeat' (first | refine jR ?_ | (refine jo ?_;first | refine aj F ?_ | refine jD F F F ?_ | refine ab F F F cx_tl F ?_) | refine ac F ‹_› ?_ | (refine ai (an (id:=2) _ (fun _ h=>h) ah ?_);refine jT 11 [0,1,2,4,5,6,9,10,13] (aa 20 9847) ?_;(refine jG (aa 20 9855) 3 F (aq F F F) ?_);(refine jG (aa 20 9983) 7 F (aq F F F) ?_);refine jW 6 [8,11,12] (aa 20 16383) ?_;refine jA 14 F ?_;(refine cn F F F cx_pnB F ?_;rintro _ ⟨n,rfl,hnum,hn0,hn1⟩);refine jS (aa 20 32767) ?_;refine jT 0 [15,16,17,18,19] (aa 20 1048575) ?_;refine jQ ?_))
  exact aZ (vs:=[_]) F ⟨F,trivial⟩ F (List.Sublist.refl _) ⟨F,_,F,⟨hn0,hn1⟩,fun m hm=>(by cases hm),by simp⟩
 | some m =>
  rw [← e1] at hnum2
  have hno : (!(aM (s.take (((s.length : Nat) : Int) - (((s.dropWhile aU).length : Nat) : Int)).toNat) top).isSome) = false:=by rw [hnum2];rfl
  refine jH [(0,_),(1,_)] Tryz.func165 Tryz.ntmps165 fun B hB hW=>?_
  repeat' (first | refine jR ?_ | (refine jo ?_;first | refine aj F ?_ | refine jD F F F ?_ | refine ab F F F cx_tl F ?_) | refine ad F ‹_› ?_ | (refine ai (an (id:=2) _ (fun _ h=>h) ah ?_);refine jT 11 [0,1,2,4,5,6,9,10,13] (aa 20 9847) ?_;(refine jG (aa 20 9855) 3 F (aq F F F) ?_);(refine jG (aa 20 9983) 7 F (aq F F F) ?_);refine jW 6 [8,11,12] (aa 20 16383) ?_;refine jA 14 F ?_;(refine cn F F F cx_pnB F ?_;rintro _ ⟨n,rfl,hnum,hn0,hn1⟩);refine jS (aa 20 32767) ?_;refine jT 0 [15,16,17,18,19] (aa 20 1048575) ?_;refine jQ ?_))
  exact aZ (vs:=[_]) F ⟨F,trivial⟩ F (List.Sublist.refl _) ⟨F,_,F,⟨hn0,hn1⟩,fun m' hm=>hnum m' (by rw [hnum2];exact hm),by simp⟩
theorem iB {l s : abL} {b : Bool} : (dB l s b).length ≤ s.length:=by unfold dB;split <;> simp
theorem eM {c : UInt8} {s : abL} : cH [c] s false = true ↔ ∃ r,s = c :: r:=by
 cases s with
 | nil =>
  constructor
  ·intro h;simp [cH,List.isPrefixOf] at h
  ·rintro ⟨r,h⟩;cases h
 | cons d r =>
  constructor
  ·intro h
   have : c = d:=by simpa [cH,List.isPrefixOf] using h
   exact ⟨r,by rw [this]⟩
  ·rintro ⟨r',h⟩
   simp only [List.cons.injEq] at h
   simp [cH,List.isPrefixOf,h.1]
theorem fD {c : UInt8} {r : abL} : dB [c] (c :: r) false = r:=by unfold dB;rw [if_pos (eM.2 ⟨r,rfl⟩)];rfl
theorem fV {l s : abL} : cH l s true = false:=by simp [cH]
theorem gZ {l s : abL} : dB l s true = s:=by simp [dB,fV]
theorem fO {l s : abL} {b : Bool} (h : cH l s b = false) : dB l s b = s:=by simp [dB,h]
def QuP (s : abL) (b : Bool) (x s' : abL) (b' : Bool) : Prop :=
 x.length + s'.length ≤ s.length ∧ (b' = false → b = false ∧ c7 s = some (.nd 116 x 0 [],s')) ∧ (b' = true → b = true ∨ c7 s = none)
theorem yF (s : abL) (b : Bool) : QuP s b ((dB [39] s b).takeWhile cJ) (dB [39] ((dB [39] s b).dropWhile cJ) (!cH [39] s b)) (!cH [39] ((dB [39] s b).dropWhile cJ) (!cH [39] s b) || decide (12 < ((dB [39] s b).takeWhile cJ).length)):=by
 have hl : ((dB [39] s b).takeWhile cJ).length + (dB [39] ((dB [39] s b).dropWhile cJ) (!cH [39] s b)).length ≤ s.length:=by
  have h1:=iB (l:=[39]) (s:=s) (b:=b)
  have h2:=dA cJ (dB [39] s b)
  have h3:=iB (l:=[39]) (s:=(dB [39] s b).dropWhile cJ) (b:=!cH [39] s b)
  omega
 refine ⟨hl,?_⟩
 rw [uv]
 cases b with
 | true=>rw [gZ,fV];simp [fV]
 | false =>
  cases ht : cH [39] s false with
  | false =>
   simp only [Bool.not_false,fV,Bool.true_or]
   refine ⟨fun h=>(by cases h),fun _=>.inr ?_⟩
   cases s with
   | nil=>rfl
   | cons c r =>
    dsimp only
    rw [if_neg]
    intro hc
    have : cH [39] (c :: r) false = true:=eM.2 ⟨r,by rw [show c = 39 from UInt8.toNat_inj.1 hc]⟩
    rw [this] at ht;cases ht
  | true =>
   obtain ⟨r,rfl⟩:=eM.1 ht
   rw [fD]
   dsimp only
   rw [if_pos (show (39 : UInt8).toNat = 39 from rfl),Bool.not_true]
   cases ht2 : cH [39] (r.dropWhile cJ) false with
   | false =>
    simp only [Bool.not_false,Bool.true_or]
    refine ⟨fun h=>(by cases h),fun _=>.inr ?_⟩
    cases hd : r.dropWhile cJ with
    | nil=>rfl
    | cons d t =>
     dsimp only
     rw [if_neg]
     rintro ⟨hc,_⟩
     have : cH [39] (r.dropWhile cJ) false = true:=eM.2 ⟨t,by rw [hd,show d = 39 from UInt8.toNat_inj.1 hc]⟩
     rw [this] at ht2;cases ht2
   | true =>
    obtain ⟨t,hd⟩:=eM.1 ht2
    rw [hd,fD]
    dsimp only
    by_cases h12 : 12 < (r.takeWhile cJ).length
    ·rw [decide_eq_true h12,if_neg (fun h=>by omega)]
     exact ⟨fun h=>(by cases h),fun _=>.inr F⟩
    ·rw [decide_eq_false h12,if_pos ⟨rfl,oM⟩]
     exact ⟨fun _=>⟨F,F⟩,fun h=>(by cases h)⟩
theorem xU {r sc : Nat} {s : abL} {b : Bool} (hs : s.length ≤ 1000000) : bQ abK 166 [Pt r 0] G [dG r sc s b]
  (fun v L'=>∃ x s' b',v = S x ∧ QuP s b x s' b' ∧ L' = [dG r sc s' b']):=by
 have hq:=yF s b
 have h1:=iB (l:=[39]) (s:=s) (b:=b)
 have h2:=dA cJ (dB [39] s b)
 have h3:=iB (l:=[39]) (s:=(dB [39] s b).dropWhile cJ) (b:=!cH [39] s b)
 have cx_wa:=df (G:=G) (r:=r) (sc:=sc) (s:=s) (l:=[39]) (b:=b) ⟨hs,by simp⟩
 have cx_wb:=df (G:=G) (r:=r) (sc:=sc) (s:=(dB [39] s b).dropWhile cJ) (l:=[39]) (b:=!cH [39] s b) ⟨oM,by simp⟩
 have cx_tl : am abK 119 [S (dB [39] s b),S [97,98,99,100,101,102,103,104,105,106,107,108,109,110,111,112,113,114,115,116,117,118,119,120,121,122,48,49,50,51,52,53,54,55,56,57,32]] G (· = S ((dB [39] s b).dropWhile cJ)):=by
  rw [← kj yo]
  exact lc F kR F
 have e1 : (dB [39] s b).take ((((dB [39] s b).length : Nat) : Int) - ((((dB [39] s b).dropWhile cJ).length : Nat) : Int)).toNat = (dB [39] s b).takeWhile cJ:=by
  rw [← i1];congr 1;omega
 by_cases h12 : 12 < ((dB [39] s b).takeWhile cJ).length
 ·rw [decide_eq_true h12,Bool.or_true] at hq
  rw [← e1] at h12
  refine jH [(0,_)] Tryz.func166 Tryz.ntmps166 fun B hB hW=>?_
  repeat' (first | refine jR ?_ | (refine jo ?_;first | refine aj F ?_ | refine jD F F F ?_ | (refine af F F F cx_wa F ?_;rintro _ _ rfl;dsimp only [zA,fA]) | (refine af F F F cx_wb F ?_;rintro _ _ rfl;dsimp only [zA,fA]) | refine ab F F F cx_tl F ?_) | refine ac F (ay oM) ?_ | (refine ai (an (id:=3) _ (fun _ h=>h) ah ?_);refine jT 6 [0,1,2,4,5,6,9,10] (aa 14 1655) ?_;(refine jG (aa 14 1663) 3 F (aq F F F) ?_);(refine jG (aa 14 1791) 7 F (aq F F F) ?_);refine jW 0 [8,11,12,13] (aa 14 16383) ?_;refine jQ ?_))
  all_goals exact aZ (vs:=[_]) F ⟨F,trivial⟩ F (List.Sublist.refl _) ⟨F,_,_,_,F,by rw [e1];exact hq,F⟩
 ·rw [decide_eq_false h12,Bool.or_false] at hq
  rw [← e1] at h12
  refine jH [(0,_)] Tryz.func166 Tryz.ntmps166 fun B hB hW=>?_
  repeat' (first | refine jR ?_ | (refine jo ?_;first | refine aj F ?_ | refine jD F F F ?_ | (refine af F F F cx_wa F ?_;rintro _ _ rfl;dsimp only [zA,fA]) | (refine af F F F cx_wb F ?_;rintro _ _ rfl;dsimp only [zA,fA]) | refine ab F F F cx_tl F ?_) | refine ad F (aC oM) ?_ | (refine ai (an (id:=3) _ (fun _ h=>h) ah ?_);refine jT 6 [0,1,2,4,5,6,9,10] (aa 14 1655) ?_;(refine jG (aa 14 1663) 3 F (aq F F F) ?_);(refine jG (aa 14 1791) 7 F (aq F F F) ?_);refine jW 0 [8,11,12,13] (aa 14 16383) ?_;refine jQ ?_))
  all_goals exact aZ (vs:=[_]) F ⟨F,trivial⟩ F (List.Sublist.refl _) ⟨F,_,_,_,F,by rw [e1];exact hq,F⟩
def RdP (f : abL → Option (V × abL)) (s : abL) (b : Bool) (u : V) (s' : abL) (b' : Bool) : Prop :=
 s'.length ≤ s.length ∧ (b' = false → b = false ∧ f s = some (u,s')) ∧ (b' = true → (b = true ∨ f s = none) ∧ u.tot + 100 * s'.length ≤ 100 * s.length + 100)
def gI (f : abL → Option (V × abL)) (r sc : Nat) (s : abL) (b : Bool) (v : Value) (G' : Gh) (L' : List Own) : Prop :=
 ∃ u c s' b',v = Ag (b6 c) ∧ V.rep G' u c ∧ L' = [dG r sc s' b'] ∧ RdP f s b u s' b'
def mc (n sc : Nat) (qs : List cx) : Prop:=∀ (G : Gh) (r : Nat) (k s : abL) (b : Bool),ScI G sc qs → aP (ak qs) k = true → s.length < n → s.length ≤ 1000 →
 dh abK 133 [Pt r 0,Ag (d4 k)] G [dG r sc s b] (gI (rd (ak qs) n k) r sc s b)
def er (f : abL → Option (V × abL)) : abL → Option (V × abL)
 | []=>none
 | d :: s'=>if d.toNat = 91 then (match s' with
   | []=>none
   | e :: r=>if e.toNat = 93 then some (.nd 91 [] 0 [],r) else (a8 f 20 s' []).map fun x=>(.nd 91 [] 0 x.1,x.2)) else none
theorem lB {f : abL → Option (V × abL)} (hf : ∀ s x,f s = some x → x.2.length < s.length) : ∀ (m M : Nat) (s : abL) (acc : List V),s.length < M →
  a8 f m s acc = match a8 f M s acc with
   | none=>none
   | some x=>if x.1.length ≤ acc.length + m then some x else none
 | 0,M,s,acc,hM=>by
  cases hr : a8 f M s acc with
  | none=>rfl
  | some x =>
   have : acc.length + 1 ≤ x.1.length:=by
    clear hM
    induction M generalizing s acc with
    | zero=>cases hr
    | succ M ih =>
     unfold a8 at hr
     cases hfs : f s with
     | none=>rw [hfs] at hr;cases hr
     | some y =>
      rw [hfs] at hr
      obtain ⟨v,r⟩:=y
      cases r with
      | nil=>cases hr
      | cons c r =>
       dsimp only at hr
       split at hr
       ·have:=ih _ _ hr;simp at this;omega
       ·split at hr
        ·simp only [Option.some.injEq] at hr;subst hr;simp
        ·cases hr
   dsimp only
   rw [if_neg oM];rfl
 | m + 1,0,s,acc,hM=>by omega
 | m + 1,M + 1,s,acc,hM=>by
  rw [a8,a8]
  cases hfs : f s with
  | none=>rfl
  | some y =>
   have hlt:=hf _ _ hfs
   obtain ⟨v,r⟩:=y
   cases r with
   | nil=>rfl
   | cons c r =>
    simp only [List.length_cons] at hlt
    dsimp only
    split
    ·rw [lB hf m M r (acc ++ [v]) oM]
     cases a8 f M r (acc ++ [v]) with
     | none=>rfl
     | some x=>dsimp only;simp only [List.length_append,List.length_singleton];congr 1;simp;omega
    ·split
     ·dsimp only;rw [if_pos (by simp)]
     ·rfl
theorem ii {f : abL → Option (V × abL)} {t : abL} {vs : List V} : ∀ {m : Nat},(f t = none ∨ ∃ u,f t = some (u,[])) → a8 f m t vs = none
 | 0,_=>rfl
 | m + 1,h=>by
  rw [a8]
  rcases h with h | ⟨u,h⟩ <;> rw [h]
theorem ig {f : abL → Option (V × abL)} {t t2 : abL} {c : UInt8} {u : V} {vs : List V} {m : Nat} (h : f t = some (u,c :: t2)) (hm : 0 < m) :
  a8 f m t vs = if c.toNat = 44 then a8 f (m - 1) t2 (vs ++ [u]) else if c.toNat = 93 then some (vs ++ [u],t2) else none:=by
 obtain ⟨m,rfl⟩ : ∃ k,m = k + 1:=⟨m - 1,oM⟩
 rw [a8,h];rfl
theorem gv {ts : List Ty} {n : Nat} {k s : abL} {x : V × abL} (h : rd ts n k s = some x) : x.2.length < s.length:=by
 have:=iG n k s x h
 have:=io x.1
 omega
abbrev tj : TypeId:=99
abbrev pL (b : Nat) (cs : List Value) : Own:=.blk b (.cells cs.toArray g5 (0,0))
theorem zE {n r sc : Nat} {qs : List cx} {k s : abL} {b : Bool} (hV : mc n sc qs) (hS : ScI G sc qs) (hk : aP (ak qs) k = true) (hs : s.length ≤ n ∧ s.length ≤ 1000) :
  dh abK 162 [Pt r 0,Ag (d4 k)] G [dG r sc s b] (gI (er (rd (ak qs) n k)) r sc s b):=by
 have cx_wa:=df (G:=G) (r:=r) (sc:=sc) (s:=s) (l:=[91]) (b:=b) ⟨oM,by simp⟩
 have cx_tk:=gm (G:=G) (r:=r) (sc:=sc) (s:=dB [91] s b) (l:=[93]) (b:=!cH [91] s b) ⟨by have:=iB (l:=[91]) (s:=s) (b:=b);omega,by simp⟩
 simp only [d4]
 cases ht : cH [91] s b with
 | false =>
  rw [ht,fO ht] at cx_wa cx_tk
  rw [Bool.not_false,fV,gZ] at cx_tk
  have cx_wb:=df (G:=G) (r:=r) (sc:=sc) (s:=s) (l:=[93]) (b:=true) ⟨oM,by simp⟩
  rw [fV,gZ] at cx_wb
  refine cr [(0,_),(1,_)] Tryz.func162 kR Tryz.ntmps162 F F tU fun B hB hW=>?_
  repeat' (first | refine jR ?_ | (refine jo ?_;first | refine jO fun _=>?_ | refine jL fun _=>?_ | refine jV (ao F F) ?_ | refine jC F F F ?_ | (refine af F F F cx_wa F ?_;rintro _ _ rfl;dsimp only [zA,fA]) | (refine af F F F cx_tk F ?_;rintro _ _ ⟨rfl,rfl⟩;dsimp only [zA,fA])) | refine ad F F ?_)
  rename_i x3 x4 x5 _
  refine aR (ι:=Unit) (fun i=>True) (fun i=>[(0,Pt r 0),(4,Pt x4 0),(5,Pt x5 0)]) (fun _=>G) (fun i=>[dG r sc s true,pL x5 [U8 91,S [],I 0,aK],pL x4 [U8 0,S [],I 0,aK]]) (fun i=>0) () ?_ tU F sB (fun i Hi=>?_)
  ·trivial
  repeat' (first | refine jR ?_ | (refine jo ?_;first | refine jC F F F ?_ | refine aj F ?_ | refine aG F ?_ | refine jV (aw F) ?_ | (refine af F F F cx_wb F ?_;rintro _ _ rfl;dsimp only [zA,fA])) | refine ad F F ?_)
  refine aZ (vs:=[_]) F ⟨aE F F F F,trivial⟩ F sB ⟨Gh.le.refl _,.nd 91 [] 0 [],⟨91,[],0,none,0,0⟩,s,true,F,bj dC dC,F,Nat.le_refl _,fun h=>(by cases h),fun _=>⟨?_,by simp only [V.tot,V.tots,List.length_nil];omega⟩⟩
  cases b with
  | true=>exact .inl F
  | false =>
   right
   cases s with
   | nil=>rfl
   | cons d r' =>
    unfold er
    dsimp only
    rw [if_neg]
    intro h91
    have : cH [91] (d :: r') false = true:=eM.2 ⟨r',by rw [show d = 91 from UInt8.toNat_inj.1 h91]⟩
    rw [this] at ht;cases ht
 | true =>
  have hb : b = false:=by cases b with | true=>rw [fV] at ht;cases ht | false=>rfl
  subst hb
  obtain ⟨s1,rfl⟩:=eM.1 ht
  rw [ht,fD] at cx_wa cx_tk
  rw [Bool.not_true] at cx_wa cx_tk
  simp only [List.length_cons] at hs
  cases ht2 : cH [93] s1 false with
  | true =>
   obtain ⟨s2,rfl⟩:=eM.1 ht2
   rw [ht2,fD] at cx_tk
   refine cr [(0,_),(1,_)] Tryz.func162 kR Tryz.ntmps162 F F tU fun B hB hW=>?_
   repeat' (first | refine jR ?_ | (refine jo ?_;first | refine jO fun _=>?_ | refine jL fun _=>?_ | refine jV (ao F F) ?_ | refine jC F F F ?_ | refine aG F ?_ | (refine af F F F cx_wa F ?_;rintro _ _ rfl;dsimp only [zA,fA]) | (refine af F F F cx_tk F ?_;rintro _ _ ⟨rfl,rfl⟩;dsimp only [zA,fA])) | refine ac F F ?_)
   refine aZ (vs:=[_]) F ⟨aE F F F F,trivial⟩ F sB ⟨Gh.le.refl _,.nd 91 [] 0 [],⟨91,[],0,none,0,0⟩,s2,false,F,bj dC dC,F,by simp only [List.length_cons];omega,fun _=>⟨rfl,rfl⟩,fun h=>(by cases h)⟩
  | false =>
   rw [ht2,fO ht2] at cx_tk
   have hR : er (rd (ak qs) n k) (91 :: s1) = (a8 (rd (ak qs) n k) 20 s1 []).map fun x=>(.nd 91 [] 0 x.1,x.2):=by
    unfold er
    dsimp only
    rw [if_pos (show (91 : UInt8).toNat = 91 from rfl)]
    cases s1 with
    | nil =>
     have : rd (ak qs) n k [] = none:=by
      cases h : rd (ak qs) n k [] with
      | none=>rfl
      | some x=>have:=gv h;simp at this
     simp [a8,this]
    | cons e r' =>
     dsimp only
     rw [if_neg]
     intro h93
     have : cH [93] (e :: r') false = true:=eM.2 ⟨r',by rw [show e = 93 from UInt8.toNat_inj.1 h93]⟩
     rw [this] at ht2;cases ht2
   have hmore:=lB (f:=rd (ak qs) n k) (fun s x h=>gv h) 20 (s1.length + 1) s1 [] oM
   refine cr [(0,_),(1,_)] Tryz.func162 kR Tryz.ntmps162 F F tU fun B hB hW=>?_
   repeat' (first | refine jR ?_ | (refine jo ?_;first | refine jO fun _=>?_ | refine jL fun _=>?_ | refine jV (ao F F) ?_ | refine jC F F F ?_ | (refine af F F F cx_wa F ?_;rintro _ _ rfl;dsimp only [zA,fA]) | (refine af F F F cx_tk F ?_;rintro _ _ ⟨rfl,rfl⟩;dsimp only [zA,fA])) | refine ad F F ?_)
   rename_i x3 x4 x5 _
   refine Nx.addNil g5 4 (Nx.perm (List.Perm.swap _ _ _) ?_)
   refine aR (ι:=List V × List VC × Option Addr × Nat × abL × Nat × Gh) (fun q=>(V.reps q.2.2.2.2.2.2 q.1 q.2.1 ∧ Gh.le G q.2.2.2.2.2.2) ∧ (a8 (rd (ak qs) n k) (s1.length + 1) s1 [] = a8 (rd (ak qs) n k) q.2.2.2.2.2.1 q.2.2.2.2.1 q.1 ∧ q.2.2.2.2.1.length < q.2.2.2.2.2.1) ∧ (V.tots q.1 + 100 * q.2.2.2.2.1.length + 100 ≤ 100 * (s1.length + 1) ∧ q.2.2.2.2.1.length ≤ s1.length)) (fun q=>[(0,Pt r 0),(3,Pt x3 0),(4,Pt x4 0),(5,Pt x5 0)]) (fun q=>q.2.2.2.2.2.2) (fun q=>[dG r sc q.2.2.2.2.1 false,.acc (.slice q.2.2.1 q.1.length q.2.2.2.1) g5 4 q.1.length (aA b6 q.2.1),pL x5 [U8 91,S [],I 0,.slice q.2.2.1 q.1.length q.2.2.2.1],pL x4 [U8 0,S [],I 0,aK],.blk x3 (.cells (List.toArray [S (sg k),S (bs k),S (nm k)]) tj (0,0))]) (fun q=>q.2.2.2.2.1.length) ([],[],none,0,s1,s1.length + 1,G) ?_ tU F aX (fun q Hq=>?_)
   ·exact ⟨⟨F,Gh.le.refl _⟩,⟨F,by dsimp only;omega⟩,by dsimp only;simp only [V.tots];omega,Nat.le_refl _⟩
   obtain ⟨vs,cs,a,cap,t,m,Gq⟩:=q
   dsimp only at Hq ⊢
   obtain ⟨⟨hreps,hgq⟩,⟨hit,htm⟩,hT,htl⟩:=Hq
   have hcl:=gu hreps
   have hkl:=dT vs
   have cx_vl:=hV Gq r k t false (hS.mono hgq) hk oM oM
   repeat' (first | refine jR ?_ | (refine jo ?_;refine aj F ?_) | refine ac F F ?_)
   (refine ai (an (id:=6) [.blk x3 (.cells (List.toArray [S (sg k),S (bs k),S (nm k)]) tj (0,0))] (by intro y hy;simp only [List.mem_cons,List.not_mem_nil,or_false] at hy ⊢;simp [hy]) ah ?_);refine jW 7 [0,2] (aa 9 5) ?_;(refine jG (aa 9 13) 3 F (bq F F F F) ?_);refine dy [1,4] kR dC ⟨?_,?_,trivial⟩;(focus (refine bY F F ?_;(refine aj F ?_);refine jK (aa 9 15) ?_;refine jA 4 F ?_;(refine dI F F F cx_vl F ?_;rintro _ G1 _ hle ⟨u1,c1,t1,b1,rfl,hrep,rfl,hP⟩;dsimp only [zA,fA];skip);refine jK (aa 9 31) ?_;refine jA 5 F ?_;(refine jF fun _=>?_);refine jK (aa 9 63) ?_;refine jA 6 F ?_;((refine cQ F F F F F F F F F ?_ fun _ _=>?_;focus omega));refine jK (aa 9 127) ?_;refine jW 1 [7] (aa 9 255) ?_;refine jA 8 F ?_;(refine jD F F F ?_);refine jK (aa 9 511) ?_;refine jQ ?_));rotate_left 1;(focus (refine bY F F ?_;(refine dI F F F cx_vl F ?_;rintro _ G1 _ hle ⟨u1,c1,t1,b1,rfl,hrep,rfl,hP⟩;dsimp only [zA,fA];skip);refine jK (aa 9 29) ?_;refine dy [1,5] kR dC ⟨?_,?_,trivial⟩;(focus (refine bY F F ?_;(refine aj F ?_);refine jK (aa 9 31) ?_;refine jA 5 F ?_;(refine jF fun _=>?_);refine jK (aa 9 63) ?_;refine jA 6 F ?_;((refine cQ F F F F F F F F F ?_ fun _ _=>?_;focus omega));refine jK (aa 9 127) ?_;refine jW 1 [7] (aa 9 255) ?_;refine jA 8 F ?_;(refine jD F F F ?_);refine jK (aa 9 511) ?_;refine jQ ?_));rotate_left 1;(focus (refine bY F F ?_;(refine jF fun _=>?_);refine jK (aa 9 61) ?_;refine jA 1 F ?_;(refine aj F ?_);refine jK (aa 9 63) ?_;refine jA 6 F ?_;((refine cQ F F F F F F F F F ?_ fun _ _=>?_;focus omega));refine jK (aa 9 127) ?_;refine jW 1 [7] (aa 9 255) ?_;refine jA 8 F ?_;(refine jD F F F ?_);refine jK (aa 9 511) ?_;refine jQ ?_));rotate_left 1));rotate_left 2)
   all_goals
    rename_i y1 yc
    have hrow : aA b6 cs ++ [U8 (c1.what : Nat),S c1.text,I c1.tag,c1.sl] = aA b6 (cs ++ [c1]):=(cy b6 cs c1).symm
    have hr2 : V.reps G1 (vs ++ [u1]) (cs ++ [c1]):=gQ hrep (bU hle hreps)
    have hvl : (vs ++ [u1]).length = vs.length + 1:=by simp
    have htu : V.tots (vs ++ [u1]) = V.tots vs + u1.tot:=by simp [fN,V.tots]
    have hgl:=hgq.trans hle
    obtain ⟨hPl,hP0,hP1⟩:=hP
    rw [hrow]
    cases b1 with
    | true =>
     obtain ⟨hno,hto⟩:=hP1 rfl
     have hno : rd (ak qs) n k t = none:=by
      rcases hno with h | h
      ·cases h
      ·exact h
     have hit2 : a8 (rd (ak qs) n k) m t vs = none:=ii (.inl hno)
     have cx_tm:=gm (G:=G1) (r:=r) (sc:=sc) (s:=t1) (l:=[44]) (b:=true) ⟨oM,by simp⟩
     have cx_wb:=df (G:=G1) (r:=r) (sc:=sc) (s:=t1) (l:=[93]) (b:=true) ⟨oM,by simp⟩
     rw [fV,gZ] at cx_tm cx_wb
     repeat' (first | refine jR ?_ | (refine jo ?_;first | refine jD F F F ?_ | refine jC F F F ?_ | refine aj F ?_ | refine aG F ?_ | refine jV (aw F) ?_ | (refine af F F F cx_wb F ?_;rintro _ _ rfl;dsimp only [zA,fA]) | (refine af F F F cx_tm F ?_;rintro _ _ ⟨rfl,rfl⟩;dsimp only [zA,fA])) | refine ac F F ?_ | refine cT F (fun _=>?_) (fun _=>?_))
     all_goals (refine Nx.sealS (v:=.slice (some ⟨y1,0,none⟩) (vs.length + 1) yc) fun G2 hG2 hsl=>?_)
     all_goals refine aZ (vs:=[_]) F ⟨aE F F F F,trivial⟩ F sB ⟨hgl.trans hG2,.nd 91 [] 0 (vs ++ [u1]),⟨91,[],0,some ⟨y1,0,none⟩,vs.length + 1,yc⟩,t1,true,F,cM dC dC (fun h=>absurd h dC) hvl.symm (by rw [List.length_append,List.length_singleton,hcl];exact hsl) (bU hG2 hr2),F,by simp only [List.length_cons];omega,fun h=>(by cases h),fun _=>⟨.inr (by rw [hR,hmore,hit,hit2];rfl),by rw [cX,htu];simp only [List.length_cons,List.length_nil];omega⟩⟩
    | false =>
     obtain ⟨_,hfs⟩:=hP0 rfl
     have htot:=iG n k t _ hfs
     dsimp only at htot
     have hup:=io u1
     have cx_tm:=gm (G:=G1) (r:=r) (sc:=sc) (s:=t1) (l:=[44]) (b:=false) ⟨oM,by simp⟩
     cases ht3 : cH [44] t1 false with
     | true =>
      obtain ⟨t2,rfl⟩:=eM.1 ht3
      rw [ht3,fD] at cx_tm
      have hit2:=ig (m:=m) (vs:=vs) hfs oM
      rw [if_pos (show (44 : UInt8).toNat = 44 from rfl)] at hit2
      simp only [List.length_cons] at htot hPl
      have hlt : t2.length < m - 1:=oM
      repeat' (first | refine jR ?_ | (refine jo ?_;(refine af F F F cx_tm F ?_;rintro _ _ ⟨rfl,rfl⟩;dsimp only [zA,fA])) | refine ad F F ?_)
      exact aW (vs ++ [u1],cs ++ [c1],some ⟨y1,0,none⟩,yc,t2,m - 1,G1) ⟨⟨hr2,hgl⟩,⟨by rw [hit,hit2],hlt⟩,by dsimp only;omega,by dsimp only;omega⟩ (by dsimp only;omega) tU rfl (by rw [hvl];repeat (first | exact List.Sublist.refl _ | apply List.Sublist.cons_cons | apply List.Sublist.cons))
     | false =>
      rw [ht3,fO ht3] at cx_tm
      have cx_wb:=df (G:=G1) (r:=r) (sc:=sc) (s:=t1) (l:=[93]) (b:=false) ⟨oM,by simp⟩
      cases ht4 : cH [93] t1 false with
      | true =>
       obtain ⟨t2,rfl⟩:=eM.1 ht4
       rw [ht4,fD,Bool.not_true] at cx_wb
       have hit2:=ig (m:=m) (vs:=vs) hfs oM
       rw [if_neg (show ¬ (93 : UInt8).toNat = 44 by decide),if_pos (show (93 : UInt8).toNat = 93 from rfl)] at hit2
       simp only [List.length_cons] at htot hPl
       by_cases h20 : vs.length + 1 ≤ 20
       ·repeat' (first | refine jR ?_ | (refine jo ?_;first | refine jC F F F ?_ | refine aj F ?_ | refine aG F ?_ | refine jV (aw F) ?_ | (refine af F F F cx_wb F ?_;rintro _ _ rfl;dsimp only [zA,fA]) | (refine af F F F cx_tm F ?_;rintro _ _ ⟨rfl,rfl⟩;dsimp only [zA,fA])) | refine ac F F ?_ | refine ad F (aC oM) ?_)
        refine Nx.sealS (v:=.slice (some ⟨y1,0,none⟩) (vs.length + 1) yc) fun G2 hG2 hsl=>?_
        refine aZ (vs:=[_]) F ⟨aE F F F F,trivial⟩ F sB ⟨hgl.trans hG2,.nd 91 [] 0 (vs ++ [u1]),⟨91,[],0,some ⟨y1,0,none⟩,vs.length + 1,yc⟩,t2,false,F,cM dC dC (fun h=>absurd h dC) hvl.symm (by rw [List.length_append,List.length_singleton,hcl];exact hsl) (bU hG2 hr2),F,by simp only [List.length_cons];omega,fun _=>⟨rfl,by rw [hR,hmore,hit,hit2];dsimp only;rw [if_pos (by simp;omega)];rfl⟩,fun h=>(by cases h)⟩
       ·repeat' (first | refine jR ?_ | (refine jo ?_;first | refine jD F F F ?_ | refine jC F F F ?_ | refine aj F ?_ | refine aG F ?_ | refine jV (aw F) ?_ | (refine af F F F cx_wb F ?_;rintro _ _ rfl;dsimp only [zA,fA]) | (refine af F F F cx_tm F ?_;rintro _ _ ⟨rfl,rfl⟩;dsimp only [zA,fA])) | (refine ac F (by first | rfl | (refine decide_eq_true ?_;(omega))) ?_))
        refine Nx.sealS (v:=.slice (some ⟨y1,0,none⟩) (vs.length + 1) yc) fun G2 hG2 hsl=>?_
        refine aZ (vs:=[_]) F ⟨aE F F F F,trivial⟩ F sB ⟨hgl.trans hG2,.nd 91 [] 0 (vs ++ [u1]),⟨91,[],0,some ⟨y1,0,none⟩,vs.length + 1,yc⟩,t2,true,F,cM dC dC (fun h=>absurd h dC) hvl.symm (by rw [List.length_append,List.length_singleton,hcl];exact hsl) (bU hG2 hr2),F,by simp only [List.length_cons];omega,fun h=>(by cases h),fun _=>⟨.inr (by rw [hR,hmore,hit,hit2];dsimp only;rw [if_neg (by simp;omega)];rfl),by rw [cX,htu];simp only [List.length_cons,List.length_nil];omega⟩⟩
      | false =>
       rw [ht4,fO ht4,Bool.not_false] at cx_wb
       have hit2 : a8 (rd (ak qs) n k) m t vs = none:=by
        cases t1 with
        | nil=>exact ii (.inr ⟨u1,hfs⟩)
        | cons d t2 =>
         rw [ig hfs oM,if_neg,if_neg]
         ·intro h93
          have : cH [93] (d :: t2) false = true:=eM.2 ⟨t2,by rw [show d = 93 from UInt8.toNat_inj.1 h93]⟩
          rw [this] at ht4;cases ht4
         ·intro h44
          have : cH [44] (d :: t2) false = true:=eM.2 ⟨t2,by rw [show d = 44 from UInt8.toNat_inj.1 h44]⟩
          rw [this] at ht3;cases ht3
       repeat' (first | refine jR ?_ | (refine jo ?_;first | refine jD F F F ?_ | refine jC F F F ?_ | refine aj F ?_ | refine aG F ?_ | refine jV (aw F) ?_ | (refine af F F F cx_wb F ?_;rintro _ _ rfl;dsimp only [zA,fA]) | (refine af F F F cx_tm F ?_;rintro _ _ ⟨rfl,rfl⟩;dsimp only [zA,fA])) | refine ac F F ?_ | refine cT F (fun _=>?_) (fun _=>?_))
       all_goals (refine Nx.sealS (v:=.slice (some ⟨y1,0,none⟩) (vs.length + 1) yc) fun G2 hG2 hsl=>?_)
       all_goals refine aZ (vs:=[_]) F ⟨aE F F F F,trivial⟩ F sB ⟨hgl.trans hG2,.nd 91 [] 0 (vs ++ [u1]),⟨91,[],0,some ⟨y1,0,none⟩,vs.length + 1,yc⟩,t1,true,F,cM dC dC (fun h=>absurd h dC) hvl.symm (by rw [List.length_append,List.length_singleton,hcl];exact hsl) (bU hG2 hr2),F,by simp only [List.length_cons];omega,fun h=>(by cases h),fun _=>⟨.inr (by rw [hR,hmore,hit,hit2];rfl),by rw [cX,htu];simp only [List.length_cons,List.length_nil];omega⟩⟩
def zVC : VC:=⟨0,[],0,none,0,0⟩
def z7 (t : Ty) (bf of : Nat) (f : abL → abL → Option (V × abL)) (r sc : Nat) (s : abL) (b : Bool) (v : Value) (G' : Gh) (L' : List Own) : Prop :=
  ∃ s' b',L' = [dG r sc s' b'] ∧ s'.length ≤ s.length ∧
    ((v = Tu [Ag (b6 zVC),.pointer none] ∧ b' = true ∧ (b = true ∨ aO f t s = none)) ∨
     (∃ j u c,j < t.fields.length ∧ v = Tu [Ag (b6 c),Pt bf (of + j * 6)] ∧ V.rep G' (.nd 61 [] (ae t.fields j).tag [u]) c ∧ b = false ∧ u.tot + 100 * s'.length + 100 ≤ 100 * s.length ∧
       (b' = false → aO f t s = some ((ae t.fields j,u),s')) ∧ (b' = true → aO f t s = none)))
abbrev zP : Value:=Ag [U8 0,S [],I 0,aK]
theorem eI {f : abL → abL → Option (V × abL)} {t : Ty} {s : abL} (h : aM (s.takeWhile aU) 200 = none ∨ ∃ m,aM (s.takeWhile aU) 200 = some m ∧ bJ t.fields m = none) : aO f t s = none:=by
 unfold aO b9
 rcases h with h | ⟨m,h,h2⟩
 ·rw [h];rfl
 ·rw [h];dsimp only [Option.map_some];rw [h2]
theorem gk {f : abL → abL → Option (V × abL)} {t : Ty} {s : abL} {m : Int} (h : aM (s.takeWhile aU) 200 = some m) (h2 : ∀ s2,s.dropWhile aU ≠ 61 :: s2) : aO f t s = none:=by
 unfold aO b9
 rw [h];dsimp only [Option.map_some]
 cases bJ t.fields m with
 | none=>rfl
 | some d =>
  dsimp only
  cases hd : s.dropWhile aU with
  | nil=>rfl
  | cons c r =>
   dsimp only
   rw [if_neg]
   intro hc
   exact h2 r (by rw [hd,show c = 61 from UInt8.toNat_inj.1 hc])
theorem kQ {f : abL → abL → Option (V × abL)} {t : Ty} {s s2 : abL} {m : Int} {d : Fld} (h : aM (s.takeWhile aU) 200 = some m) (hd : bJ t.fields m = some d) (h2 : s.dropWhile aU = 61 :: s2) : aO f t s = (f d.kind s2).map fun x=>((d,x.1),x.2):=by
 unfold aO b9
 rw [h];dsimp only [Option.map_some];rw [hd,h2];dsimp only;rw [if_pos (show (61 : UInt8).toNat = 61 from rfl)]
theorem nD {n r sc bt bf of cf : Nat} {qs : List cx} {t : Ty} {ln s : abL} {b : Bool} {fv : Value} (hV : mc n sc qs) (hS : ScI G sc qs) (hw : TyW t) (hkf : ∀ d ∈ t.fields,aP (ak qs) d.kind = true)
  (h1 : bW G bt 0 [U8 t.sort,S t.name,fv,S ln]) (h2 : bh G fv 6 t.fields.length (aA iM t.fields)) (hfv : t.fields ≠ [] → fv = .slice (some ⟨bf,of,none⟩) t.fields.length cf ∧ bW G bf of (aA iM t.fields)) (hs : s.length ≤ n ∧ s.length ≤ 1000) :
  dh abK 185 [Pt r 0,Pt bt 0] G [dG r sc s b] (z7 t bf of (rd (ak qs) n) r sc s b):=by
 have hwl:=dA aU s
 have hfl:=hw.len
 have cx_nu:=k6 (G:=G) (r:=r) (sc:=sc) (s:=s) (b:=b) (top:=200) oM
 have cx_wa:=df (G:=G) (r:=r) (sc:=sc) (s:=s.dropWhile aU) (l:=[61]) (b:=(b || (aM (s.takeWhile aU) 200).isNone)) ⟨oM,by simp⟩
 have htl:=iB (l:=[61]) (s:=s.dropWhile aU) (b:=(b || (aM (s.takeWhile aU) 200).isNone))
 have hleft : ∀ (s' : abL),s'.length ≤ s.length → (b = true ∨ aO (rd (ak qs) n) t s = none) → ∀ G',z7 t bf of (rd (ak qs) n) r sc s b (Tu [Ag (b6 zVC),.pointer none]) G' [dG r sc s' true]:=fun s' h3 h4 G'=>⟨s',true,rfl,h3,.inl ⟨rfl,rfl,h4⟩⟩
 refine cr [(0,_),(1,_)] Tryz.func185 kR Tryz.ntmps185 F F tU fun B hB hW=>?_
 repeat' (first | refine jR ?_ | (refine jo ?_;first | refine jL fun _=>?_ | (refine af F F F cx_nu F ?_;rintro _ _ ⟨n1,rfl,⟨hn0,hn1⟩,hnum,rfl⟩;dsimp only [zA,fA])))
 rename_i x4
 cases hft : bJ t.fields n1 with
 | none =>
  have hno : aO (rd (ak qs) n) t s = none:=by
   cases hm : aM (s.takeWhile aU) 200 with
   | none=>exact eI (.inl hm)
   | some m=>exact eI (.inr ⟨m,hm,by rw [← hnum m hm];exact hft⟩)
  have cx_fld:=dQ h1 h2 oM hft
  repeat' (first | refine jR ?_ | (refine jo ?_;first | refine jV (cp F F) ?_ | refine aL F ?_ | refine jD F F F ?_ | refine jC F F F ?_ | refine jV (ao F F) ?_ | refine ab F F F cx_fld F ?_ | (refine af F F F cx_wa F ?_;rintro _ _ rfl;dsimp only [zA,fA])) | refine aD F F F ?_ | refine ac F F ?_)
  refine aZ (vs:=[_,_]) F ⟨aE F F F F,F,trivial⟩ F sB ⟨Gh.le.refl _,hleft _ oM (.inr hno) _⟩
 | some d =>
  obtain ⟨j,hj,hjn,hjt,hjd⟩:=d6 hft
  subst hjd
  obtain ⟨rfl,hsf⟩:=hfv (fun h=>by rw [h] at hj;simp at hj)
  have cx_fld:=eF h1 hsf oM hj hjn hjt
  cases ht : cH [61] (s.dropWhile aU) (b || (aM (s.takeWhile aU) 200).isNone) with
  | false =>
   rw [ht,Bool.not_false] at cx_wa
   have hno : b = true ∨ aO (rd (ak qs) n) t s = none:=by
    cases b with
    | true=>exact .inl F
    | false =>
     right
     cases hm : aM (s.takeWhile aU) 200 with
     | none=>exact eI (.inl hm)
     | some m =>
      refine gk hm (fun s2 h=>?_)
      rw [hm,h] at ht
      have : cH [61] (61 :: s2) false = true:=eM.2 ⟨s2,rfl⟩
      rw [show (false || (some m).isNone) = false from rfl,this] at ht;cases ht
   repeat' (first | refine jR ?_ | (refine jo ?_;first | refine jV (cp F F) ?_ | refine aj F ?_ | refine av F ?_ | refine jD F F F ?_ | refine jC F F F ?_ | refine jV (ao F F) ?_ | refine ab F F F cx_fld F ?_ | (refine af F F F cx_wa F ?_;rintro _ _ rfl;dsimp only [zA,fA])) | refine al F F F ?_ | refine ac F F ?_)
   refine aZ (vs:=[_,_]) F ⟨aE F F F F,F,trivial⟩ F sB ⟨Gh.le.refl _,hleft _ oM hno _⟩
  | true =>
   have hb0 : (b || (aM (s.takeWhile aU) 200).isNone) = false:=by
    cases hb : (b || (aM (s.takeWhile aU) 200).isNone) with
    | false=>rfl
    | true=>rw [hb,fV] at ht;cases ht
   rw [hb0] at ht cx_wa htl
   rw [hb0]
   simp only [Bool.or_eq_false_iff] at hb0
   obtain ⟨hb,hnn⟩:=hb0
   obtain ⟨m,hm⟩ : ∃ m,aM (s.takeWhile aU) 200 = some m:=by
    cases hm : aM (s.takeWhile aU) 200 with
    | none=>rw [hm] at hnn;cases hnn
    | some m=>exact ⟨m,F⟩
   obtain ⟨s2,hs2⟩:=eM.1 ht
   rw [ht,hs2,fD,Bool.not_true] at cx_wa
   have hdig : 1 ≤ (s.takeWhile aU).length:=by
    have h3:=(dW hm).2.1
    rw [h3];exact iN m
   rw [hs2,List.length_cons] at hwl
   have hfd : ∀ x,aO (rd (ak qs) n) t s = some x ↔ (rd (ak qs) n (ae t.fields j).kind s2).map (fun x=>((ae t.fields j,x.1),x.2)) = some x:=fun x=>by
    rw [kQ hm (d:=ae t.fields j) (by rw [← hnum m hm,hft]) hs2]
   have hkd:=hkf (ae t.fields j) (bT hj)
   have cx_vl:=hV G r (ae t.fields j).kind s2 false hS hkd oM oM
   rw [hs2]
   repeat' (first | refine jR ?_ | (refine jo ?_;first | refine jL fun _=>?_ | refine jV (cp F F) ?_ | refine aj F ?_ | (refine jV (gT F F aS ?_ F F) ?_;focus omega) | refine av F ?_ | refine jC F F F ?_ | refine ab F F F cx_fld F ?_ | (refine af F F F cx_wa F ?_;rintro _ _ rfl;dsimp only [zA,fA]) | (refine dI F F F cx_vl F ?_;rintro _ G1 _ hle ⟨u1,c1,t1,b1,rfl,hrep,rfl,hP⟩;dsimp only [zA,fA];skip)) | refine al F F F ?_ | refine ad F F ?_)
   have hsf1:=hsf.mono hle
   have htag:=(hw.fld _ (bT hj)).tag
   repeat' (first | refine jR ?_ | (refine ai (dL (id:=7) (tt:=4) F ah ?_);refine jW 6 [0,1,2,7] (aa 10 135) ?_;((refine jG (aa 10 143) 3 F (bN F F aS ?_ F F) ?_;focus omega));(refine jG (aa 10 159) 4 F (bq F F F F) ?_);refine jA 5 F ?_;(refine jF fun _=>?_);refine jK (aa 10 191) ?_;(refine jG (aa 10 255) 6 F (ao F F) ?_);refine jA 8 F ?_;(refine jC F F F ?_);refine jK (aa 10 511) ?_;refine jW 0 [9] (aa 10 1023) ?_;refine jQ ?_))
   rename_i y
   refine Nx.sealC (b:=y) fun G2 hG2 hsy=>?_
   have hsl : bh G2 (.slice (some ⟨y,0,none⟩) 1 1) 4 ([c1] : List VC).length (aA b6 [c1]):=⟨rfl,.inr ⟨y,0,1,rfl,Nat.le_refl _,hsy⟩⟩
   have hrp : V.rep G2 (.nd 61 [] (ae t.fields j).tag [u1]) ⟨61,[],(ae t.fields j).tag,some ⟨y,0,none⟩,1,1⟩:=cM dC oM (fun _=>rfl) rfl hsl ⟨c1,[],rfl,fP hG2 hrep,rfl⟩
   obtain ⟨hPl,hP0,hP1⟩:=hP
   have hf2:=fun x=>hfd x
   cases b1 with
   | false =>
    obtain ⟨_,hgood⟩:=hP0 rfl
    have htot:=iG n _ _ _ hgood
    dsimp only at htot
    refine aZ (vs:=[_,_]) F ⟨aE F F F F,F,trivial⟩ F sB ⟨hle.trans hG2,t1,false,F,oM,.inr ⟨j,u1,⟨61,[],(ae t.fields j).tag,some ⟨y,0,none⟩,1,1⟩,hj,F,hrp,hb,oM,fun _=>(hfd _).2 (by rw [hgood];rfl),fun h=>(by cases h)⟩⟩
   | true =>
    obtain ⟨hbad,hto⟩:=hP1 rfl
    have hbad2 : rd (ak qs) n (ae t.fields j).kind s2 = none:=by
     rcases hbad with h | h
     ·cases h
     ·exact h
    have hno : aO (rd (ak qs) n) t s = none:=by
     cases hx : aO (rd (ak qs) n) t s with
     | none=>rfl
     | some x=>have:=(hfd x).1 hx;rw [hbad2] at this;cases this
    refine aZ (vs:=[_,_]) F ⟨aE F F F F,F,trivial⟩ F sB ⟨hle.trans hG2,t1,true,F,oM,.inr ⟨j,u1,⟨61,[],(ae t.fields j).tag,some ⟨y,0,none⟩,1,1⟩,hj,F,hrp,hb,oM,fun h=>(by cases h),fun _=>hno⟩⟩
theorem hZ {c : UInt8} {s : abL} (h : cH [c] s false = false) : ∀ s2,s ≠ c :: s2:=fun s2 e=>by
 have : cH [c] s false = true:=eM.2 ⟨s2,e⟩
 rw [this] at h;cases h
theorem m5 {ts : List Ty} {f : abL → abL → Option (V × abL)} {t : Ty} {s : abL} {c : UInt8} (hc : t.sort = 82 ∧ c = 123 ∨ t.sort = 69 ∧ c = 35 ∨ (t.sort ≠ 82 ∧ t.sort ≠ 69) ∧ c = 60) (h : ∀ s2,s ≠ c :: s2) : aY ts f t s = none:=by
 cases s with
 | nil=>rfl
 | cons d r =>
  have hd : d ≠ c:=fun e=>h r (by rw [e])
  unfold aY
  dsimp only
  have hn : ∀ k : Nat,k < 256 → c = UInt8.ofNat k → ¬ d.toNat = k:=fun k hk e h2=>hd (by rw [e,bo h2 hk])
  rcases hc with ⟨h1,h2⟩ | ⟨h1,h2⟩ | ⟨⟨h1,h1'⟩,h2⟩
  ·rw [if_pos h1,if_neg (hn 123 dC h2)]
  ·rw [if_neg oM,if_pos h1,if_neg (hn 35 dC h2)]
  ·rw [if_neg h1,if_neg h1',if_neg (hn 60 dC h2)]
theorem aaT {n r sc bt : Nat} {qs : List cx} {t : Ty} {s : abL} {b : Bool} (hT : gY G bt t) (hw : TyW t) (hso : t.sort = 69) (hs : s.length ≤ n ∧ s.length ≤ 1000) :
  dh abK 167 [Pt r 0,Pt bt 0] G [dG r sc s b] (gI (aY (ak qs) (rd (ak qs) n) t) r sc s b):=by
 obtain ⟨fv,ln,h1,h2⟩:=hT
 have hfl:=hw.len
 have hso' : (t.sort : Int) = 69:=oM
 have cx_wa:=df (G:=G) (r:=r) (sc:=sc) (s:=s) (l:=[35]) (b:=b) ⟨oM,by simp⟩
 cases ht : cH [35] s b with
 | false =>
  rw [ht,fO ht,Bool.not_false] at cx_wa
  have hno : b = true ∨ aY (ak qs) (rd (ak qs) n) t s = none:=by
   cases b with
   | true=>exact .inl F
   | false=>exact .inr (m5 (.inr (.inl ⟨hso,F⟩)) (hZ ht))
  have cx_nu:=k6 (G:=G) (r:=r) (sc:=sc) (s:=s) (b:=true) (top:=200) oM
  rw [Bool.true_or] at cx_nu
  have hwl:=dA aU s
  refine cr [(0,_),(1,_)] Tryz.func167 kR Tryz.ntmps167 F F tU fun B hB hW=>?_
  repeat' (first | refine jR ?_ | (refine jo ?_;first | refine jL fun _=>?_ | refine aj F ?_ | refine jV (aI F F aS F F) ?_ | refine jV (ao F F) ?_ | refine jD F F F ?_ | refine jC F F F ?_ | (refine af F F F cx_wa F ?_;rintro _ _ rfl;dsimp only [zA,fA]) | (refine af F F F cx_nu F ?_;rintro _ _ ⟨n1,rfl,⟨hn0,hn1⟩,hnum,rfl⟩;dsimp only [zA,fA])) | refine ac F (ay ‹_›) ?_)
  cases hft : bJ t.fields n1 with
  | none =>
   have cx_fld:=dQ h1 h2 oM hft
   repeat' (first | refine jR ?_ | (refine jo ?_;first | refine aG F ?_ | refine jD F F F ?_ | refine jC F F F ?_ | refine jV (cp F F) ?_ | refine ab F F F cx_fld F ?_) | refine ac F F ?_)
   refine aZ (vs:=[_]) F ⟨aE F F F F,trivial⟩ F sB ⟨Gh.le.refl _,.nd 69 [] n1 [],⟨69,[],n1,none,0,0⟩,s.dropWhile aU,true,by rw [hso];rfl,bj dC ⟨hn0,hn1⟩,rfl,oM,fun h=>(by cases h),fun _=>⟨hno,by simp only [V.tot,V.tots,List.length_nil];omega⟩⟩
  | some d =>
   obtain ⟨j,hj,hjn,hjt,hjd⟩:=d6 hft
   obtain ⟨bf,of,cf,rfl,hsf⟩:=h2.expl oM
   have cx_fld:=eF h1 hsf oM hj hjn hjt
   repeat' (first | refine jR ?_ | (refine jo ?_;first | refine aG F ?_ | refine jC F F F ?_ | refine jV (cp F F) ?_ | refine ab F F F cx_fld F ?_) | refine ad F F ?_)
   refine aZ (vs:=[_]) F ⟨aE F F F F,trivial⟩ F sB ⟨Gh.le.refl _,.nd 69 [] n1 [],⟨69,[],n1,none,0,0⟩,s.dropWhile aU,true,by rw [hso];rfl,bj dC ⟨hn0,hn1⟩,rfl,oM,fun h=>(by cases h),fun _=>⟨hno,by simp only [V.tot,V.tots,List.length_nil];omega⟩⟩
 | true =>
  have hb : b = false:=by cases b with | true=>rw [fV] at ht;cases ht | false=>rfl
  subst hb
  obtain ⟨s1,rfl⟩:=eM.1 ht
  rw [ht,fD,Bool.not_true] at cx_wa
  simp only [List.length_cons] at hs
  have cx_nu:=k6 (G:=G) (r:=r) (sc:=sc) (s:=s1) (b:=false) (top:=200) oM
  rw [Bool.false_or] at cx_nu
  have hwl:=dA aU s1
  have hRT : aY (ak qs) (rd (ak qs) n) t (35 :: s1) = match b9 200 s1 with
    | none=>none
    | some (n,r)=>if (bJ t.fields n).isSome = true then some (.nd 69 [] n [],r) else none:=by
   unfold aY
   dsimp only
   rw [if_neg oM,if_pos hso,if_pos (show (35 : UInt8).toNat = 35 from rfl)]
   cases b9 200 s1 <;> rfl
  cases hnu : aM (s1.takeWhile aU) 200 with
  | none =>
   have hno : aY (ak qs) (rd (ak qs) n) t (35 :: s1) = none:=by rw [hRT];unfold b9;rw [hnu];rfl
   rw [hnu] at cx_nu
   refine cr [(0,_),(1,_)] Tryz.func167 kR Tryz.ntmps167 F F tU fun B hB hW=>?_
   repeat' (first | refine jR ?_ | (refine jo ?_;first | refine jL fun _=>?_ | refine aj F ?_ | refine jV (aI F F aS F F) ?_ | refine jV (ao F F) ?_ | refine jD F F F ?_ | refine jC F F F ?_ | (refine af F F F cx_wa F ?_;rintro _ _ rfl;dsimp only [zA,fA]) | (refine af F F F cx_nu F ?_;rintro _ _ ⟨n1,rfl,⟨hn0,hn1⟩,hnum,rfl⟩;dsimp only [zA,fA])) | refine ac F (ay ‹_›) ?_)
   cases hft : bJ t.fields n1 with
   | none =>
    have cx_fld:=dQ h1 h2 oM hft
    repeat' (first | refine jR ?_ | (refine jo ?_;first | refine aG F ?_ | refine jD F F F ?_ | refine jC F F F ?_ | refine jV (cp F F) ?_ | refine ab F F F cx_fld F ?_) | refine ac F F ?_)
    refine aZ (vs:=[_]) F ⟨aE F F F F,trivial⟩ F sB ⟨Gh.le.refl _,.nd 69 [] n1 [],⟨69,[],n1,none,0,0⟩,s1.dropWhile aU,true,by rw [hso];rfl,bj dC ⟨hn0,hn1⟩,rfl,by simp only [List.length_cons];omega,fun h=>(by cases h),fun _=>⟨.inr hno,by simp only [V.tot,V.tots,List.length_nil,List.length_cons];omega⟩⟩
   | some d =>
    obtain ⟨j,hj,hjn,hjt,hjd⟩:=d6 hft
    obtain ⟨bf,of,cf,rfl,hsf⟩:=h2.expl oM
    have cx_fld:=eF h1 hsf oM hj hjn hjt
    repeat' (first | refine jR ?_ | (refine jo ?_;first | refine aG F ?_ | refine jC F F F ?_ | refine jV (cp F F) ?_ | refine ab F F F cx_fld F ?_) | refine ad F F ?_)
    refine aZ (vs:=[_]) F ⟨aE F F F F,trivial⟩ F sB ⟨Gh.le.refl _,.nd 69 [] n1 [],⟨69,[],n1,none,0,0⟩,s1.dropWhile aU,true,by rw [hso];rfl,bj dC ⟨hn0,hn1⟩,rfl,by simp only [List.length_cons];omega,fun h=>(by cases h),fun _=>⟨.inr hno,by simp only [V.tot,V.tots,List.length_nil,List.length_cons];omega⟩⟩
  | some m =>
   rw [hnu] at cx_nu
   have hRT2 : aY (ak qs) (rd (ak qs) n) t (35 :: s1) = if (bJ t.fields m).isSome = true then some (.nd 69 [] m [],s1.dropWhile aU) else none:=by rw [hRT];unfold b9;rw [hnu];rfl
   refine cr [(0,_),(1,_)] Tryz.func167 kR Tryz.ntmps167 F F tU fun B hB hW=>?_
   repeat' (first | refine jR ?_ | (refine jo ?_;first | refine jL fun _=>?_ | refine aj F ?_ | refine jV (aI F F aS F F) ?_ | refine jV (ao F F) ?_ | refine jD F F F ?_ | refine jC F F F ?_ | (refine af F F F cx_wa F ?_;rintro _ _ rfl;dsimp only [zA,fA]) | (refine af F F F cx_nu F ?_;rintro _ _ ⟨n1,rfl,⟨hn0,hn1⟩,hnum,rfl⟩;dsimp only [zA,fA])) | refine ac F (ay ‹_›) ?_)
   obtain rfl : n1 = m:=hnum m rfl
   cases hft : bJ t.fields n1 with
   | none =>
    rw [hft] at hRT2
    have cx_fld:=dQ h1 h2 oM hft
    repeat' (first | refine jR ?_ | (refine jo ?_;first | refine aG F ?_ | refine jD F F F ?_ | refine jC F F F ?_ | refine jV (cp F F) ?_ | refine ab F F F cx_fld F ?_) | refine ac F F ?_)
    refine aZ (vs:=[_]) F ⟨aE F F F F,trivial⟩ F sB ⟨Gh.le.refl _,.nd 69 [] n1 [],⟨69,[],n1,none,0,0⟩,s1.dropWhile aU,true,by rw [hso];rfl,bj dC ⟨hn0,hn1⟩,rfl,by simp only [List.length_cons];omega,fun h=>(by cases h),fun _=>⟨.inr hRT2,by simp only [V.tot,V.tots,List.length_nil,List.length_cons];omega⟩⟩
   | some d =>
    rw [hft] at hRT2
    obtain ⟨j,hj,hjn,hjt,hjd⟩:=d6 hft
    obtain ⟨bf,of,cf,rfl,hsf⟩:=h2.expl oM
    have cx_fld:=eF h1 hsf oM hj hjn hjt
    repeat' (first | refine jR ?_ | (refine jo ?_;first | refine aG F ?_ | refine jC F F F ?_ | refine jV (cp F F) ?_ | refine ab F F F cx_fld F ?_) | refine ad F F ?_)
    refine aZ (vs:=[_]) F ⟨aE F F F F,trivial⟩ F sB ⟨Gh.le.refl _,.nd 69 [] n1 [],⟨69,[],n1,none,0,0⟩,s1.dropWhile aU,false,by rw [hso];rfl,bj dC ⟨hn0,hn1⟩,rfl,by simp only [List.length_cons];omega,fun _=>⟨rfl,hRT2⟩,fun h=>(by cases h)⟩
theorem sh {G : Gh} {t : Int} {u : V} {c : VC} (h : V.rep G (.nd 61 [] t [u]) c) : ∃ (b o k : Nat) (d : VC),c = ⟨61,[],t,some ⟨b,o,none⟩,1,k⟩ ∧ (0 ≤ t ∧ t ≤ 999999) ∧ bW G b o (aA b6 [d]) ∧ V.rep G u d ∧ V.rep G (.nd 85 [] t [u]) ⟨85,[],t,some ⟨b,o,none⟩,1,k⟩:=by
 obtain ⟨a,k,cs,rfl,_,ht,_,hcl,hsl,hks⟩:=mj h
 rw [V.reps] at hks
 obtain ⟨d,cs',rfl,hd,hcs⟩:=hks
 rw [V.reps] at hcs
 subst hcs
 obtain ⟨b,o,cap,e,hs⟩:=hsl.expl (by simp)
 simp only [Value.slice.injEq] at e
 obtain ⟨rfl,-,rfl⟩:=e
 exact ⟨b,o,k,d,F,ht,hs,hd,cM dC ht (fun h=>absurd h dC) F hsl ⟨d,[],F,hd,F⟩⟩
theorem aaR {n r sc bt : Nat} {qs : List cx} {t : Ty} {s : abL} {b : Bool} (hV : mc n sc qs) (hS : ScI G sc qs) (hkf : ∀ d ∈ t.fields,aP (ak qs) d.kind = true) (hT : gY G bt t) (hw : TyW t) (hso : t.sort = 85) (hs : s.length ≤ n ∧ s.length ≤ 1000) :
  dh abK 167 [Pt r 0,Pt bt 0] G [dG r sc s b] (gI (aY (ak qs) (rd (ak qs) n) t) r sc s b):=by
 obtain ⟨fv,ln,h1,h2⟩:=hT
 have hfl:=hw.len
 have hso' : (t.sort : Int) = 85:=oM
 have hne : 0 < t.fields.length:=List.length_pos_iff.2 (hw.ne oM)
 obtain ⟨bf,of,cf,rfl,hsf⟩:=h2.expl hne
 have cx_wa:=df (G:=G) (r:=r) (sc:=sc) (s:=s) (l:=[60]) (b:=b) ⟨oM,by simp⟩
 cases ht : cH [60] s b with
 | false =>
  rw [ht,fO ht,Bool.not_false] at cx_wa
  have hno : b = true ∨ aY (ak qs) (rd (ak qs) n) t s = none:=by
   cases b with
   | true=>exact .inl F
   | false=>exact .inr (m5 (.inr (.inr ⟨oM,F⟩)) (hZ ht))
  have cx_fd:=nD (s:=s) (b:=true) (r:=r) hV hS hw hkf h1 h2 (fun _=>⟨rfl,hsf⟩) hs
  refine cr [(0,_),(1,_)] Tryz.func167 kR Tryz.ntmps167 F F tU fun B hB hW=>?_
  repeat' (first | refine jR ?_ | (refine jo ?_;first | refine jL fun _=>?_ | refine jV (aI F F aS F F) ?_ | refine jV (ao F F) ?_ | refine jC F F F ?_ | (refine af F F F cx_wa F ?_;rintro _ _ rfl;dsimp only [zA,fA]) | (refine dI F F F cx_fd F ?_;rintro _ G1 _ hle ⟨t1,b1,rfl,htl,⟨rfl,rfl,hF⟩ | ⟨j,u1,c1,hj,rfl,hrep,hb0,hto,hg,hbd⟩⟩ <;> (dsimp only [zA,fA];skip))) | refine ac F (ay ‹_›) ?_ | refine ad F (aC oM) ?_)
  ·have cx_wb:=df (G:=G1) (r:=r) (sc:=sc) (s:=t1) (l:=[62]) (b:=true) ⟨oM,by simp⟩
   rw [fV,gZ,Bool.not_false] at cx_wb
   repeat' (first | refine jR ?_ | (refine jo ?_;first | refine aG F ?_ | refine jC F F F ?_ | refine jV (gh F F) ?_ | (refine af F F F cx_wb F ?_;rintro _ _ rfl;dsimp only [zA,fA])) | refine ad F F ?_)
   refine aZ (vs:=[_]) F ⟨aE F F F F,trivial⟩ F sB ⟨hle,.nd 85 [] 0 [],⟨85,[],0,none,0,0⟩,t1,true,by rw [hso];rfl,bj dC dC,rfl,oM,fun h=>(by cases h),fun _=>⟨hno,by simp only [V.tot,V.tots,List.length_nil];omega⟩⟩
  ·cases hb0
 | true =>
  have hb : b = false:=by cases b with | true=>rw [fV] at ht;cases ht | false=>rfl
  subst hb
  obtain ⟨s1,rfl⟩:=eM.1 ht
  rw [ht,fD,Bool.not_true] at cx_wa
  simp only [List.length_cons] at hs
  have hRT : aY (ak qs) (rd (ak qs) n) t (60 :: s1) = match aO (rd (ak qs) n) t s1 with
    | none=>none
    | some ((d,v),r)=>match r with
     | []=>none
     | c' :: r'=>if c'.toNat = 62 then some (.nd 85 [] d.tag [v],r') else none:=by
   unfold aY
   dsimp only
   rw [if_neg oM,if_neg oM,if_pos (show (60 : UInt8).toNat = 60 from rfl)]
   cases aO (rd (ak qs) n) t s1 <;> rfl
  have cx_fd:=nD (s:=s1) (b:=false) (r:=r) hV hS hw hkf h1 h2 (fun _=>⟨rfl,hsf⟩) ⟨oM,oM⟩
  refine cr [(0,_),(1,_)] Tryz.func167 kR Tryz.ntmps167 F F tU fun B hB hW=>?_
  repeat' (first | refine jR ?_ | (refine jo ?_;first | refine jL fun _=>?_ | refine jV (aI F F aS F F) ?_ | refine jV (ao F F) ?_ | refine jC F F F ?_ | (refine af F F F cx_wa F ?_;rintro _ _ rfl;dsimp only [zA,fA]) | (refine dI F F F cx_fd F ?_;rintro _ G1 _ hle ⟨t1,b1,rfl,htl,⟨rfl,rfl,hF⟩ | ⟨j,u1,c1,hj,rfl,hrep,hb0,hto,hg,hbd⟩⟩ <;> (dsimp only [zA,fA];skip))) | refine ac F (ay ‹_›) ?_ | refine ad F (aC oM) ?_)
  ·have hno : aY (ak qs) (rd (ak qs) n) t (60 :: s1) = none:=by
    rcases hF with h | h
    ·cases h
    ·rw [hRT,h]
   have cx_wb:=df (G:=G1) (r:=r) (sc:=sc) (s:=t1) (l:=[62]) (b:=true) ⟨oM,by simp⟩
   rw [fV,gZ,Bool.not_false] at cx_wb
   repeat' (first | refine jR ?_ | (refine jo ?_;first | refine aG F ?_ | refine jC F F F ?_ | refine jV (gh F F) ?_ | (refine af F F F cx_wb F ?_;rintro _ _ rfl;dsimp only [zA,fA])) | refine ad F F ?_)
   refine aZ (vs:=[_]) F ⟨aE F F F F,trivial⟩ F sB ⟨hle,.nd 85 [] 0 [],⟨85,[],0,none,0,0⟩,t1,true,by rw [hso];rfl,bj dC dC,rfl,by simp only [List.length_cons];omega,fun h=>(by cases h),fun _=>⟨.inr hno,by simp only [V.tot,V.tots,List.length_nil,List.length_cons];omega⟩⟩
  ·obtain ⟨kb,ko,kc,d,rfl,htg,hsd,hrd,hru⟩:=sh hrep
   have hsf1:=hsf.mono hle
   cases b1 with
   | true =>
    have hno : aY (ak qs) (rd (ak qs) n) t (60 :: s1) = none:=by rw [hRT,hbd rfl]
    have cx_wb:=df (G:=G1) (r:=r) (sc:=sc) (s:=t1) (l:=[62]) (b:=true) ⟨oM,by simp⟩
    rw [fV,gZ,Bool.not_false] at cx_wb
    repeat' (first | refine jR ?_ | (refine jo ?_;first | refine jV (gh F F) ?_ | (refine af F F F cx_wb F ?_;rintro _ _ rfl;dsimp only [zA,fA])) | refine ac F F ?_)
    rename_i x4 x5 _ x6 _
    dsimp only [VC.sl]
    (refine ai (an (id:=25) [.blk x6 (.cells (List.toArray [U8 ((61 : Nat) : Int),S [],I (ae t.fields j).tag,.slice (some ⟨kb,ko,none⟩) 1 kc]) g5 (0,0))] (by intro y hy;simp only [List.mem_cons,List.not_mem_nil,or_false] at hy ⊢;simp [hy]) ah ?_);refine jW 6 [0,1,2,4] (aa 10 23) ?_;((refine jG (aa 10 31) 3 F (bN F F aS ?_ F F) ?_;focus omega));refine jW 4 [6] (aa 10 95) ?_;(refine jG (aa 10 127) 5 F (aq F F F) ?_);refine jA 7 F ?_;(refine jD F F F ?_);refine jK (aa 10 255) ?_;refine jW 1 [8] (aa 10 511) ?_;refine jA 9 F ?_;(refine jD F F F ?_);refine jK (aa 10 1023) ?_;refine jQ ?_)
    all_goals repeat' (first | refine jR ?_ | (refine jo ?_;first | refine aG F ?_ | refine jC F F F ?_))
    all_goals refine aZ (vs:=[_]) F ⟨aE F F F F,trivial⟩ F sB ⟨hle,.nd 85 [] (ae t.fields j).tag [u1],⟨85,[],(ae t.fields j).tag,some ⟨kb,ko,none⟩,1,kc⟩,t1,true,by rw [hso];rfl,hru,rfl,by simp only [List.length_cons] at *;omega,fun h=>(by cases h),fun _=>⟨.inr hno,by simp only [V.tot,V.tots,List.length_nil,List.length_cons] at *;omega⟩⟩
   | false =>
    have hgd:=hg rfl
    have cx_wb:=df (G:=G1) (r:=r) (sc:=sc) (s:=t1) (l:=[62]) (b:=false) ⟨oM,by simp⟩
    cases ht2 : cH [62] t1 false with
    | true =>
     obtain ⟨t2,rfl⟩:=eM.1 ht2
     rw [ht2,fD,Bool.not_true] at cx_wb
     have hgood : aY (ak qs) (rd (ak qs) n) t (60 :: s1) = some (.nd 85 [] (ae t.fields j).tag [u1],t2):=by
      rw [hRT,hgd];dsimp only;rw [if_pos (show (62 : UInt8).toNat = 62 from rfl)]
     repeat' (first | refine jR ?_ | (refine jo ?_;first | refine jV (gh F F) ?_ | (refine af F F F cx_wb F ?_;rintro _ _ rfl;dsimp only [zA,fA])) | refine ac F F ?_)
     rename_i x4 x5 _ x6 _
     dsimp only [VC.sl]
     (refine ai (an (id:=25) [.blk x6 (.cells (List.toArray [U8 ((61 : Nat) : Int),S [],I (ae t.fields j).tag,.slice (some ⟨kb,ko,none⟩) 1 kc]) g5 (0,0))] (by intro y hy;simp only [List.mem_cons,List.not_mem_nil,or_false] at hy ⊢;simp [hy]) ah ?_);refine jW 6 [0,1,2,4] (aa 10 23) ?_;((refine jG (aa 10 31) 3 F (bN F F aS ?_ F F) ?_;focus omega));refine jW 4 [6] (aa 10 95) ?_;(refine jG (aa 10 127) 5 F (aq F F F) ?_);refine jA 7 F ?_;(refine jD F F F ?_);refine jK (aa 10 255) ?_;refine jW 1 [8] (aa 10 511) ?_;refine jA 9 F ?_;(refine jD F F F ?_);refine jK (aa 10 1023) ?_;refine jQ ?_)
     all_goals repeat' (first | refine jR ?_ | (refine jo ?_;first | refine aG F ?_ | refine jC F F F ?_))
     all_goals refine aZ (vs:=[_]) F ⟨aE F F F F,trivial⟩ F sB ⟨hle,.nd 85 [] (ae t.fields j).tag [u1],⟨85,[],(ae t.fields j).tag,some ⟨kb,ko,none⟩,1,kc⟩,t2,false,by rw [hso];rfl,hru,rfl,by simp only [List.length_cons] at *;omega,fun _=>⟨rfl,hgood⟩,fun h=>(by cases h)⟩
    | false =>
     rw [ht2,fO ht2,Bool.not_false] at cx_wb
     have hno : aY (ak qs) (rd (ak qs) n) t (60 :: s1) = none:=by
      rw [hRT,hgd]
      dsimp only
      cases t1 with
      | nil=>rfl
      | cons e t2 =>
       dsimp only
       rw [if_neg]
       intro h62
       exact hZ ht2 t2 (by rw [show e = 62 from UInt8.toNat_inj.1 h62])
     repeat' (first | refine jR ?_ | (refine jo ?_;first | refine jV (gh F F) ?_ | (refine af F F F cx_wb F ?_;rintro _ _ rfl;dsimp only [zA,fA])) | refine ac F F ?_)
     rename_i x4 x5 _ x6 _
     dsimp only [VC.sl]
     (refine ai (an (id:=25) [.blk x6 (.cells (List.toArray [U8 ((61 : Nat) : Int),S [],I (ae t.fields j).tag,.slice (some ⟨kb,ko,none⟩) 1 kc]) g5 (0,0))] (by intro y hy;simp only [List.mem_cons,List.not_mem_nil,or_false] at hy ⊢;simp [hy]) ah ?_);refine jW 6 [0,1,2,4] (aa 10 23) ?_;((refine jG (aa 10 31) 3 F (bN F F aS ?_ F F) ?_;focus omega));refine jW 4 [6] (aa 10 95) ?_;(refine jG (aa 10 127) 5 F (aq F F F) ?_);refine jA 7 F ?_;(refine jD F F F ?_);refine jK (aa 10 255) ?_;refine jW 1 [8] (aa 10 511) ?_;refine jA 9 F ?_;(refine jD F F F ?_);refine jK (aa 10 1023) ?_;refine jQ ?_)
     all_goals repeat' (first | refine jR ?_ | (refine jo ?_;first | refine aG F ?_ | refine jC F F F ?_))
     all_goals refine aZ (vs:=[_]) F ⟨aE F F F F,trivial⟩ F sB ⟨hle,.nd 85 [] (ae t.fields j).tag [u1],⟨85,[],(ae t.fields j).tag,some ⟨kb,ko,none⟩,1,kc⟩,t1,true,by rw [hso];rfl,hru,rfl,by simp only [List.length_cons] at *;omega,fun h=>(by cases h),fun _=>⟨.inr hno,by simp only [V.tot,V.tots,List.length_nil,List.length_cons] at *;omega⟩⟩
theorem dE {ts : List Ty} {f : abL → abL → Option (V × abL)} {t : Ty} {s : abL} {vs : List V} {last : Int} : ∀ {m : Nat},aO f t s = none → bC ts f t m last s vs = none
 | 0,_=>rfl
 | m + 1,h=>by rw [bC,h]
theorem jf {ts : List Ty} {f : abL → abL → Option (V × abL)} {t : Ty} {s r : abL} {vs : List V} {last : Int} {d : Fld} {v : V} {m : Nat} (h : aO f t s = some ((d,v),r)) (hm : 0 < m) :
  bC ts f t m last s vs = if d.tag ≤ last ∨ v.out = cL ts d then none else match r with
   | []=>none
   | c :: r'=>if c.toNat = 44 then bC ts f t (m - 1) d.tag r' (vs ++ [.nd 61 [] d.tag [v]]) else if c.toNat = 125 then some (vs ++ [.nd 61 [] d.tag [v]],r') else none:=by
 obtain ⟨m,rfl⟩ : ∃ k,m = k + 1:=⟨m - 1,oM⟩
 rw [bC,h];rfl
theorem jy {f : abL → abL → Option (V × abL)} {t : Ty} : aO f t [] = none:=by
 unfold aO b9
 have : aM (([] : abL).takeWhile aU) 200 = none:=by
  cases h : aM (([] : abL).takeWhile aU) 200 with
  | none=>rfl
  | some m =>
   have:=(dW h).2.1
   have h2:=iN m
   rw [← this] at h2;simp at h2
 rw [this];rfl
theorem aaS {n r sc bt : Nat} {qs : List cx} {t : Ty} {s : abL} {b : Bool} (hV : mc n sc qs) (hS : ScI G sc qs) (hW0 : SchW (ak qs)) (hkf : ∀ d ∈ t.fields,aP (ak qs) d.kind = true) (hT : gY G bt t) (hw : TyW t) (hso : t.sort = 82) (hs : s.length ≤ n ∧ s.length ≤ 1000) :
  dh abK 167 [Pt r 0,Pt bt 0] G [dG r sc s b] (gI (aY (ak qs) (rd (ak qs) n) t) r sc s b):=by
 obtain ⟨fv,ln,h1,h2⟩:=hT
 have hfl:=hw.len
 have hso' : (t.sort : Int) = 82:=oM
 have cx_wa:=df (G:=G) (r:=r) (sc:=sc) (s:=s) (l:=[123]) (b:=b) ⟨oM,by simp⟩
 have cx_tk:=gm (G:=G) (r:=r) (sc:=sc) (s:=dB [123] s b) (l:=[125]) (b:=!cH [123] s b) ⟨by have:=iB (l:=[123]) (s:=s) (b:=b);omega,by simp⟩
 cases ht : cH [123] s b with
 | false =>
  rw [ht,fO ht] at cx_wa cx_tk
  rw [Bool.not_false,fV,gZ] at cx_tk
  have cx_wb:=df (G:=G) (r:=r) (sc:=sc) (s:=s) (l:=[125]) (b:=true) ⟨oM,by simp⟩
  rw [fV,gZ] at cx_wb
  have hno : b = true ∨ aY (ak qs) (rd (ak qs) n) t s = none:=by
   cases b with
   | true=>exact .inl F
   | false=>exact .inr (m5 (.inl ⟨hso,F⟩) (hZ ht))
  refine cr [(0,_),(1,_)] Tryz.func167 kR Tryz.ntmps167 F F tU fun B hB hW=>?_
  repeat' (first | refine jR ?_ | (refine jo ?_;first | refine jL fun _=>?_ | refine jV (aI F F aS F F) ?_ | refine jV (ao F F) ?_ | refine jC F F F ?_ | (refine af F F F cx_wa F ?_;rintro _ _ rfl;dsimp only [zA,fA]) | (refine af F F F cx_tk F ?_;rintro _ _ ⟨rfl,rfl⟩;dsimp only [zA,fA])) | (refine ad F (by first | rfl | (refine decide_eq_false ?_;(omega))) ?_))
  rename_i x4 x5 _
  refine aR (ι:=Unit) (fun i=>True) (fun i=>[(0,Pt r 0),(1,Pt bt 0),(4,Pt x4 0),(5,Pt x5 0),(8,I 0)]) (fun _=>G) (fun i=>[dG r sc s true,pL x5 [U8 t.sort,S [],I 0,aK],pL x4 [U8 0,S [],I 0,aK]]) (fun i=>0) () ?_ tU F aX (fun i Hi=>?_)
  ·trivial
  repeat' (first | refine jR ?_ | (refine jo ?_;first | refine aj F ?_ | refine aG F ?_ | refine jC F F F ?_ | (refine af F F F cx_wb F ?_;rintro _ _ rfl;dsimp only [zA,fA])) | refine ad F F ?_)
  refine aZ (vs:=[_]) F ⟨aE F F F F,trivial⟩ F sB ⟨Gh.le.refl _,.nd 82 [] 0 [],⟨82,[],0,none,0,0⟩,s,true,by rw [hso];rfl,bj dC dC,rfl,Nat.le_refl _,fun h=>(by cases h),fun _=>⟨hno,by simp only [V.tot,V.tots,List.length_nil];omega⟩⟩
 | true =>
  have hb : b = false:=by cases b with | true=>rw [fV] at ht;cases ht | false=>rfl
  subst hb
  obtain ⟨s1,rfl⟩:=eM.1 ht
  rw [ht,fD] at cx_wa cx_tk
  rw [Bool.not_true] at cx_wa cx_tk
  simp only [List.length_cons] at hs
  cases ht2 : cH [125] s1 false with
  | true =>
   obtain ⟨s2,rfl⟩:=eM.1 ht2
   rw [ht2,fD] at cx_tk
   have hgood : aY (ak qs) (rd (ak qs) n) t (123 :: 125 :: s2) = some (.nd 82 [] 0 [],s2):=by
    unfold aY
    dsimp only
    rw [if_pos hso,if_pos (show (123 : UInt8).toNat = 123 from rfl),if_pos (show (125 : UInt8).toNat = 125 from rfl)]
   refine cr [(0,_),(1,_)] Tryz.func167 kR Tryz.ntmps167 F F tU fun B hB hW=>?_
   repeat' (first | refine jR ?_ | (refine jo ?_;first | refine jL fun _=>?_ | refine aG F ?_ | refine jV (aI F F aS F F) ?_ | refine jV (ao F F) ?_ | refine jC F F F ?_ | (refine af F F F cx_wa F ?_;rintro _ _ rfl;dsimp only [zA,fA]) | (refine af F F F cx_tk F ?_;rintro _ _ ⟨rfl,rfl⟩;dsimp only [zA,fA])) | refine ac F F ?_ | refine ad F (aC oM) ?_)
   refine aZ (vs:=[_]) F ⟨aE F F F F,trivial⟩ F sB ⟨Gh.le.refl _,.nd 82 [] 0 [],⟨82,[],0,none,0,0⟩,s2,false,by rw [hso];rfl,bj dC dC,rfl,by simp only [List.length_cons];omega,fun _=>⟨rfl,hgood⟩,fun h=>(by cases h)⟩
  | false =>
   rw [ht2,fO ht2] at cx_tk
   have hR : aY (ak qs) (rd (ak qs) n) t (123 :: s1) = (bC (ak qs) (rd (ak qs) n) t (s1.length + 1) 0 s1 []).map fun x=>(.nd 82 [] 0 x.1,x.2):=by
    unfold aY
    dsimp only
    rw [if_pos hso,if_pos (show (123 : UInt8).toNat = 123 from rfl)]
    cases s1 with
    | nil=>rw [dE jy];rfl
    | cons e r' =>
     dsimp only
     rw [if_neg]
     intro h93
     exact hZ ht2 r' (by rw [show e = 125 from UInt8.toNat_inj.1 h93])
   refine cr [(0,_),(1,_)] Tryz.func167 kR Tryz.ntmps167 F F tU fun B hB hW=>?_
   repeat' (first | refine jR ?_ | (refine jo ?_;first | refine jL fun _=>?_ | refine jV (aI F F aS F F) ?_ | refine jV (ao F F) ?_ | refine jC F F F ?_ | (refine af F F F cx_wa F ?_;rintro _ _ rfl;dsimp only [zA,fA]) | (refine af F F F cx_tk F ?_;rintro _ _ ⟨rfl,rfl⟩;dsimp only [zA,fA])) | (refine ad F (by first | rfl | (refine decide_eq_false ?_;(omega))) ?_))
   rename_i x4 x5 _
   refine Nx.addNil g5 4 (Nx.perm (List.Perm.swap _ _ _) ?_)
   refine aR (ι:=List V × List VC × Option Addr × Nat × abL × Nat × Int × Gh) (fun q=>(V.reps q.2.2.2.2.2.2.2 q.1 q.2.1 ∧ Gh.le G q.2.2.2.2.2.2.2) ∧ (bC (ak qs) (rd (ak qs) n) t (s1.length + 1) 0 s1 [] = bC (ak qs) (rd (ak qs) n) t q.2.2.2.2.2.1 q.2.2.2.2.2.2.1 q.2.2.2.2.1 q.1 ∧ q.2.2.2.2.1.length < q.2.2.2.2.2.1) ∧ (V.tots q.1 + 100 * q.2.2.2.2.1.length + 100 ≤ 100 * (s1.length + 1) ∧ q.2.2.2.2.1.length ≤ s1.length)) (fun q=>[(0,Pt r 0),(1,Pt bt 0),(4,Pt x4 0),(5,Pt x5 0),(8,I q.2.2.2.2.2.2.1)]) (fun q=>q.2.2.2.2.2.2.2) (fun q=>[dG r sc q.2.2.2.2.1 false,.acc (.slice q.2.2.1 q.1.length q.2.2.2.1) g5 4 q.1.length (aA b6 q.2.1),pL x5 [U8 t.sort,S [],I 0,.slice q.2.2.1 q.1.length q.2.2.2.1],pL x4 [U8 0,S [],I 0,aK]]) (fun q=>q.2.2.2.2.1.length) ([],[],none,0,s1,s1.length + 1,0,G) ?_ tU F aX (fun q Hq=>?_)
   ·exact ⟨⟨F,Gh.le.refl _⟩,⟨F,by dsimp only;omega⟩,by dsimp only;simp only [V.tots];omega,Nat.le_refl _⟩
   obtain ⟨vs,cs,a,cap,t',m,last,Gq⟩:=q
   dsimp only at Hq ⊢
   obtain ⟨⟨hreps,hgq⟩,⟨hit,htm⟩,hT,htl'⟩:=Hq
   have hcl:=gu hreps
   have hkl:=dT vs
   have hfv : t.fields ≠ [] → ∃ bf of cf,fv = .slice (some ⟨bf,of,none⟩) t.fields.length cf ∧ bW G bf of (aA iM t.fields):=fun h=>by
    obtain ⟨bf,of,cf,e,hs⟩:=h2.expl (List.length_pos_iff.2 h)
    exact ⟨bf,of,cf,e,hs⟩
   obtain ⟨bf,of,cf,hfv⟩ : ∃ bf of cf,t.fields ≠ [] → fv = .slice (some ⟨bf,of,none⟩) t.fields.length cf ∧ bW G bf of (aA iM t.fields):=by
    by_cases h : t.fields = []
    ·exact ⟨0,0,0,fun h'=>absurd h h'⟩
    ·obtain ⟨bf,of,cf,h⟩:=hfv h
     exact ⟨bf,of,cf,fun _=>h⟩
   have cx_fd:=nD (s:=t') (b:=false) (r:=r) hV (hS.mono hgq) hw hkf (h1.mono hgq) (h2.mono hgq) (fun h=>⟨(hfv h).1,(hfv h).2.mono hgq⟩) ⟨oM,oM⟩
   repeat' (first | refine jR ?_ | (refine jo ?_;first | refine jL fun _=>?_ | refine aj F ?_ | refine jD F F F ?_ | refine jC F F F ?_ | (refine dI F F F cx_fd F ?_;rintro _ G1 _ hle ⟨t1,b1,rfl,htl,⟨rfl,rfl,hF⟩ | ⟨j,u1,c1,hj,rfl,hrep,hb0,hto,hg,hbd⟩⟩ <;> (dsimp only [zA,fA];skip))) | refine ac F F ?_ | (refine ai (an (id:=9) _ (fun _ h=>h) ah ?_);refine jT 23 [0] (aa 24 1) ?_;(refine jG (aa 24 3) 1 F (cp F F) ?_);refine jT 21 [2] (aa 24 7) ?_;(try (first | refine Nx.re (d:=38) (v':=Bo true) F (congrArg Value.bool F) ?_ | refine Nx.re (d:=38) (v':=Bo false) F (congrArg Value.bool F) ?_));refine jT 17 [3,4,5,7] (aa 24 191) ?_;(refine jN (aa 24 255) 6 F ?_);refine jT 15 [8] (aa 24 511) ?_;(refine jG (aa 24 1023) 9 F (aT F F F) ?_);refine jT 13 [10] (aa 24 2047) ?_;(try (refine Nx.re (d:=46) (v':=Bo true) F (congrArg Value.bool F) ?_));refine jT 8 [11,16,17,18,20] (aa 24 1511423) ?_;(refine jN (aa 24 1515519) 12 F ?_);(refine jN (aa 24 1523711) 13 F ?_);(refine jN (aa 24 1540095) 14 F ?_);(refine jN (aa 24 2064383) 19 F ?_);(refine jN (aa 24 2097151) 15 F ?_);(refine jN (aa 24 4194303) 21 F ?_);refine jT 1 [22] (aa 24 8388607) ?_;(refine jG (aa 24 16777215) 23 F (aT F F F) ?_);refine jQ ?_))
   ·have hgl:=hgq.trans hle
    have hno : aO (rd (ak qs) n) t t' = none:=by
     rcases hF with h | h
     ·cases h
     ·exact h
    have hit2 : bC (ak qs) (rd (ak qs) n) t m last t' vs = none:=dE hno
    have cx_wb:=df (G:=G1) (r:=r) (sc:=sc) (s:=t1) (l:=[125]) (b:=true) ⟨oM,by simp⟩
    rw [fV,gZ,Bool.not_false] at cx_wb
    repeat' (first | refine jR ?_ | (refine jo ?_;first | refine aG F ?_ | refine jC F F F ?_ | (refine af F F F cx_wb F ?_;rintro _ _ rfl;dsimp only [zA,fA])))
    refine Nx.sealS (v:=.slice a vs.length cap) fun G2 hG2 hsl=>?_
    refine aZ (vs:=[_]) F ⟨aE F F F F,trivial⟩ F sB ⟨hgl.trans hG2,.nd 82 [] 0 vs,⟨82,[],0,a,vs.length,cap⟩,t1,true,by rw [hso];rfl,cM dC dC (fun h=>absurd h dC) rfl (by rw [hcl];exact hsl) (bU (hle.trans hG2) hreps),F,by simp only [List.length_cons];omega,fun h=>(by cases h),fun _=>⟨.inr (by rw [hR,hit,hit2];rfl),by rw [cX];simp only [List.length_cons,List.length_nil];omega⟩⟩
   ·have hgl:=hgq.trans hle
    obtain ⟨kb,ko,kc,d,rfl,htg,hsd,hrd,hru⟩:=sh hrep
    dsimp only [b6,VC.sl]
    have hsf1:=(hfv (fun h=>by rw [h] at hj;simp at hj)).2.mono hgl
    have hS1:=hS.mono hgl
    have cx_pr:=mv (G:=G1) u1.tot (Nat.le_refl _) oM hrd
    have hotl:=o4 hrd
    have cx_of:=wV hS1 hW0 hsf1 hj (hkf _ (bT hj))
    have cx_wb:=df (G:=G1) (r:=r) (sc:=sc) (s:=t1) (l:=[125]) (b:=true) ⟨oM,by simp⟩
    rw [fV,gZ,Bool.not_false] at cx_wb
    by_cases hbrk : (ae t.fields j).tag ≤ last ∨ u1.out = cL (ak qs) (ae t.fields j)
    ·have hit2 : bC (ak qs) (rd (ak qs) n) t m last t' vs = none:=by
      cases b1 with
      | true=>exact dE (hbd F)
      | false=>rw [jf (hg rfl) oM,if_pos hbrk]
     by_cases hlast : (ae t.fields j).tag ≤ last
     ·repeat' (first | refine jR ?_ | (refine jo ?_;first | refine aG F ?_ | refine jD F F F ?_ | refine jC F F F ?_ | (refine af F F F cx_wb F ?_;rintro _ _ rfl;dsimp only [zA,fA])) | refine ac F F ?_ | (refine ai (an (id:=9) _ (fun _ h=>h) ah ?_);refine jT 23 [0] (aa 24 1) ?_;(refine jG (aa 24 3) 1 F (cp F F) ?_);refine jT 21 [2] (aa 24 7) ?_;(try (refine Nx.re (d:=38) (v':=Bo false) F (congrArg Value.bool F) ?_));refine jT 17 [3,4,5,7] (aa 24 191) ?_;((refine jG (aa 24 255) 6 F (bN F F aS ?_ F F) ?_;focus omega));refine jT 15 [8] (aa 24 511) ?_;(refine jG (aa 24 1023) 9 F (aH F F F) ?_);refine jT 13 [10] (aa 24 2047) ?_;(try (refine Nx.re (d:=46) (v':=Bo true) F (congrArg Value.bool (ay ‹_›)) ?_));refine jT 8 [11,16,17,18,20] (aa 24 1511423) ?_;(refine jN (aa 24 1515519) 12 F ?_);(refine jN (aa 24 1523711) 13 F ?_);(refine jN (aa 24 1540095) 14 F ?_);(refine jN (aa 24 2064383) 19 F ?_);(refine jN (aa 24 2097151) 15 F ?_);(refine jN (aa 24 4194303) 21 F ?_);refine jT 1 [22] (aa 24 8388607) ?_;(refine jG (aa 24 16777215) 23 F (aT F F F) ?_);refine jQ ?_))
      refine Nx.sealS (v:=.slice a vs.length cap) fun G2 hG2 hsl=>?_
      refine aZ (vs:=[_]) F ⟨aE F F F F,trivial⟩ F sB ⟨hgl.trans hG2,.nd 82 [] 0 vs,⟨82,[],0,a,vs.length,cap⟩,t1,true,by rw [hso];rfl,cM dC dC (fun h=>absurd h dC) rfl (by rw [hcl];exact hsl) (bU (hle.trans hG2) hreps),F,by simp only [List.length_cons];omega,fun h=>(by cases h),fun _=>⟨.inr (by rw [hR,hit,hit2];rfl),by rw [cX];simp only [List.length_cons,List.length_nil];omega⟩⟩
     ·have heq : u1.out = cL (ak qs) (ae t.fields j):=by
       rcases hbrk with h | h
       ·exact absurd h hlast
       ·exact h
      repeat' (first | refine jR ?_ | (refine jo ?_;first | refine aG F ?_ | refine jD F F F ?_ | refine jC F F F ?_ | (refine af F F F cx_wb F ?_;rintro _ _ rfl;dsimp only [zA,fA])) | refine ac F (ay ‹_›) ?_ | (refine ai (an (id:=9) _ (fun _ h=>h) ah ?_);refine jT 23 [0] (aa 24 1) ?_;(refine jG (aa 24 3) 1 F (cp F F) ?_);refine jT 21 [2] (aa 24 7) ?_;(try (refine Nx.re (d:=38) (v':=Bo false) F (congrArg Value.bool F) ?_));refine jT 17 [3,4,5,7] (aa 24 191) ?_;((refine jG (aa 24 255) 6 F (bN F F aS ?_ F F) ?_;focus omega));refine jT 15 [8] (aa 24 511) ?_;(refine jG (aa 24 1023) 9 F (aH F F F) ?_);refine jT 13 [10] (aa 24 2047) ?_;(try (refine Nx.re (d:=46) (v':=Bo false) F (congrArg Value.bool (aC ‹_›)) ?_));refine jT 8 [11,16,17,18,20] (aa 24 1511423) ?_;(refine jG (aa 24 1515519) 12 F (aq F F F) ?_);(refine jG (aa 24 1523711) 13 F (a9 F F oM) ?_);((refine jG (aa 24 1540095) 14 F (cD F F aS ?_) ?_;(focus ((simp only [List.length_append,List.length_cons,List.length_nil,List.length_take];omega);done))));(refine jG (aa 24 2064383) 19 F (aq F F F) ?_);(refine jA 15 F ?_;(refine ab F F F cx_pr F ?_);refine jS (aa 24 2097151) ?_);(refine jA 21 F ?_;(refine ab F F F cx_of F ?_);refine jS (aa 24 4194303) ?_);refine jT 1 [22] (aa 24 8388607) ?_;(refine jG (aa 24 16777215) 23 F (aH F F F) ?_);refine jQ ?_))
      refine Nx.sealS (v:=.slice a vs.length cap) fun G2 hG2 hsl=>?_
      refine aZ (vs:=[_]) F ⟨aE F F F F,trivial⟩ F sB ⟨hgl.trans hG2,.nd 82 [] 0 vs,⟨82,[],0,a,vs.length,cap⟩,t1,true,by rw [hso];rfl,cM dC dC (fun h=>absurd h dC) rfl (by rw [hcl];exact hsl) (bU (hle.trans hG2) hreps),F,by simp only [List.length_cons];omega,fun h=>(by cases h),fun _=>⟨.inr (by rw [hR,hit,hit2];rfl),by rw [cX];simp only [List.length_cons,List.length_nil];omega⟩⟩
    ·have hlast : ¬ (ae t.fields j).tag ≤ last:=fun h=>hbrk (.inl h)
     have heq : ¬ u1.out = cL (ak qs) (ae t.fields j):=fun h=>hbrk (.inr h)
     have hrow : aA b6 cs ++ [U8 ((61 : Nat) : Int),S [],I (ae t.fields j).tag,.slice (some ⟨kb,ko,none⟩) 1 kc] = aA b6 (cs ++ [⟨61,[],(ae t.fields j).tag,some ⟨kb,ko,none⟩,1,kc⟩]):=(cy b6 cs (⟨61,[],(ae t.fields j).tag,some ⟨kb,ko,none⟩,1,kc⟩ : VC)).symm
     have hr2 : V.reps G1 (vs ++ [.nd 61 [] (ae t.fields j).tag [u1]]) (cs ++ [⟨61,[],(ae t.fields j).tag,some ⟨kb,ko,none⟩,1,kc⟩]):=gQ hrep (bU hle hreps)
     have hvl : (vs ++ [V.nd 61 [] (ae t.fields j).tag [u1]]).length = vs.length + 1:=by simp
     have htu : V.tots (vs ++ [V.nd 61 [] (ae t.fields j).tag [u1]]) = V.tots vs + (20 + u1.tot):=by simp [fN,V.tots,V.tot]
     cases b1 with
     | true =>
      have hit2 : bC (ak qs) (rd (ak qs) n) t m last t' vs = none:=dE (hbd rfl)
      have cx_tm:=gm (G:=G1) (r:=r) (sc:=sc) (s:=t1) (l:=[44]) (b:=true) ⟨oM,by simp⟩
      rw [fV,gZ] at cx_tm
      repeat' (first | refine jR ?_ | (refine jo ?_;first | refine aj F ?_ | (refine jV (bN F F aS ?_ F F) ?_;focus omega) | refine aG F ?_ | refine jD F F F ?_ | refine jC F F F ?_ | refine jF fun _=>?_ | refine cQ F F F F F F F F F oM fun _ _=>?_ | (refine af F F F cx_wb F ?_;rintro _ _ rfl;dsimp only [zA,fA]) | (refine af F F F cx_tm F ?_;rintro _ _ ⟨rfl,rfl⟩;dsimp only [zA,fA])) | refine ac F F ?_ | refine ad F (aC ‹_›) ?_ | (refine ai (an (id:=9) _ (fun _ h=>h) ah ?_);refine jT 23 [0] (aa 24 1) ?_;(refine jG (aa 24 3) 1 F (cp F F) ?_);refine jT 21 [2] (aa 24 7) ?_;(try (refine Nx.re (d:=38) (v':=Bo false) F (congrArg Value.bool F) ?_));refine jT 17 [3,4,5,7] (aa 24 191) ?_;((refine jG (aa 24 255) 6 F (bN F F aS ?_ F F) ?_;focus omega));refine jT 15 [8] (aa 24 511) ?_;(refine jG (aa 24 1023) 9 F (aH F F F) ?_);refine jT 13 [10] (aa 24 2047) ?_;(try (refine Nx.re (d:=46) (v':=Bo false) F (congrArg Value.bool (aC ‹_›)) ?_));refine jT 8 [11,16,17,18,20] (aa 24 1511423) ?_;(refine jG (aa 24 1515519) 12 F (aq F F F) ?_);(refine jG (aa 24 1523711) 13 F (a9 F F oM) ?_);((refine jG (aa 24 1540095) 14 F (cD F F aS ?_) ?_;(focus ((simp only [List.length_append,List.length_cons,List.length_nil,List.length_take];omega);done))));(refine jG (aa 24 2064383) 19 F (aq F F F) ?_);(refine jA 15 F ?_;(refine ab F F F cx_pr F ?_);refine jS (aa 24 2097151) ?_);(refine jA 21 F ?_;(refine ab F F F cx_of F ?_);refine jS (aa 24 4194303) ?_);refine jT 1 [22] (aa 24 8388607) ?_;(refine jG (aa 24 16777215) 23 F (aH F F F) ?_);refine jQ ?_))
      rename_i _ y1 yc _
      rw [hrow]
      refine Nx.sealS (v:=.slice (some ⟨y1,0,none⟩) (vs.length + 1) yc) fun G2 hG2 hsl=>?_
      refine aZ (vs:=[_]) F ⟨aE F F F F,trivial⟩ F sB ⟨hgl.trans hG2,.nd 82 [] 0 (vs ++ [.nd 61 [] (ae t.fields j).tag [u1]]),⟨82,[],0,some ⟨y1,0,none⟩,vs.length + 1,yc⟩,t1,true,by rw [hso];rfl,cM dC dC (fun h=>absurd h dC) hvl.symm (by rw [List.length_append,List.length_singleton,hcl];exact hsl) (bU hG2 hr2),F,by simp only [List.length_cons];omega,fun h=>(by cases h),fun _=>⟨.inr (by rw [hR,hit,hit2];rfl),by rw [cX,htu];simp only [List.length_cons,List.length_nil];omega⟩⟩
     | false =>
      have hst:=jf (ts:=ak qs) (vs:=vs) (last:=last) (m:=m) (hg rfl) oM
      rw [if_neg hbrk] at hst
      have cx_tm:=gm (G:=G1) (r:=r) (sc:=sc) (s:=t1) (l:=[44]) (b:=false) ⟨oM,by simp⟩
      clear cx_wb
      have cx_wb:=df (G:=G1) (r:=r) (sc:=sc) (s:=t1) (l:=[125]) (b:=false) ⟨oM,by simp⟩
      cases ht3 : cH [44] t1 false with
      | true =>
       obtain ⟨t2,rfl⟩:=eM.1 ht3
       rw [ht3,fD] at cx_tm
       simp only [List.length_cons] at htl hto
       dsimp only at hst
       rw [if_pos (show (44 : UInt8).toNat = 44 from rfl)] at hst
       have hlt : t2.length < m - 1:=oM
       repeat' (first | refine jR ?_ | (refine jo ?_;first | refine aj F ?_ | (refine jV (bN F F aS ?_ F F) ?_;focus omega) | refine aG F ?_ | refine jD F F F ?_ | refine jF fun _=>?_ | refine cQ F F F F F F F F F oM fun _ _=>?_ | (refine af F F F cx_tm F ?_;rintro _ _ ⟨rfl,rfl⟩;dsimp only [zA,fA])) | (refine ad F (by first | rfl | (refine decide_eq_false ?_;(assumption))) ?_) | (refine ai (an (id:=9) _ (fun _ h=>h) ah ?_);refine jT 23 [0] (aa 24 1) ?_;(refine jG (aa 24 3) 1 F (cp F F) ?_);refine jT 21 [2] (aa 24 7) ?_;(try (refine Nx.re (d:=38) (v':=Bo false) F (congrArg Value.bool F) ?_));refine jT 17 [3,4,5,7] (aa 24 191) ?_;((refine jG (aa 24 255) 6 F (bN F F aS ?_ F F) ?_;focus omega));refine jT 15 [8] (aa 24 511) ?_;(refine jG (aa 24 1023) 9 F (aH F F F) ?_);refine jT 13 [10] (aa 24 2047) ?_;(try (refine Nx.re (d:=46) (v':=Bo false) F (congrArg Value.bool (aC ‹_›)) ?_));refine jT 8 [11,16,17,18,20] (aa 24 1511423) ?_;(refine jG (aa 24 1515519) 12 F (aq F F F) ?_);(refine jG (aa 24 1523711) 13 F (a9 F F oM) ?_);((refine jG (aa 24 1540095) 14 F (cD F F aS ?_) ?_;(focus ((simp only [List.length_append,List.length_cons,List.length_nil,List.length_take];omega);done))));(refine jG (aa 24 2064383) 19 F (aq F F F) ?_);(refine jA 15 F ?_;(refine ab F F F cx_pr F ?_);refine jS (aa 24 2097151) ?_);(refine jA 21 F ?_;(refine ab F F F cx_of F ?_);refine jS (aa 24 4194303) ?_);refine jT 1 [22] (aa 24 8388607) ?_;(refine jG (aa 24 16777215) 23 F (aH F F F) ?_);refine jQ ?_))
       rename_i _ y1 yc
       rw [hrow]
       exact aW (vs ++ [.nd 61 [] (ae t.fields j).tag [u1]],cs ++ [⟨61,[],(ae t.fields j).tag,some ⟨kb,ko,none⟩,1,kc⟩],some ⟨y1,0,none⟩,yc,t2,m - 1,(ae t.fields j).tag,G1) ⟨⟨hr2,hgl⟩,⟨by rw [hit,hst],hlt⟩,by dsimp only;omega,by dsimp only;omega⟩ (by dsimp only;omega) tU rfl (by rw [hvl];repeat (first | exact List.Sublist.refl _ | apply List.Sublist.cons_cons | apply List.Sublist.cons))
      | false =>
       rw [ht3,fO ht3] at cx_tm
       cases ht4 : cH [125] t1 false with
       | true =>
        obtain ⟨t2,rfl⟩:=eM.1 ht4
        rw [ht4,fD,Bool.not_true] at cx_wb
        simp only [List.length_cons] at htl hto
        dsimp only at hst
        rw [if_neg (show ¬ (125 : UInt8).toNat = 44 by decide),if_pos (show (125 : UInt8).toNat = 125 from rfl)] at hst
        have hit2:=hst
        repeat' (first | refine jR ?_ | (refine jo ?_;first | refine aj F ?_ | (refine jV (bN F F aS ?_ F F) ?_;focus omega) | refine aG F ?_ | refine jD F F F ?_ | refine jC F F F ?_ | refine jF fun _=>?_ | refine cQ F F F F F F F F F oM fun _ _=>?_ | (refine af F F F cx_wb F ?_;rintro _ _ rfl;dsimp only [zA,fA]) | (refine af F F F cx_tm F ?_;rintro _ _ ⟨rfl,rfl⟩;dsimp only [zA,fA])) | refine ac F F ?_ | refine ad F (aC ‹_›) ?_ | (refine ai (an (id:=9) _ (fun _ h=>h) ah ?_);refine jT 23 [0] (aa 24 1) ?_;(refine jG (aa 24 3) 1 F (cp F F) ?_);refine jT 21 [2] (aa 24 7) ?_;(try (refine Nx.re (d:=38) (v':=Bo false) F (congrArg Value.bool F) ?_));refine jT 17 [3,4,5,7] (aa 24 191) ?_;((refine jG (aa 24 255) 6 F (bN F F aS ?_ F F) ?_;focus omega));refine jT 15 [8] (aa 24 511) ?_;(refine jG (aa 24 1023) 9 F (aH F F F) ?_);refine jT 13 [10] (aa 24 2047) ?_;(try (refine Nx.re (d:=46) (v':=Bo false) F (congrArg Value.bool (aC ‹_›)) ?_));refine jT 8 [11,16,17,18,20] (aa 24 1511423) ?_;(refine jG (aa 24 1515519) 12 F (aq F F F) ?_);(refine jG (aa 24 1523711) 13 F (a9 F F oM) ?_);((refine jG (aa 24 1540095) 14 F (cD F F aS ?_) ?_;(focus ((simp only [List.length_append,List.length_cons,List.length_nil,List.length_take];omega);done))));(refine jG (aa 24 2064383) 19 F (aq F F F) ?_);(refine jA 15 F ?_;(refine ab F F F cx_pr F ?_);refine jS (aa 24 2097151) ?_);(refine jA 21 F ?_;(refine ab F F F cx_of F ?_);refine jS (aa 24 4194303) ?_);refine jT 1 [22] (aa 24 8388607) ?_;(refine jG (aa 24 16777215) 23 F (aH F F F) ?_);refine jQ ?_))
        rename_i _ y1 yc _
        rw [hrow]
        refine Nx.sealS (v:=.slice (some ⟨y1,0,none⟩) (vs.length + 1) yc) fun G2 hG2 hsl=>?_
        refine aZ (vs:=[_]) F ⟨aE F F F F,trivial⟩ F sB ⟨hgl.trans hG2,.nd 82 [] 0 (vs ++ [.nd 61 [] (ae t.fields j).tag [u1]]),⟨82,[],0,some ⟨y1,0,none⟩,vs.length + 1,yc⟩,t2,false,by rw [hso];rfl,cM dC dC (fun h=>absurd h dC) hvl.symm (by rw [List.length_append,List.length_singleton,hcl];exact hsl) (bU hG2 hr2),F,by simp only [List.length_cons];omega,fun _=>⟨rfl,by rw [hR,hit,hit2];rfl⟩,fun h=>(by cases h)⟩
       | false =>
        rw [ht4,fO ht4,Bool.not_false] at cx_wb
        have hit2 : bC (ak qs) (rd (ak qs) n) t m last t' vs = none:=by
         rw [hst]
         cases t1 with
         | nil=>rfl
         | cons e t2 =>
          dsimp only
          rw [if_neg,if_neg]
          ·intro h
           exact hZ ht4 t2 (by rw [show e = 125 from UInt8.toNat_inj.1 h])
          ·intro h
           exact hZ ht3 t2 (by rw [show e = 44 from UInt8.toNat_inj.1 h])
        repeat' (first | refine jR ?_ | (refine jo ?_;first | refine aj F ?_ | (refine jV (bN F F aS ?_ F F) ?_;focus omega) | refine aG F ?_ | refine jD F F F ?_ | refine jC F F F ?_ | refine jF fun _=>?_ | refine cQ F F F F F F F F F oM fun _ _=>?_ | (refine af F F F cx_wb F ?_;rintro _ _ rfl;dsimp only [zA,fA]) | (refine af F F F cx_tm F ?_;rintro _ _ ⟨rfl,rfl⟩;dsimp only [zA,fA])) | refine ac F F ?_ | refine ad F (aC ‹_›) ?_ | (refine ai (an (id:=9) _ (fun _ h=>h) ah ?_);refine jT 23 [0] (aa 24 1) ?_;(refine jG (aa 24 3) 1 F (cp F F) ?_);refine jT 21 [2] (aa 24 7) ?_;(try (refine Nx.re (d:=38) (v':=Bo false) F (congrArg Value.bool F) ?_));refine jT 17 [3,4,5,7] (aa 24 191) ?_;((refine jG (aa 24 255) 6 F (bN F F aS ?_ F F) ?_;focus omega));refine jT 15 [8] (aa 24 511) ?_;(refine jG (aa 24 1023) 9 F (aH F F F) ?_);refine jT 13 [10] (aa 24 2047) ?_;(try (refine Nx.re (d:=46) (v':=Bo false) F (congrArg Value.bool (aC ‹_›)) ?_));refine jT 8 [11,16,17,18,20] (aa 24 1511423) ?_;(refine jG (aa 24 1515519) 12 F (aq F F F) ?_);(refine jG (aa 24 1523711) 13 F (a9 F F oM) ?_);((refine jG (aa 24 1540095) 14 F (cD F F aS ?_) ?_;(focus ((simp only [List.length_append,List.length_cons,List.length_nil,List.length_take];omega);done))));(refine jG (aa 24 2064383) 19 F (aq F F F) ?_);(refine jA 15 F ?_;(refine ab F F F cx_pr F ?_);refine jS (aa 24 2097151) ?_);(refine jA 21 F ?_;(refine ab F F F cx_of F ?_);refine jS (aa 24 4194303) ?_);refine jT 1 [22] (aa 24 8388607) ?_;(refine jG (aa 24 16777215) 23 F (aH F F F) ?_);refine jQ ?_))
        rename_i _ y1 yc _
        rw [hrow]
        refine Nx.sealS (v:=.slice (some ⟨y1,0,none⟩) (vs.length + 1) yc) fun G2 hG2 hsl=>?_
        refine aZ (vs:=[_]) F ⟨aE F F F F,trivial⟩ F sB ⟨hgl.trans hG2,.nd 82 [] 0 (vs ++ [.nd 61 [] (ae t.fields j).tag [u1]]),⟨82,[],0,some ⟨y1,0,none⟩,vs.length + 1,yc⟩,t1,true,by rw [hso];rfl,cM dC dC (fun h=>absurd h dC) hvl.symm (by rw [List.length_append,List.length_singleton,hcl];exact hsl) (bU hG2 hr2),F,by simp only [List.length_cons];omega,fun h=>(by cases h),fun _=>⟨.inr (by rw [hR,hit,hit2];rfl),by rw [cX,htu];simp only [List.length_cons,List.length_nil];omega⟩⟩
theorem oH {c : UInt8} {a b d : abL} : am abK 124 [Ag [S (c :: a),S b,S d]] G (· = Ag [S a,S b,S d]):=by
 refine jE [(0,_)] Tryz.func124 Tryz.ntmps124 fun B hB=>?_
 repeat' (first | refine jX ?_ | (refine jo ?_;first | refine jO fun _=>?_ | refine jL fun _=>?_ | refine aj F ?_ | refine aG F ?_ | refine jD F F F ?_ | refine jC F F F ?_))
 refine jZ (vs:=[_]) F ⟨aE F F F F,trivial⟩ F ⟨F,F,?_⟩
 rfl
theorem iK {c : UInt8} {k : abL} (h : c.toNat = 91 ∨ c.toNat = 63) : sg (c :: k) = c :: sg k ∧ bs (c :: k) = bs k ∧ nm (c :: k) = nm k ∧ bm (c :: k) = bm k:=by
 have hc : bm (c :: k) = bm k:=by rw [bm,if_pos h]
 exact ⟨mh h,by unfold bs;rw [hc],by unfold nm;rw [hc],hc⟩
theorem dP {ts : List Ty} {c : UInt8} {k : abL} (hc : c.toNat = 91 ∨ c.toNat = 63) (h : aP ts (c :: k) = true) : aP ts k = true:=by
 unfold aP at h ⊢
 simp only [Bool.and_eq_true] at h ⊢
 obtain ⟨h1,h2⟩:=h
 refine ⟨?_,?_⟩
 ·unfold bz at h1 ⊢
  simp only [Bool.and_eq_true,decide_eq_true_eq,List.length_cons] at h1 ⊢
  refine ⟨oM,?_⟩
  have:=h1.2
  rw [eg,if_pos hc] at this
  exact this
 ·unfold dY at h2 ⊢
  rw [(iK hc).2.2.2] at h2
  exact h2
theorem qt {ts : List Ty} {f : abL → abL → Option (V × abL)} {c : UInt8} {k s : abL} (hc : c.toNat = 91) : ee ts f (c :: k) s = er (f k) s:=by
 unfold ee er
 dsimp only
 rw [if_pos hc]
 cases s <;> rfl
theorem rc {r sc : Nat} {k s : abL} : bQ abK 133 [Pt r 0,Ag [S (sg k),S (bs k),S (nm k)]] G [dG r sc s true] (fun v L'=>v = zP ∧ L' = [dG r sc s true]):=by
 refine jH [(0,_),(1,_)] Tryz.func133 Tryz.ntmps133 fun B hB hW=>?_
 repeat' (first | refine jR ?_ | (refine jo ?_;first | refine jO fun _=>?_ | refine jL fun _=>?_ | refine aj F ?_ | refine jV (ao F F) ?_ | refine jC F F F ?_) | refine ac F F ?_)
 refine aZ (vs:=[_]) F ⟨aE F F F F,trivial⟩ F sB ⟨F,F,F⟩
theorem bQ.toM {P : Program} {f : FuncId} {args : List Value} {L : List Own} {R : Value → List Own → Prop} {R' : Value → Gh → List Own → Prop} (h : bQ P f args G L R) (hr : ∀ v L',R v L' → R' v G L') : dh P f args G L R' :=
 Fn.mono h fun v G' L' h2=>⟨h2.1 ▸ Gh.le.refl _,h2.1 ▸ hr v L' h2.2⟩
theorem eZ : V.rep G (.nd 0 [] 0 []) ⟨0,[],0,none,0,0⟩:=bj dC dC
theorem zm {n r sc : Nat} {qs : List cx} {c : UInt8} {k s : abL} (hc : c = 63) (hV : mc n sc qs) (hS : ScI G sc qs) (hk : aP (ak qs) (c :: k) = true) (hs : s.length < n + 1 ∧ s.length ≤ 1000) :
  dh abK 133 [Pt r 0,Ag (d4 (c :: k))] G [dG r sc s false] (gI (rd (ak qs) (n + 1) (c :: k)) r sc s false):=by
 subst hc
 have hk2:=dP (.inr rfl) hk
 obtain ⟨e1,e2,e3,_⟩:=iK (c:=63) (k:=k) (.inr rfl)
 have hrd : rd (ak qs) (n + 1) (63 :: k) s = match s with
   | []=>none
   | d :: s'=>if d.toNat = 45 then some (.nd 63 [] 0 [],s') else if d.toNat = 43 then (rd (ak qs) n k s').map fun x=>(.nd 63 [] 0 [x.1],x.2) else none:=by
  rw [rd];unfold ee
  dsimp only
  rw [if_neg (show ¬ (63 : UInt8).toNat = 91 by decide),if_pos (show (63 : UInt8).toNat = 63 from rfl)]
  cases s <;> rfl
 unfold d4
 rw [e1,e2,e3]
 have cx_sign:=@iw G 63 (sg k) (bs k) (nm k)
 have cx_pt:=@oH G 63 (sg k) (bs k) (nm k)
 have cx_tk:=gm (G:=G) (r:=r) (sc:=sc) (s:=s) (l:=[45]) (b:=false) ⟨oM,by simp⟩
 have cx_wa:=df (G:=G) (r:=r) (sc:=sc) (s:=s) (l:=[43]) (b:=false) ⟨oM,by simp⟩
 cases ht : cH [45] s false with
 | true =>
  obtain ⟨s1,rfl⟩:=eM.1 ht
  rw [ht,fD] at cx_tk
  dsimp only at hrd
  rw [if_pos (show (45 : UInt8).toNat = 45 from rfl)] at hrd
  refine cr [(0,_),(1,_)] Tryz.func133 kR Tryz.ntmps133 F F tU fun B hB hW=>?_
  repeat' (first | refine jR ?_ | (refine jo ?_;first | refine jO fun _=>?_ | refine jL fun _=>?_ | refine aj F ?_ | refine aG F ?_ | refine jV (ao F F) ?_ | refine jC F F F ?_ | refine ab F F F cx_sign F ?_ | (refine af F F F cx_tk F ?_;rintro _ _ ⟨rfl,rfl⟩;dsimp only [zA,fA])) | refine ac F F ?_ | refine ad F F ?_)
  refine aZ (vs:=[_]) F ⟨aE F F F F,trivial⟩ F sB ⟨Gh.le.refl _,.nd 63 [] 0 [],⟨63,[],0,none,0,0⟩,s1,false,F,bj dC dC,F,by simp only [List.length_cons];omega,fun _=>⟨rfl,hrd⟩,fun h=>(by cases h)⟩
 | false =>
  rw [ht,fO ht] at cx_tk
  cases ht2 : cH [43] s false with
  | false =>
   rw [ht2,fO ht2,Bool.not_false] at cx_wa
   have hno : rd (ak qs) (n + 1) (63 :: k) s = none:=by
    rw [hrd]
    cases s with
    | nil=>rfl
    | cons d s' =>
     dsimp only
     rw [if_neg,if_neg]
     ·intro h;exact hZ ht2 s' (by rw [show d = 43 from UInt8.toNat_inj.1 h])
     ·intro h;exact hZ ht s' (by rw [show d = 45 from UInt8.toNat_inj.1 h])
   refine cr [(0,_),(1,_)] Tryz.func133 kR Tryz.ntmps133 F F tU fun B hB hW=>?_
   repeat' (first | refine jR ?_ | (refine jo ?_;first | refine jO fun _=>?_ | refine jL fun _=>?_ | refine aj F ?_ | refine aG F ?_ | refine ab F F F cx_sign F ?_ | refine ab F F F cx_pt F ?_ | (refine af F F F cx_tk F ?_;rintro _ _ ⟨rfl,rfl⟩;dsimp only [zA,fA]) | (refine af F F F cx_wa F ?_;rintro _ _ rfl;dsimp only [zA,fA])) | refine ac F F ?_ | refine ad F F ?_)
   refine jo ?_
   refine af F F F rc F ?_
   rintro _ _ ⟨rfl,rfl⟩
   dsimp only [zA,fA]
   repeat' (first | refine jR ?_ | (refine jo ?_;first | refine jV (ao F F) ?_ | refine jC F F F ?_ | refine jF fun _=>?_))
   rename_i y
   refine Nx.sealC (b:=y) fun G2 hG2 hsy=>?_
   have hsl : bh G2 (.slice (some ⟨y,0,none⟩) 1 1) 4 ([⟨0,[],0,none,0,0⟩] : List VC).length (aA b6 [⟨0,[],0,none,0,0⟩]):=⟨rfl,.inr ⟨y,0,1,rfl,Nat.le_refl _,hsy⟩⟩
   refine aZ (vs:=[_]) F ⟨aE F F F F,trivial⟩ F sB ⟨hG2,.nd 63 [] 0 [.nd 0 [] 0 []],⟨63,[],0,some ⟨y,0,none⟩,1,1⟩,s,true,F,cM dC dC (fun h=>absurd h dC) F hsl ⟨_,[],F,eZ,F⟩,F,Nat.le_refl _,fun h=>(by cases h),fun _=>⟨.inr hno,by simp only [V.tot,V.tots,List.length_nil];omega⟩⟩
  | true =>
   obtain ⟨s1,rfl⟩:=eM.1 ht2
   rw [ht2,fD,Bool.not_true] at cx_wa
   simp only [List.length_cons] at hs
   dsimp only at hrd
   rw [if_neg (show ¬ (43 : UInt8).toNat = 45 by decide),if_pos (show (43 : UInt8).toNat = 43 from rfl)] at hrd
   have cx_vl:=hV G r k s1 false hS hk2 oM oM
   refine cr [(0,_),(1,_)] Tryz.func133 kR Tryz.ntmps133 F F tU fun B hB hW=>?_
   repeat' (first | refine jR ?_ | (refine jo ?_;first | refine jO fun _=>?_ | refine jL fun _=>?_ | refine aj F ?_ | refine aG F ?_ | refine jV (ao F F) ?_ | refine jC F F F ?_ | refine jF fun _=>?_ | refine ab F F F cx_sign F ?_ | refine ab F F F cx_pt F ?_ | (refine af F F F cx_tk F ?_;rintro _ _ ⟨rfl,rfl⟩;dsimp only [zA,fA]) | (refine af F F F cx_wa F ?_;rintro _ _ rfl;dsimp only [zA,fA]) | (refine dI F F F cx_vl F ?_;rintro _ G1 _ hle ⟨u1,c1,t1,b1,rfl,hrep,rfl,hP⟩;dsimp only [zA,fA];skip)) | refine ac F F ?_ | refine ad F F ?_)
   rename_i y
   refine Nx.sealC (b:=y) fun G2 hG2 hsy=>?_
   have hsl : bh G2 (.slice (some ⟨y,0,none⟩) 1 1) 4 ([c1] : List VC).length (aA b6 [c1]):=⟨rfl,.inr ⟨y,0,1,rfl,Nat.le_refl _,hsy⟩⟩
   obtain ⟨hPl,hP0,hP1⟩:=hP
   cases b1 with
   | false =>
    refine aZ (vs:=[_]) F ⟨aE F F F F,trivial⟩ F sB ⟨hle.trans hG2,.nd 63 [] 0 [u1],⟨63,[],0,some ⟨y,0,none⟩,1,1⟩,t1,false,F,cM dC dC (fun h=>absurd h dC) F hsl ⟨_,[],F,fP hG2 hrep,F⟩,F,by simp only [List.length_cons];omega,fun _=>⟨rfl,by rw [hrd,(hP0 rfl).2];rfl⟩,fun h=>(by cases h)⟩
   | true =>
    obtain ⟨hno,hto⟩:=hP1 rfl
    have hno2 : rd (ak qs) n k s1 = none:=by
     rcases hno with h | h
     ·cases h
     ·exact h
    refine aZ (vs:=[_]) F ⟨aE F F F F,trivial⟩ F sB ⟨hle.trans hG2,.nd 63 [] 0 [u1],⟨63,[],0,some ⟨y,0,none⟩,1,1⟩,t1,true,F,cM dC dC (fun h=>absurd h dC) F hsl ⟨_,[],F,fP hG2 hrep,F⟩,F,by simp only [List.length_cons];omega,fun h=>(by cases h),fun _=>⟨.inr (by rw [hrd,hno2];rfl),by simp only [V.tot,V.tots,List.length_nil,List.length_cons];omega⟩⟩
theorem zp {n r sc : Nat} {qs : List cx} {k s : abL} (hV : mc n sc qs) (hS : ScI G sc qs) (hk : aP (ak qs) (91 :: k) = true) (hs : s.length < n + 1 ∧ s.length ≤ 1000) :
  dh abK 133 [Pt r 0,Ag (d4 (91 :: k))] G [dG r sc s false] (gI (rd (ak qs) (n + 1) (91 :: k)) r sc s false):=by
 have hk2:=dP (.inl rfl) hk
 obtain ⟨e1,e2,e3,_⟩:=iK (c:=91) (k:=k) (.inl rfl)
 have hrd : rd (ak qs) (n + 1) (91 :: k) s = er (rd (ak qs) n k) s:=by rw [rd];exact qt F
 unfold d4
 rw [e1,e2,e3]
 have cx_sign:=@iw G 91 (sg k) (bs k) (nm k)
 have cx_pt:=@oH G 91 (sg k) (bs k) (nm k)
 have cx_li:=zE (G:=G) (r:=r) (b:=false) hV hS hk2 (s:=s) ⟨oM,oM⟩
 refine cr [(0,_),(1,_)] Tryz.func133 kR Tryz.ntmps133 F F tU fun B hB hW=>?_
 repeat' (first | refine jR ?_ | (refine jo ?_;first | refine jO fun _=>?_ | refine jL fun _=>?_ | refine aj F ?_ | refine aG F ?_ | refine jC F F F ?_ | refine ab F F F cx_sign F ?_ | refine ab F F F cx_pt F ?_ | (refine dI F F F cx_li F ?_;rintro _ G1 _ hle ⟨u1,c1,t1,b1,rfl,hrep,rfl,hP⟩;dsimp only [zA,fA];skip)) | refine ac F F ?_ | refine ad F F ?_)
 obtain ⟨hPl,hP0,hP1⟩:=hP
 refine aZ (vs:=[_]) F ⟨aE F F F F,trivial⟩ F sB ⟨hle,u1,c1,t1,b1,F,hrep,F,hPl,fun h=>⟨F,by rw [hrd];exact (hP0 h).2⟩,fun h=>by rw [hrd];exact hP1 h⟩
theorem gL {ts : List Ty} {c : UInt8} {k : abL} (hk : aP ts (c :: k) = true) (h91 : ¬ (c.toNat = 91 ∨ c.toNat = 63)) (hr : aV ts (c :: k) = none) : c :: k = [110] ∨ c :: k = [116] ∨ c :: k = [102]:=by
 have hko:=dp hk
 have hcs:=fa (r:=k) h91
 have hrn : bE (bm (c :: k)) = none:=by
  cases hx : bE (bm (c :: k)) with
  | none=>rfl
  | some x =>
   obtain ⟨t,ht⟩:=lM hk (by rw [hx];rfl)
   rw [hcs,hr] at ht;cases ht
 have h:=nG hko hrn
 have h64 : ¬ c.toNat = 64:=by
  intro h64
  rw [hcs] at hrn
  simp [bE,h64] at hrn
 have e : bs (c :: k) = c :: k:=by unfold bs;rw [hcs];simp [oP,h64]
 rwa [e] at h
theorem ku {ts : List Ty} {n : Nat} {s : abL} {c : UInt8} (hc : c = 110 ∨ c = 116 ∨ c = 102) (hr : aV ts [c] = none) : rd ts (n + 1) [c] s = if c = 110 then (b9 999999 s).map fun x=>(.nd 110 (br x.1) 0 [],x.2) else if c = 116 then c7 s else dM s:=by
 rw [rd];unfold ee
 dsimp only
 rcases hc with rfl | rfl | rfl <;> simp [hr]
theorem zo {n r sc : Nat} {qs : List cx} {s : abL} (hr : aV (ak qs) [110] = none) (hs : s.length ≤ 1000) :
  dh abK 133 [Pt r 0,Ag (d4 [110])] G [dG r sc s false] (gI (rd (ak qs) (n + 1) [110]) r sc s false):=by
 have hrd:=ku (ts:=ak qs) (n:=n) (s:=s) (c:=110) (.inl rfl) hr
 rw [if_pos rfl] at hrd
 have cx_sign:=@dn G [110] []
 have cx_nu:=k6 (G:=G) (r:=r) (sc:=sc) (s:=s) (b:=false) (top:=999999) oM
 have hwl:=dA aU s
 show dh abK 133 [Pt r 0,Ag [S [],S [110],S []]] G [dG r sc s false] _
 refine cr [(0,_),(1,_)] Tryz.func133 kR Tryz.ntmps133 F F tU fun B hB hW=>?_
 repeat' (first | refine jR ?_ | (refine jo ?_;first | refine jO fun _=>?_ | refine jL fun _=>?_ | refine aj F ?_ | refine aG F ?_ | refine jV (ao F F) ?_ | refine jC F F F ?_ | refine ab F F F cx_sign F ?_ | (refine af F F F cx_nu F ?_;rintro _ _ ⟨n1,rfl,⟨hn0,hn1⟩,hnum,rfl⟩;dsimp only [zA,fA]) | refine ab F F F (fB oM) F ?_) | refine ac F F ?_ | refine ad F F ?_)
 have hdl:=fx hn1
 cases hm : aM (s.takeWhile aU) 999999 with
 | none =>
  refine aZ (vs:=[_]) F ⟨aE F F F F,trivial⟩ F sB ⟨Gh.le.refl _,.nd 110 (br n1) 0 [],⟨110,br n1,0,none,0,0⟩,s.dropWhile aU,true,F,bj dC dC,F,oM,fun h=>(by cases h),fun _=>⟨.inr (by rw [hrd];unfold b9;rw [hm];rfl),by simp only [V.tot,V.tots];omega⟩⟩
 | some m =>
  obtain rfl : n1 = m:=hnum m hm
  refine aZ (vs:=[_]) F ⟨aE F F F F,trivial⟩ F sB ⟨Gh.le.refl _,.nd 110 (br n1) 0 [],⟨110,br n1,0,none,0,0⟩,s.dropWhile aU,false,F,bj dC dC,F,oM,fun _=>⟨F,by rw [hrd];unfold b9;rw [hm];rfl⟩,fun h=>(by cases h)⟩
theorem zl {n r sc : Nat} {qs : List cx} {s : abL} (hr : aV (ak qs) [116] = none) (hs : s.length ≤ 1000) :
  dh abK 133 [Pt r 0,Ag (d4 [116])] G [dG r sc s false] (gI (rd (ak qs) (n + 1) [116]) r sc s false):=by
 have hrd:=ku (ts:=ak qs) (n:=n) (s:=s) (c:=116) (.inr (.inl rfl)) hr
 rw [if_neg dC,if_pos rfl] at hrd
 have cx_sign:=@dn G [116] []
 have cx_qu:=xU (G:=G) (r:=r) (sc:=sc) (s:=s) (b:=false) oM
 show dh abK 133 [Pt r 0,Ag [S [],S [116],S []]] G [dG r sc s false] _
 refine cr [(0,_),(1,_)] Tryz.func133 kR Tryz.ntmps133 F F tU fun B hB hW=>?_
 repeat' (first | refine jR ?_ | (refine jo ?_;first | refine jO fun _=>?_ | refine jL fun _=>?_ | refine aj F ?_ | refine aG F ?_ | refine jV (ao F F) ?_ | refine jC F F F ?_ | refine ab F F F cx_sign F ?_ | (refine af F F F cx_qu F ?_;rintro _ _ ⟨x1,t1,b1,rfl,hQ,rfl⟩;dsimp only [zA,fA])) | refine ac F F ?_ | refine ad F F ?_)
 obtain ⟨hQl,hQ0,hQ1⟩:=hQ
 refine aZ (vs:=[_]) F ⟨aE F F F F,trivial⟩ F sB ⟨Gh.le.refl _,.nd 116 x1 0 [],⟨116,x1,0,none,0,0⟩,t1,b1,F,bj dC dC,F,oM,fun h=>⟨F,by rw [hrd];exact (hQ0 h).2⟩,fun h=>⟨.inr (by rw [hrd];rcases hQ1 h with h | h;cases h;exact h),by simp only [V.tot,V.tots];omega⟩⟩
theorem zq {n r sc : Nat} {qs : List cx} {s : abL} (hr : aV (ak qs) [102] = none) (hs : s.length ≤ 1000) :
  dh abK 133 [Pt r 0,Ag (d4 [102])] G [dG r sc s false] (gI (rd (ak qs) (n + 1) [102]) r sc s false):=by
 have hrd:=ku (ts:=ak qs) (n:=n) (s:=s) (c:=102) (.inr (.inr rfl)) hr
 rw [if_neg dC,if_neg dC] at hrd
 unfold dM at hrd
 have cx_sign:=@dn G [102] []
 have cx_tk:=gm (G:=G) (r:=r) (sc:=sc) (s:=s) (l:=[121,101,115]) (b:=false) ⟨oM,by simp⟩
 have cx_wa:=df (G:=G) (r:=r) (sc:=sc) (s:=s) (l:=[110,111]) (b:=false) ⟨oM,by simp⟩
 have ey : ∀ l : abL,cH l s false = l.isPrefixOf s:=fun l=>by simp [cH]
 have el : ∀ l : abL,l.isPrefixOf s = true → s.length = l.length + (s.drop l.length).length:=fun l h=>by
  have:=o3 h
  have h2:=congrArg List.length this
  rwa [List.length_append] at h2
 show dh abK 133 [Pt r 0,Ag [S [],S [102],S []]] G [dG r sc s false] _
 cases hy : ([121,101,115] : abL).isPrefixOf s with
 | true =>
  have hl : s.length = 3 + (s.drop 3).length:=el _ hy
  unfold dB at cx_tk
  rw [ey,hy,if_pos rfl] at cx_tk
  rw [hy,if_pos rfl] at hrd
  refine cr [(0,_),(1,_)] Tryz.func133 kR Tryz.ntmps133 F F tU fun B hB hW=>?_
  repeat' (first | refine jR ?_ | (refine jo ?_;first | refine jO fun _=>?_ | refine jL fun _=>?_ | refine aj F ?_ | refine aG F ?_ | refine jV (ao F F) ?_ | refine jC F F F ?_ | refine ab F F F cx_sign F ?_ | (refine af F F F cx_tk F ?_;rintro _ _ ⟨rfl,rfl⟩;dsimp only [zA,fA])) | refine ac F F ?_ | refine ad F F ?_)
  refine aZ (vs:=[_]) F ⟨aE F F F F,trivial⟩ F sB ⟨Gh.le.refl _,.nd 102 [121,101,115] 0 [],⟨102,[121,101,115],0,none,0,0⟩,s.drop 3,false,F,bj dC dC,F,oM,fun _=>⟨F,hrd⟩,fun h=>(by cases h)⟩
 | false =>
  have h1 : cH [121,101,115] s false = false:=by rw [ey,hy]
  rw [h1,fO h1] at cx_tk
  rw [hy,if_neg dC] at hrd
  cases hno : ([110,111] : abL).isPrefixOf s with
  | true =>
   have hl : s.length = 2 + (s.drop 2).length:=el _ hno
   unfold dB at cx_wa
   rw [ey,hno,if_pos rfl] at cx_wa
   rw [hno,if_pos rfl] at hrd
   refine cr [(0,_),(1,_)] Tryz.func133 kR Tryz.ntmps133 F F tU fun B hB hW=>?_
   repeat' (first | refine jR ?_ | (refine jo ?_;first | refine jO fun _=>?_ | refine jL fun _=>?_ | refine aj F ?_ | refine aG F ?_ | refine jV (ao F F) ?_ | refine jC F F F ?_ | refine ab F F F cx_sign F ?_ | (refine af F F F cx_tk F ?_;rintro _ _ ⟨rfl,rfl⟩;dsimp only [zA,fA]) | (refine af F F F cx_wa F ?_;rintro _ _ rfl;dsimp only [zA,fA])) | refine ac F F ?_ | refine ad F F ?_)
   refine aZ (vs:=[_]) F ⟨aE F F F F,trivial⟩ F sB ⟨Gh.le.refl _,.nd 102 [110,111] 0 [],⟨102,[110,111],0,none,0,0⟩,s.drop 2,false,F,bj dC dC,F,oM,fun _=>⟨F,hrd⟩,fun h=>(by cases h)⟩
  | false =>
   have h2 : cH [110,111] s false = false:=by rw [ey,hno]
   rw [h2,fO h2,Bool.not_false] at cx_wa
   rw [hno,if_neg dC] at hrd
   refine cr [(0,_),(1,_)] Tryz.func133 kR Tryz.ntmps133 F F tU fun B hB hW=>?_
   repeat' (first | refine jR ?_ | (refine jo ?_;first | refine jO fun _=>?_ | refine jL fun _=>?_ | refine aj F ?_ | refine aG F ?_ | refine jV (ao F F) ?_ | refine jC F F F ?_ | refine ab F F F cx_sign F ?_ | (refine af F F F cx_tk F ?_;rintro _ _ ⟨rfl,rfl⟩;dsimp only [zA,fA]) | (refine af F F F cx_wa F ?_;rintro _ _ rfl;dsimp only [zA,fA])) | refine ac F F ?_ | refine ad F F ?_)
   refine aZ (vs:=[_]) F ⟨aE F F F F,trivial⟩ F sB ⟨Gh.le.refl _,.nd 102 [110,111] 0 [],⟨102,[110,111],0,none,0,0⟩,s,true,F,bj dC dC,F,Nat.le_refl _,fun h=>(by cases h),fun _=>⟨.inr hrd,by simp only [V.tot,V.tots,List.length_cons,List.length_nil];omega⟩⟩
theorem zr {n r sc : Nat} {qs : List cx} {c : UInt8} {k s : abL} {t : Ty} (h91 : ¬ (c.toNat = 91 ∨ c.toNat = 63)) (hV : mc n sc qs) (hS : ScI G sc qs) (hw : SchW (ak qs)) (hk : aP (ak qs) (c :: k) = true) (hrf : aV (ak qs) (c :: k) = some t) (hs : s.length < n + 1 ∧ s.length ≤ 1000) :
  dh abK 133 [Pt r 0,Ag (d4 (c :: k))] G [dG r sc s false] (gI (rd (ak qs) (n + 1) (c :: k)) r sc s false):=by
 have hko:=dp hk
 have hsg:=mg (r:=k) h91
 have hcs:=fa (r:=k) h91
 have hrn : (bE (bm (c :: k))).isSome = true:=by
  rw [hcs];unfold aV at hrf
  cases hx : bE (c :: k) with
  | none=>rw [hx] at hrf;cases hrf
  | some x=>rfl
 have hbs : bs (c :: k) = [64]:=(mA hko).2 hrn
 have hnm : bE (c :: k) = some (nm (c :: k)):=by
  unfold nm;rw [hcs] at hrn ⊢
  cases hx : bE (c :: k) with
  | none=>rw [hx] at hrn;cases hrn
  | some x=>rfl
 have hft : gj (ak qs) (nm (c :: k)) = some t:=by unfold aV at hrf;rw [hnm] at hrf;exact hrf
 have hkv:=gz qs (nm (c :: k))
 rw [← gC] at hft
 rcases hfq : eo qs (nm (c :: k)) with _ | ⟨p,t'⟩
 ·rw [hfq] at hft;cases hft
 rw [hfq] at hft hkv
 dsimp only [Option.map_some] at hft hkv
 have htt : t' = t:=Option.some.inj hft
 subst htt
 have hqm:=gV hfq
 have htm:=cS hrf
 have hW:=hw.ty t' htm
 have hT : gY G p t':=hS.ty _ hqm
 obtain ⟨u,m,g1,g2,g3⟩:=hS.at'
 have hrd : rd (ak qs) (n + 1) (c :: k) s = aY (ak qs) (rd (ak qs) n) t' s:=by
  rw [rd];unfold ee
  dsimp only
  rw [if_neg (fun h=>h91 (.inl h)),if_neg (fun h=>h91 (.inr h)),hrf]
 have cx_ot : dh abK 167 [Pt r 0,Pt p 0] G [dG r sc s false] (gI (aY (ak qs) (rd (ak qs) n) t') r sc s false):=by
  rcases hW.sort with h | h | h
  ·exact aaS hV hS hw (fun d hd=>eS hw htm oM hd) hT hW h ⟨oM,oM⟩
  ·exact aaR hV hS (fun d hd=>eS hw htm oM hd) hT hW h ⟨oM,oM⟩
  ·exact aaT hT hW h ⟨oM,oM⟩
 have cx_sign:=@dn G [64] (nm (c :: k))
 unfold d4
 rw [hsg,hbs]
 clear hft hfq hnm hrn hcs
 refine cr [(0,_),(1,_)] Tryz.func133 kR Tryz.ntmps133 F F tU fun B hB hW=>?_
 repeat' (first | refine jR ?_ | (refine jo ?_;first | refine jO fun _=>?_ | refine jL fun _=>?_ | refine aj F ?_ | refine aG F ?_ | refine ab F F F cx_sign F ?_) | refine ad F F ?_)
 rename_i x3 x4
 (refine ai (an (id:=21) [.blk x3 (.cells (List.toArray [S [],S [64],S (nm (c :: k))]) tj (0,0))] (by intro y hy;simp only [List.mem_cons,List.not_mem_nil,or_false] at hy ⊢;simp [hy]) ah ?_);refine jW 8 [0,1,2,3,8] (aa 13 271) ?_;(refine jG (aa 13 783) 9 F (aq F F F) ?_);refine jA 4 F ?_;(refine aj F ?_);refine jK (aa 13 799) ?_;refine jW 4 [5,6] (aa 13 895) ?_;(refine jG (aa 13 1023) 7 F (aI F F aS F F) ?_);((refine jG (aa 13 2047) 10 F (cz F F (em aS) aS F) ?_));refine jA 11 F ?_;(refine dI F F F cx_ot F ?_;rintro _ G1 _ hle ⟨u1,c1,t1,b1,rfl,hrep,rfl,hP⟩;dsimp only [zA,fA];skip);refine jK (aa 13 4095) ?_;refine jA 12 F ?_;(refine jC F F F ?_);refine jK (aa 13 8191) ?_;refine jQ ?_)
 all_goals repeat' (refine jR ?_)
 all_goals (obtain ⟨hPl,hP0,hP1⟩:=hP)
 all_goals refine aZ (vs:=[_]) F ⟨aE F F F F,trivial⟩ F sB ⟨hle,u1,c1,t1,b1,F,hrep,F,hPl,fun h=>⟨F,by rw [hrd];exact (hP0 h).2⟩,fun h=>by rw [hrd];exact hP1 h⟩
theorem qj {sc : Nat} {qs : List cx} (hw : SchW (ak qs)) : ∀ n,mc n sc qs
 | 0=>fun G r k s b _ _ h _=>absurd h (Nat.not_lt_zero _)
 | n + 1=>fun G r k s b hS hk hn hs=>by
  have hV:=qj (sc:=sc) hw n
  cases b with
  | true =>
   exact rc.toM fun v L' ⟨h1,h2⟩=>⟨.nd 0 [] 0 [],⟨0,[],0,none,0,0⟩,s,true,h1,eZ,h2,Nat.le_refl _,fun h=>(by cases h),fun _=>⟨.inl F,by simp only [V.tot,V.tots,List.length_nil];omega⟩⟩
  | false =>
   match k,hk with
   | [],hk=>cases hk
   | c :: k,hk =>
    by_cases h1 : c.toNat = 91
    ·obtain rfl:=bo h1 dC
     exact zp hV hS hk ⟨hn,hs⟩
    by_cases h2 : c.toNat = 63
    ·obtain rfl:=bo h2 dC
     exact zm F hV hS hk ⟨hn,hs⟩
    have h91 : ¬ (c.toNat = 91 ∨ c.toNat = 63):=fun h=>by rcases h with h | h <;> omega
    cases hr : aV (ak qs) (c :: k) with
    | some t=>exact zr h91 hV hS hw hk hr ⟨hn,hs⟩
    | none =>
     rcases gL hk h91 hr with e | e | e
     ·rw [e] at hr ⊢;exact zo hr hs
     ·rw [e] at hr ⊢;exact zl hr hs
     ·rw [e] at hr ⊢;exact zq hr hs
theorem vF {ts : List Ty} {k s : abL} {u : V} {t : abL} {N : Nat} (hN : 12 ≤ N) (hl : s.length ≤ 400) (h : rd ts N k s = some (u,t)) : cj ts k s = if t = [] ∧ V.deep u ≤ 12 then some u else none:=by
 unfold cj
 rw [if_pos hl]
 cases h12 : rd ts 12 k s with
 | none =>
  dsimp only
  rw [if_neg]
  rintro ⟨_,hd⟩
  have:=wG _ 12 k s _ h hd
  rw [h12] at this;cases this
 | some x =>
  have h1:=wF (m:=N) hN h12
  rw [h] at h1
  have hd:=kv _ _ _ _ h12
  obtain rfl:=Option.some.inj h1
  dsimp only at hd ⊢
  cases t with
  | nil=>dsimp only;rw [if_pos ⟨rfl,hd⟩]
  | cons c t=>dsimp only;rw [if_neg (fun h=>by cases h.1)]
theorem vG {ts : List Ty} {k s : abL} {N : Nat} (hN : 12 ≤ N) (hl : s.length ≤ 400) (h : rd ts N k s = none) : cj ts k s = none:=by
 unfold cj
 rw [if_pos hl]
 cases h12 : rd ts 12 k s with
 | none=>rfl
 | some x=>rw [wF (m:=N) hN h12] at h;cases h
theorem sO {b : Nat} {qs : List cx} {k s : abL} (hS : ScI G b qs) (hw : SchW (ak qs)) (hk : aP (ak qs) k = true) (hs : s.length ≤ 10000000) :
  bA abK 97 [Pt b 0,Ag (d4 k),S s] G (fun v G'=>(cj (ak qs) k s = none ∧ v = Tu [zP,Bo false]) ∨ ∃ u c,cj (ak qs) k s = some u ∧ v = Tu [Ag (b6 c),Bo true] ∧ V.rep G' u c):=by
 unfold d4
 by_cases hl : s.length ≤ 400
 case neg =>
  have hno : cj (ak qs) k s = none:=by unfold cj;rw [if_neg hl]
  refine jB [(0,_),(1,_),(2,_)] Tryz.func97 Tryz.ntmps97 fun B hok hB hW=>?_
  repeat' (first | refine jR ?_ | (refine jo ?_;first | refine jO fun _=>?_ | refine jL fun _=>?_ | refine jV (ao F F) ?_ | refine jC F F F ?_) | refine ac F (ay oM) ?_)
  all_goals refine jZ (vs:=[_,_]) F ⟨aE F F F F,F,trivial⟩ F ⟨Gh.le.refl _,F,?_⟩
  all_goals exact .inl ⟨hno,F⟩
 obtain ⟨N,hN⟩ : ∃ N,s.length + 12 ≤ N:=⟨_,Nat.le_refl _⟩
 have hN2 : 12 ≤ N:=oM
 have hV:=qj (sc:=b) hw N
 have cy_vl : ∀ {r : Nat},dh abK 133 [Pt r 0,Ag (d4 k)] G [dG r b s false] (gI (rd (ak qs) N k) r b s false):=fun {r}=>hV G r k s false hS hk oM oM
 refine jB [(0,_),(1,_),(2,_)] Tryz.func97 Tryz.ntmps97 fun B hok hB hW=>?_
 repeat' (first | refine jR ?_ | (refine jo ?_;first | refine jO fun _=>?_ | refine jL fun _=>?_ | refine jV (ao F F) ?_ | refine aG F ?_) | refine ad F (aC oM) ?_)
 refine jo ?_
 rename_i r
 refine dI F F F (cy_vl (r:=r)) F ?_
 rintro _ G1 _ hle ⟨u1,c1,t1,b1,rfl,hrep,rfl,hP⟩
 dsimp only [zA,fA]
 obtain ⟨hPl,hP0,hP1⟩:=hP
 cases b1 with
 | true =>
  have hno : cj (ak qs) k s = none:=vG hN2 hl (by rcases (hP1 rfl).1 with h | h;cases h;exact h)
  repeat' (first | refine jR ?_ | (refine jo ?_;first | refine jL fun _=>?_ | refine jV (ao F F) ?_ | refine jC F F F ?_ | refine aj F ?_ | refine aL F ?_) | refine aD F F F ?_ | refine ac F F ?_)
  all_goals refine jZ (vs:=[_,_]) F ⟨aE F F F F,F,trivial⟩ F ⟨hle,F,?_⟩
  all_goals exact .inl ⟨hno,F⟩
 | false =>
  have hrd:=(hP0 rfl).2
  have hof:=vF hN2 hl hrd
  have htt:=iG _ _ _ _ hrd
  dsimp only at htt
  by_cases ht : t1 = []
  case neg =>
   have hno : cj (ak qs) k s = none:=by rw [hof,if_neg (fun h=>ht h.1)]
   repeat' (first | refine jR ?_ | (refine jo ?_;first | refine jL fun _=>?_ | refine jV (ao F F) ?_ | refine jC F F F ?_ | refine aj F ?_ | refine aL F ?_ | refine av F ?_) | refine aD F F (ay ‹_›) ?_ | refine al F F F ?_ | refine ac F F ?_)
   all_goals refine jZ (vs:=[_,_]) F ⟨aE F F F F,F,trivial⟩ F ⟨hle,F,?_⟩
   all_goals exact .inl ⟨hno,F⟩
  have hnn : ¬ t1 ≠ []:=fun h=>h ht
  have cx_dp:=vn (G:=G1) u1.tot (Nat.le_refl _) oM hrep
  have hdt:=nq u1
  by_cases hd : V.deep u1 ≤ 12
  ·have hyes : cj (ak qs) k s = some u1:=by rw [hof,if_pos ⟨ht,hd⟩]
   repeat' (first | refine jR ?_ | (refine jo ?_;first | refine jL fun _=>?_ | refine jC F F F ?_ | refine aj F ?_ | refine aG F ?_ | refine av F ?_ | refine ab F F F cx_dp F ?_) | (refine al F F (by first | rfl | (refine decide_eq_false ?_;(assumption))) ?_) | refine ad F (aC oM) ?_)
   all_goals refine jZ (vs:=[_,_]) F ⟨aE F F F F,F,trivial⟩ F ⟨hle,F,?_⟩
   all_goals exact .inr ⟨u1,c1,hyes,F,hrep⟩
  ·have hno : cj (ak qs) k s = none:=by rw [hof,if_neg (fun h=>hd h.2)]
   repeat' (first | refine jR ?_ | (refine jo ?_;first | refine jL fun _=>?_ | refine jV (ao F F) ?_ | refine jC F F F ?_ | refine aj F ?_ | refine aG F ?_ | refine av F ?_ | refine ab F F F cx_dp F ?_) | (refine al F F (by first | rfl | (refine decide_eq_false ?_;(assumption))) ?_) | refine ac F (ay oM) ?_)
   all_goals refine jZ (vs:=[_,_]) F ⟨aE F F F F,F,trivial⟩ F ⟨hle,F,?_⟩
   all_goals exact .inl ⟨hno,F⟩
theorem mR {s k : abL} (h : bV s k = true) : ∃ ts,aN s = some ts ∧ aP ts k = true ∧ SchW ts:=by
 unfold bV at h
 cases h1 : aN s with
 | none=>rw [h1] at h;cases h
 | some ts=>rw [h1] at h;exact ⟨ts,F,h,cU h1⟩
def gR (s k v : abL) : Option V:=match aN s with
 | some ts=>if aP ts k = true then cj ts k v else none
 | none=>none
theorem wk {s k w : abL} (h : s.length ≤ 1048576 ∧ k.length ≤ 1048576 ∧ w.length ≤ 1048576) (hno : gR s k w = none) : bA abK 62 [S s,S k,S w] G (fun v _=>∃ p a b c,v = Tu [p,Ag [S a,S b,S c],zP,Bo false]):=by
 by_cases hk : bV s k = true
 case neg =>
  have cx_bo1 : ∀ G,bA abK 59 [S s,S k] G (fun v _=>∃ p a b c,v = Tu [p,Ag [S a,S b,S c],Bo false]):=fun G=>by
   refine (iY (G:=G) (s:=s) (k:=k) oM oM).mono ?_
   rintro v G' L' ⟨h1,h2,⟨_,p,a,b,c,rfl⟩ | ⟨b,qs,rfl,h4,h5,_⟩⟩
   ·exact ⟨h1,h2,p,a,b,c,F⟩
   ·exact absurd (by unfold bV;rw [h4];exact h5) hk
  refine jB [(0,_),(1,_),(2,_)] Tryz.func62 Tryz.ntmps62 fun B hok hB hW=>?_
  repeat' (first | refine jR ?_ | (refine jo ?_;first | refine jL fun _=>?_ | refine jC F F F ?_ | refine jV (ao F F) ?_ | (refine aJ F F F (cx_bo1 _) F ?_;rintro _ G hle ⟨p1,a1,b1,c1,rfl⟩;skip)) | refine ac F F ?_)
  all_goals refine jZ (vs:=[_,_,_,_]) F ⟨F,aE F F F F,aE F F F F,F,trivial⟩ F ⟨hle,F,?_⟩
  all_goals exact ⟨_,_,_,_,F⟩
 obtain ⟨ts,hs,hki,hw⟩:=mR hk
 have hvo : cj ts k w = none:=by unfold gR at hno;rw [hs] at hno;dsimp only at hno;rwa [if_pos hki] at hno
 have cx_boa : ∀ G,bA abK 59 [S s,S k] G (fun v G'=>∃ b qs,v = Tu [Pt b 0,Ag [S (sg k),S (bs k),S (nm k)],Bo true] ∧ ak qs = ts ∧ ScI G' b qs):=fun G=>by
  refine (iY (G:=G) (s:=s) (k:=k) oM oM).mono ?_
  rintro v G' L' ⟨h1,h2,⟨h4,_⟩ | ⟨b,qs,rfl,h4,h5,h6⟩⟩
  ·rw [h4] at hk;cases hk
  ·rw [hs] at h4;exact ⟨h1,h2,b,qs,F,(Option.some.inj h4).symm,h6⟩
 have cx_ri0 : ∀ G b qs,ak qs = ts → ScI G b qs → bA abK 97 [Pt b 0,Ag [S (sg k),S (bs k),S (nm k)],S w] G (fun v _=>v = Tu [zP,Bo false]):=fun G b qs hq hS=>by
  subst hq
  refine (sO (G:=G) (b:=b) (s:=w) hS hw hki oM).mono ?_
  rintro v G' L' ⟨h1,h2,⟨_,rfl⟩ | ⟨u,c,h4,_⟩⟩
  ·exact ⟨h1,h2,F⟩
  ·rw [hvo] at h4;cases h4
 refine jB [(0,_),(1,_),(2,_)] Tryz.func62 Tryz.ntmps62 fun B hok hB hW=>?_
 repeat' (first | refine jR ?_ | (refine jo ?_;first | refine jL fun _=>?_ | refine jC F F F ?_ | refine aG F ?_ | (refine aJ F F F (cx_boa _) F ?_;rintro _ G hle ⟨ba,qa,rfl,hT1,hR1⟩;skip) | (refine aJ F F F ((cx_ri0 _ _ _) (by (repeat (assumption));done) (by (repeat (assumption));done)) rfl ?_;rintro _ G hle rfl;skip)) | refine ad F F ?_ | (refine ai (dL (id:=5) (tt:=7) F ah ?_);refine jW 5 [0,3,4] (aa 8 25) ?_;(refine jG (aa 8 27) 1 F (bq F F F F) ?_);(refine jG (aa 8 31) 2 F (bq F F F F) ?_);refine jA 5 F ?_;(refine jC F F F ?_);refine jK (aa 8 63) ?_;refine jA 6 F ?_;(refine jC F F F ?_);refine jK (aa 8 127) ?_;refine jW 0 [7] (aa 8 255) ?_;refine jQ ?_))
 all_goals refine jZ (vs:=[_,_,_,_]) F ⟨F,aE F F F F,aE F F F F,F,trivial⟩ F ⟨(Gh.le.trans aS hle),F,?_⟩
 all_goals exact ⟨_,_,_,_,F⟩
theorem wj {s k w : abL} {u : V} {ts : List Ty} (h : s.length ≤ 1048576 ∧ k.length ≤ 1048576 ∧ w.length ≤ 1048576) (hs : aN s = some ts) (hki : aP ts k = true) (hvo : cj ts k w = some u) :
  bA abK 62 [S s,S k,S w] G (fun v G'=>∃ b qs cv,v = Tu [Pt b 0,Ag [S (sg k),S (bs k),S (nm k)],Ag (b6 cv),Bo true] ∧ ak qs = ts ∧ ScI G' b qs ∧ V.rep G' u cv):=by
 have hw:=cU hs
 have hk : bV s k = true:=by unfold bV;rw [hs];exact hki
 have cx_boa : ∀ G,bA abK 59 [S s,S k] G (fun v G'=>∃ b qs,v = Tu [Pt b 0,Ag [S (sg k),S (bs k),S (nm k)],Bo true] ∧ ak qs = ts ∧ ScI G' b qs):=fun G=>by
  refine (iY (G:=G) (s:=s) (k:=k) oM oM).mono ?_
  rintro v G' L' ⟨h1,h2,⟨h4,_⟩ | ⟨b,qs,rfl,h4,h5,h6⟩⟩
  ·rw [h4] at hk;cases hk
  ·rw [hs] at h4;exact ⟨h1,h2,b,qs,F,(Option.some.inj h4).symm,h6⟩
 have cx_ri1 : ∀ G b qs,ak qs = ts → ScI G b qs → bA abK 97 [Pt b 0,Ag [S (sg k),S (bs k),S (nm k)],S w] G (fun v G'=>∃ cv,v = Tu [Ag (b6 cv),Bo true] ∧ V.rep G' u cv):=fun G b qs hq hS=>by
  subst hq
  refine (sO (G:=G) (b:=b) (s:=w) hS hw hki oM).mono ?_
  rintro v G' L' ⟨h1,h2,⟨h4,_⟩ | ⟨u',c,h4,rfl,h5⟩⟩
  ·rw [hvo] at h4;cases h4
  ·rw [hvo] at h4;obtain rfl:=Option.some.inj h4;exact ⟨h1,h2,c,F,h5⟩
 refine jB [(0,_),(1,_),(2,_)] Tryz.func62 Tryz.ntmps62 fun B hok hB hW=>?_
 repeat' (first | refine jR ?_ | (refine jo ?_;first | refine jL fun _=>?_ | refine jC F F F ?_ | refine aG F ?_ | (refine aJ F F F (cx_boa _) F ?_;rintro _ G hle ⟨ba,qa,rfl,hT1,hR1⟩;skip) | (refine aJ F F F ((cx_ri1 _ _ _) (by (repeat (assumption));done) (by (repeat (assumption));done)) rfl ?_;rintro _ G hle ⟨cv,rfl,hrv⟩;skip)) | refine ad F F ?_)
 rename_i x7 x8 Ga hla x11 x13
 dsimp only [b6,VC.sl]
 (refine ai (an (id:=5) [.blk x13 (.cells (List.toArray [U8 (cv.what : Nat),S cv.text,I cv.tag,.slice cv.a cv.n cv.c]) g5 (0,0)),.blk x11 (.cells (List.toArray [S (sg k),S (bs k),S (nm k)]) tj (0,0))] (by intro y hy;simp only [List.mem_cons,List.not_mem_nil,or_false] at hy ⊢;rcases hy with hy | hy <;> simp [hy]) ah ?_);refine jW 5 [0,3,4] (aa 8 25) ?_;(refine jG (aa 8 27) 1 F (bq F F F F) ?_);(refine jG (aa 8 31) 2 F (bq F F F F) ?_);refine jA 5 F ?_;(refine jC F F F ?_);refine jK (aa 8 63) ?_;refine jA 6 F ?_;(refine jC F F F ?_);refine jK (aa 8 127) ?_;refine jW 0 [7] (aa 8 255) ?_;refine jQ ?_)
 all_goals repeat' (refine jR ?_)
 all_goals refine jZ (vs:=[_,_,_,_]) F ⟨F,aE F F F F,aE F F F F,F,trivial⟩ F ⟨(Gh.le.trans aS hle),F,?_⟩
 all_goals exact ⟨ba,qa,cv,F,hT1,hR1.mono hle,hrv⟩
def r9 (w : Nat) (x : abL) (t : Int) (ks : List V) : Prop :=
 (w = 110 ∧ ks = [] ∧ t = 0 ∧ ∃ n : Int,0 ≤ n ∧ n ≤ 999999 ∧ x = br n ∧ aM x 999999 = some n)
 ∨ (w = 116 ∧ ks = [] ∧ t = 0 ∧ cW (39 :: (x ++ [39])) = true)
 ∨ (w = 102 ∧ ks = [] ∧ t = 0 ∧ (x = [121,101,115] ∨ x = [110,111]))
 ∨ (w = 91 ∧ x = [] ∧ t = 0 ∧ ks.length ≤ 20 ∧ ∀ v ∈ ks,v.what ≠ 61)
 ∨ (w = 63 ∧ x = [] ∧ t = 0 ∧ ks.length ≤ 1 ∧ ∀ v ∈ ks,v.what ≠ 61)
 ∨ (w = 69 ∧ x = [] ∧ 0 ≤ t ∧ t ≤ 200 ∧ ks = [])
 ∨ (w = 85 ∧ x = [] ∧ 0 ≤ t ∧ t ≤ 200 ∧ ks.length = 1 ∧ ∀ v ∈ ks,v.what ≠ 61)
 ∨ (w = 61 ∧ x = [] ∧ 0 ≤ t ∧ t ≤ 200 ∧ ks.length = 1 ∧ ∀ v ∈ ks,v.what ≠ 61)
 ∨ (w = 82 ∧ x = [] ∧ t = 0 ∧ ks.Pairwise (fun a b=>a.tag < b.tag) ∧ ∀ v ∈ ks,v.what = 61)
mutual
def V.wf : V → Prop
 | .nd w x t ks=>r9 w x t ks ∧ V.wfs ks
def V.wfs : List V → Prop
 | []=>True
 | v :: r=>V.wf v ∧ V.wfs r
end
theorem md : ∀ {ks : List V},V.wfs ks ↔ ∀ v ∈ ks,v.wf
 | []=>by simp [V.wfs]
 | v :: r=>by rw [V.wfs,md (ks:=r)];simp
theorem sJ : ∀ (s : abL) {n m : Int},0 ≤ n → cO n s = some m → 0 ≤ m
 | [],n,m,h,e=>by simp only [cO,Option.some.injEq] at e;omega
 | c :: s,n,m,h,e=>by
  unfold cO at e
  split at e
  ·exact sJ s oM e
  ·cases e
theorem qE {s : abL} {top n : Int} (h : aM s top = some n) : 0 ≤ n:=by
 unfold aM at h
 split at h
 ·split at h
  ·split at h
   ·rename_i h1 _ _ _ h2;simp only [Option.some.injEq] at h;subst h;exact sJ _ (Int.le_refl 0) aS
   ·cases h
  ·cases h
 ·cases h
theorem kw {top : Int} {s r : abL} {n : Int} (h : b9 top s = some (n,r)) : 0 ≤ n ∧ n ≤ top ∧ aM (br n) top = some n:=by
 unfold b9 at h
 cases hn : aM (s.takeWhile aU) top with
 | none=>rw [hn] at h;cases h
 | some m =>
  rw [hn] at h
  simp only [Option.map_some,Option.some.injEq,Prod.mk.injEq] at h
  obtain ⟨rfl,_⟩:=h
  obtain ⟨h1,h2,_⟩:=dW hn
  exact ⟨qE hn,h1,by rw [← h2];exact hn⟩
theorem jx {f : abL → Option (V × abL)} : ∀ (m : Nat) (s : abL) (acc : List V) {x : List V × abL},a8 f m s acc = some x → x.1.length ≤ acc.length + m
 | 0,_,_,_,e=>by cases e
 | m + 1,s,acc,x,e=>by
  unfold a8 at e
  cases hf : f s with
  | none=>rw [hf] at e;cases e
  | some y =>
   rw [hf] at e
   obtain ⟨v,r⟩:=y
   cases r with
   | nil=>cases e
   | cons c r =>
    dsimp only at e
    split at e
    ·have:=jx m r _ e
     simp only [List.length_append,List.length_singleton] at this;omega
    ·split at e
     ·simp only [Option.some.injEq] at e;subst e
      simp only [List.length_append,List.length_singleton];omega
     ·cases e
theorem nW {f : abL → abL → Option (V × abL)} {t : Ty} {s : abL} {x : (Fld × V) × abL} (e : aO f t s = some x) : 0 ≤ x.1.1.tag ∧ x.1.1.tag ≤ 200:=by
 unfold aO at e
 cases hn : b9 200 s with
 | none=>rw [hn] at e;cases e
 | some y =>
  rw [hn] at e
  obtain ⟨n,r⟩:=y
  have h1:=kw hn
  dsimp only at e
  cases hd : bJ t.fields n with
  | none=>rw [hd] at e;cases e
  | some d =>
   rw [hd] at e
   have h2 : d.tag = n:=by have:=List.find?_some hd;simpa using this
   cases r with
   | nil=>cases e
   | cons c r' =>
    dsimp only at e
    by_cases hc : c.toNat = 61
    ·rw [if_pos hc] at e
     cases hf : f d.kind r' with
     | none=>rw [hf] at e;cases e
     | some y =>
      rw [hf] at e
      simp only [Option.map_some,Option.some.injEq] at e
      subst e
      dsimp only;omega
    ·rw [if_neg hc] at e;cases e
theorem pw {ts : List Ty} {f : abL → abL → Option (V × abL)} (h : ∀ k s y,f k s = some y → y.1.wf ∧ y.1.what ≠ 61) {t : Ty} : ∀ (m : Nat) (last : Int) (s : abL) (acc : List V) {x : List V × abL},bC ts f t m last s acc = some x → (∀ v ∈ acc,v.wf ∧ v.what = 61 ∧ v.tag ≤ last) → acc.Pairwise (fun a b=>a.tag < b.tag) → (∀ v ∈ x.1,v.wf ∧ v.what = 61) ∧ x.1.Pairwise (fun a b=>a.tag < b.tag)
 | 0,_,_,_,_,e,_,_=>by cases e
 | m + 1,last,s,acc,x,e,ha,hp=>by
  unfold bC at e
  cases hf : aO f t s with
  | none=>rw [hf] at e;cases e
  | some y =>
   rw [hf] at e
   obtain ⟨_,s',hy⟩:=eQ hf
   have ht:=nW hf
   obtain ⟨⟨d,v⟩,r⟩:=y
   dsimp only at e hy ht
   obtain ⟨hv1,hv2⟩:=h _ _ _ hy
   dsimp only at hv1 hv2
   split at e
   ·cases e
   ·rename_i hd
    have hd' : last < d.tag:=oM
    have hw : V.wf (.nd 61 [] d.tag [v]):=by
     rw [V.wf]
     refine ⟨.inr (.inr (.inr (.inr (.inr (.inr (.inr (.inl ⟨F,F,ht.1,ht.2,F,?_⟩))))))),?_,trivial⟩
     ·intro u hu;simp only [List.mem_singleton] at hu;subst hu;exact hv2
     ·exact hv1
    have ha2 : ∀ u ∈ acc ++ [V.nd 61 [] d.tag [v]],u.wf ∧ u.what = 61 ∧ u.tag ≤ d.tag:=fun u hu=>by
     rcases List.mem_append.1 hu with hu | hu
     ·obtain ⟨a1,a2,a3⟩:=ha u hu;exact ⟨a1,a2,oM⟩
     ·simp only [List.mem_singleton] at hu;subst hu;exact ⟨hw,F,Int.le_refl _⟩
    have hp2 : (acc ++ [V.nd 61 [] d.tag [v]]).Pairwise (fun a b=>a.tag < b.tag):=by
     rw [List.pairwise_append]
     refine ⟨hp,List.pairwise_singleton _ _,fun a hA b hB=>?_⟩
     simp only [List.mem_singleton] at hB;subst hB
     have:=(ha a hA).2.2
     show a.tag < d.tag
     omega
    cases r with
    | nil=>cases e
    | cons c r =>
     dsimp only at e
     split at e
     ·exact pw h m _ r _ e ha2 hp2
     ·split at e
      ·simp only [Option.some.injEq] at e;subst e
       exact ⟨fun u hu=>⟨(ha2 u hu).1,(ha2 u hu).2.1⟩,hp2⟩
      ·cases e
theorem wD {ts : List Ty} : ∀ (n : Nat) (k s : abL) (x : V × abL),rd ts n k s = some x → x.1.wf ∧ x.1.what ≠ 61
 | 0,_,_,_,e=>by cases e
 | n + 1,k,s,x,e=>by
  have ih : ∀ k s y,rd ts n k s = some y → y.1.wf ∧ y.1.what ≠ 61:=fun k s y hy=>wD n k s y hy
  have h:=oZ k s (x:=x) e
  obtain ⟨v,r⟩:=x
  dsimp only at h ⊢
  cases h with
  | lst0=>exact ⟨by rw [V.wf];exact ⟨.inr (.inr (.inr (.inl ⟨F,F,F,by simp,by simp⟩))),trivial⟩,by simp [V.what]⟩
  | lst k s r vs h =>
   have h1:=jx _ _ _ h
   have h2:=gK (p:=fun v=>v.wf ∧ v.what ≠ 61) (fun s y hy=>ih k s y hy) _ _ _ h (by simp)
   refine ⟨by rw [V.wf];exact ⟨.inr (.inr (.inr (.inl ⟨F,F,F,by simpa using h1,fun v hv=>(h2 v hv).2⟩))),md.2 fun v hv=>(h2 v hv).1⟩,by simp [V.what]⟩
  | non=>exact ⟨by rw [V.wf];exact ⟨.inr (.inr (.inr (.inr (.inl ⟨F,F,F,by simp,by simp⟩)))),trivial⟩,by simp [V.what]⟩
  | opt k s r v h =>
   have h1:=ih _ _ _ h
   have h2 : ∀ u ∈ [v],u.what ≠ 61:=fun u hu=>by simp only [List.mem_singleton] at hu;subst hu;exact h1.2
   exact ⟨by rw [V.wf];exact ⟨.inr (.inr (.inr (.inr (.inl ⟨F,F,F,by simp,h2⟩)))),h1.1,trivial⟩,by simp [V.what]⟩
  | num k s r n _ h =>
   have h1:=kw h
   exact ⟨by rw [V.wf];exact ⟨.inl ⟨F,F,F,n,h1.1,h1.2.1,F,h1.2.2⟩,trivial⟩,by simp [V.what]⟩
  | txt k s r v _ h =>
   unfold c7 at h
   split at h
   ·cases h
   ·split at h
    ·split at h
     ·split at h
      ·rename_i hx
       simp only [Option.some.injEq,Prod.mk.injEq] at h
       obtain ⟨rfl,_⟩:=h
       exact ⟨by rw [V.wf];exact ⟨.inr (.inl ⟨F,F,F,hx⟩),trivial⟩,by simp [V.what]⟩
      ·cases h
     ·cases h
    ·cases h
  | flg k s r v _ h =>
   unfold dM at h
   split at h
   ·simp only [Option.some.injEq,Prod.mk.injEq] at h
    obtain ⟨rfl,_⟩:=h
    exact ⟨by rw [V.wf];exact ⟨.inr (.inr (.inl ⟨F,F,F,.inl F⟩)),trivial⟩,by simp [V.what]⟩
   ·split at h
    ·simp only [Option.some.injEq,Prod.mk.injEq] at h
     obtain ⟨rfl,_⟩:=h
     exact ⟨by rw [V.wf];exact ⟨.inr (.inr (.inl ⟨F,F,F,.inr F⟩)),trivial⟩,by simp [V.what]⟩
    ·cases h
  | recd0=>exact ⟨by rw [V.wf];exact ⟨.inr (.inr (.inr (.inr (.inr (.inr (.inr (.inr ⟨F,F,F,by simp,by simp⟩))))))),trivial⟩,by simp [V.what]⟩
  | recd k s r t vs _ _ h =>
   have h1:=pw ih _ _ _ _ h (by simp) (by simp)
   exact ⟨by rw [V.wf];exact ⟨.inr (.inr (.inr (.inr (.inr (.inr (.inr (.inr ⟨F,F,F,h1.2,fun v hv=>(h1.1 v hv).2⟩))))))),md.2 fun v hv=>(h1.1 v hv).1⟩,by simp [V.what]⟩
  | enm k s r t n _ _ h _ =>
   have h1:=kw h
   exact ⟨by rw [V.wf];exact ⟨.inr (.inr (.inr (.inr (.inr (.inl ⟨F,F,h1.1,h1.2.1,F⟩))))),trivial⟩,by simp [V.what]⟩
  | uni k s r t d v _ _ _ h =>
   obtain ⟨_,s',hy⟩:=eQ h
   have ht:=nW h
   have h1:=ih _ _ _ hy
   have h2 : ∀ u ∈ [v],u.what ≠ 61:=fun u hu=>by simp only [List.mem_singleton] at hu;subst hu;exact h1.2
   exact ⟨by rw [V.wf];exact ⟨.inr (.inr (.inr (.inr (.inr (.inr (.inl ⟨F,F,ht.1,ht.2,F,h2⟩)))))),h1.1,trivial⟩,by simp [V.what]⟩
theorem qi {ts : List Ty} {k s : abL} {v : V} (h : cj ts k s = some v) : v.wf ∧ v.what ≠ 61:=by
 unfold cj at h
 split at h
 ·split at h
  ·rename_i hr
   simp only [Option.some.injEq] at h;subst h
   exact wD _ _ _ _ hr
  ·cases h
 ·cases h
def fT (w : Nat) (x : abL) (t : Int) (k : Nat) (j : abL) : abL :=
 if w = 110 then bi ((aM x 999999).getD 0) else if w = 116 then bi x.length ++ x else if w = 102 then (if x = [121,101,115] then [1] else [0])
 else if w = 91 then bi k ++ j else if w = 63 then (if k = 0 then [0] else 1 :: j) else if w = 69 then bi t
 else if w = 85 ∨ w = 61 then bi t ++ (bi j.length ++ j) else j ++ [0]
mutual
def V.bys : V → abL
 | .nd w x t ks=>fT w x t ks.length (V.byss ks).flatten
def V.byss : List V → List abL
 | []=>[]
 | v :: r=>V.bys v :: V.byss r
end
theorem e8 (n : Int) : 1 ≤ (bi n).length:=by
 unfold bi
 rw [num]
 split <;> simp
theorem ld : ∀ ks : List V,V.byss ks = ks.map V.bys
 | []=>rfl
 | v :: r=>by rw [V.byss,ld r];rfl
theorem gH (ks : List V) : (V.byss ks).length = ks.length:=by rw [ld];simp
theorem wq {ks : List V} {i : Nat} (h : i < ks.length) : ae (V.byss ks) i = (ae ks i).bys:=by
 rw [ld,a6 (by simpa using h),a6 h];simp
theorem uz {x : abL} {top : Int} (h : 0 ≤ top) : 0 ≤ (aM x top).getD 0 ∧ (aM x top).getD 0 ≤ top:=by
 cases hn : aM x top with
 | none=>exact ⟨Int.le_refl _,h⟩
 | some n=>exact ⟨qE hn,(dW hn).1⟩
theorem wr {w : Nat} {x : abL} {t : Int} {k : Nat} {j : abL} (ht : t ≤ 999999) (hx : x.length ≤ 999999) (hk : k ≤ 999999) (hj : j.length ≤ 999999) : 1 ≤ (fT w x t k j).length ∧ (fT w x t k j).length ≤ 6 + x.length + j.length:=by
 have h0:=uz (x:=x) (top:=999999) dC
 have h1:=cd (n:=(aM x 999999).getD 0) h0.2
 have h2:=cd (n:=x.length) oM
 have h3:=cd (n:=k) oM
 have h4:=cd ht
 have h5:=cd (n:=j.length) oM
 have g1:=e8 ((aM x 999999).getD 0)
 have g2:=e8 x.length
 have g3:=e8 k
 have g4:=e8 t
 unfold fT
 repeat' split
 all_goals ((try simp only [List.length_append,List.length_cons,List.length_nil]);omega)
theorem oS {w : Nat} {x : abL} {t : Int} {ks : List V} (h : r9 w x t ks) : 0 ≤ t ∧ t ≤ 200:=by
 unfold r9 at h
 omega
mutual
theorem iy : ∀ v : V,v.wf → v.tot ≤ 999999 → 1 ≤ v.bys.length ∧ v.bys.length ≤ v.tot
 | .nd w x t ks,hw,hl=>by
  rw [V.wf] at hw
  rw [V.tot] at hl
  have h0:=dT ks
  have h1:=gW ks hw.2 oM
  have h2:=wr (w:=w) (x:=x) (t:=t) (k:=ks.length) (j:=(V.byss ks).flatten) (by have:=oS hw.1;omega) oM oM oM
  rw [V.bys,V.tot];omega
theorem gW : ∀ ks : List V,V.wfs ks → V.tots ks ≤ 999999 → (V.byss ks).flatten.length ≤ V.tots ks
 | [],_,_=>by simp [V.byss]
 | v :: r,hw,hl=>by
  rw [V.wfs] at hw
  rw [V.tots] at hl
  have h1:=iy v hw.1 oM
  have h2:=gW r hw.2 oM
  simp only [V.byss,List.flatten_cons,List.length_append,V.tots];omega
end
theorem ji {ks : List V} {i : Nat} (h : i < ks.length) : ((V.byss ks).take (i + 1)).flatten = ((V.byss ks).take i).flatten ++ (ae ks i).bys:=by
 rw [dK (by rw [gH];exact h),wq h];simp
theorem jh (ks : List V) (i : Nat) : (((V.byss ks).take i).flatten).length ≤ (V.byss ks).flatten.length:=by
 have h:=List.take_append_drop i (V.byss ks)
 have h2 : (V.byss ks).flatten = ((V.byss ks).take i).flatten ++ ((V.byss ks).drop i).flatten:=by rw [← List.flatten_append,h]
 rw [h2];simp
theorem qh {ks : List V} (h : V.wfs ks) {i : Nat} (hi : i < ks.length) : (ae ks i).wf:=by
 rw [a6 hi];exact md.1 h _ (List.getElem_mem hi)
abbrev cN (p : Fld × V) : V:=.nd 61 [] p.1.tag [p.2]
inductive OfK (ts : List Ty) : abL → V → Prop
 | num (k : abL) (n : Int) : 0 ≤ n → n ≤ 999999 → OfK ts (110 :: k) (.nd 110 (br n) 0 [])
 | txt (k x : abL) : cW (39 :: (x ++ [39])) = true → OfK ts (116 :: k) (.nd 116 x 0 [])
 | flg (k x : abL) : x = [121,101,115] ∨ x = [110,111] → OfK ts (102 :: k) (.nd 102 x 0 [])
 | lst (k : abL) (ks : List V) : ks.length ≤ 20 → (∀ v ∈ ks,OfK ts k v) → OfK ts (91 :: k) (.nd 91 [] 0 ks)
 | non (k : abL) : OfK ts (63 :: k) (.nd 63 [] 0 [])
 | opt (k : abL) (v : V) : OfK ts k v → OfK ts (63 :: k) (.nd 63 [] 0 [v])
 | recd (k : abL) (t : Ty) (fs : List (Fld × V)) : aV ts k = some t → t.sort = 82 → (∀ p ∈ fs,p.1 ∈ t.fields) → (∀ p ∈ fs,OfK ts p.1.kind p.2) → (∀ p ∈ fs,p.2.out ≠ cL ts p.1) → fs.Pairwise (fun a b=>a.1.tag < b.1.tag) → OfK ts k (.nd 82 [] 0 (fs.map cN))
 | enm (k : abL) (t : Ty) (d : Fld) : aV ts k = some t → t.sort = 69 → d ∈ t.fields → OfK ts k (.nd 69 [] d.tag [])
 | uni (k : abL) (t : Ty) (d : Fld) (v : V) : aV ts k = some t → t.sort ≠ 82 → t.sort ≠ 69 → d ∈ t.fields → OfK ts d.kind v → OfK ts k (.nd 85 [] d.tag [v])
theorem px {ts : List Ty} {f : abL → abL → Option (V × abL)} (h : ∀ k s y,f k s = some y → OfK ts k y.1) {t : Ty} : ∀ (m : Nat) (last : Int) (s : abL) (fs : List (Fld × V)) {x : List V × abL},bC ts f t m last s (fs.map cN) = some x → (∀ p ∈ fs,p.1 ∈ t.fields ∧ OfK ts p.1.kind p.2 ∧ p.2.out ≠ cL ts p.1 ∧ p.1.tag ≤ last) → fs.Pairwise (fun a b=>a.1.tag < b.1.tag) →
  ∃ gs : List (Fld × V),x.1 = gs.map cN ∧ (∀ p ∈ gs,p.1 ∈ t.fields ∧ OfK ts p.1.kind p.2 ∧ p.2.out ≠ cL ts p.1) ∧ gs.Pairwise (fun a b=>a.1.tag < b.1.tag)
 | 0,_,_,_,_,e,_,_=>by cases e
 | m + 1,last,s,fs,x,e,ha,hp=>by
  unfold bC at e
  cases hf : aO f t s with
  | none=>rw [hf] at e;cases e
  | some y =>
   rw [hf] at e
   obtain ⟨hd1,s',hy⟩:=eQ hf
   obtain ⟨⟨d,v⟩,r⟩:=y
   dsimp only at e hy hd1
   have hv:=h _ _ _ hy
   dsimp only at hv
   split at e
   ·cases e
   ·rename_i hd
    have hd' : last < d.tag:=oM
    have hne : v.out ≠ cL ts d:=fun h=>hd (.inr h)
    have e2 : fs.map cN ++ [V.nd 61 [] d.tag [v]] = (fs ++ [(d,v)]).map cN:=by simp
    have ha2 : ∀ p ∈ fs ++ [(d,v)],p.1 ∈ t.fields ∧ OfK ts p.1.kind p.2 ∧ p.2.out ≠ cL ts p.1 ∧ p.1.tag ≤ d.tag:=fun p hu=>by
     rcases List.mem_append.1 hu with hu | hu
     ·obtain ⟨a1,a2,a3,a4⟩:=ha p hu;exact ⟨a1,a2,a3,oM⟩
     ·simp only [List.mem_singleton] at hu;subst hu;exact ⟨hd1,hv,hne,Int.le_refl _⟩
    have hp2 : (fs ++ [(d,v)]).Pairwise (fun a b=>a.1.tag < b.1.tag):=by
     rw [List.pairwise_append]
     refine ⟨hp,List.pairwise_singleton _ _,fun a hA b hB=>?_⟩
     simp only [List.mem_singleton] at hB;subst hB
     have:=(ha a hA).2.2.2
     show a.1.tag < d.tag
     omega
    rw [e2] at e
    cases r with
    | nil=>cases e
    | cons c r =>
     dsimp only at e
     split at e
     ·exact px h m _ r _ e ha2 hp2
     ·split at e
      ·simp only [Option.some.injEq] at e;subst e
       exact ⟨_,F,fun p hp=>⟨(ha2 p hp).1,(ha2 p hp).2.1,(ha2 p hp).2.2.1⟩,hp2⟩
      ·cases e
theorem wE {ts : List Ty} : ∀ (n : Nat) (k s : abL) (x : V × abL),rd ts n k s = some x → OfK ts k x.1
 | 0,_,_,_,e=>by cases e
 | n + 1,k,s,x,e=>by
  have ih : ∀ k s y,rd ts n k s = some y → OfK ts k y.1:=fun k s y hy=>wE n k s y hy
  have h:=oZ k s (x:=x) e
  obtain ⟨v,r⟩:=x
  dsimp only at h ⊢
  cases h with
  | lst0=>exact .lst _ _ (by simp) (by simp)
  | lst k s r vs h =>
   have h1:=jx _ _ _ h
   exact .lst _ _ (by simpa using h1) (gK (p:=fun v=>OfK ts k v) (fun s y hy=>ih k s y hy) _ _ _ h (by simp))
  | non=>exact .non _
  | opt k s r v h=>exact .opt _ _ (ih _ _ _ h)
  | num k s r n _ h=>have h1:=kw h;exact .num _ _ h1.1 h1.2.1
  | txt k s r v _ h =>
   unfold c7 at h
   split at h
   ·cases h
   ·split at h
    ·split at h
     ·split at h
      ·rename_i hx
       simp only [Option.some.injEq,Prod.mk.injEq] at h
       obtain ⟨rfl,_⟩:=h
       exact .txt _ _ hx
      ·cases h
     ·cases h
    ·cases h
  | flg k s r v _ h =>
   unfold dM at h
   split at h
   ·simp only [Option.some.injEq,Prod.mk.injEq] at h
    obtain ⟨rfl,_⟩:=h
    exact .flg _ _ (.inl F)
   ·split at h
    ·simp only [Option.some.injEq,Prod.mk.injEq] at h
     obtain ⟨rfl,_⟩:=h
     exact .flg _ _ (.inr F)
    ·cases h
  | recd0 k r t h1 h2=>exact .recd _ t [] h1 h2 (by simp) (by simp) (by simp) (by simp)
  | recd k s r t vs h1 h2 h =>
   obtain ⟨gs,e1,e2,e3⟩:=px (fs:=[]) ih _ _ _ h (by simp) (by simp)
   dsimp only at e1
   subst e1
   exact .recd _ t gs h1 h2 (fun p hp=>(e2 p hp).1) (fun p hp=>(e2 p hp).2.1) (fun p hp=>(e2 p hp).2.2) e3
  | enm k s r t n h1 h2 h h3 =>
   obtain ⟨d,hd⟩:=Option.isSome_iff_exists.1 h3
   have hdt : d.tag = n:=by have:=List.find?_some hd;simpa using this
   rw [← hdt]
   exact .enm _ t d h1 h2 (List.mem_of_find?_eq_some hd)
  | uni k s r t d v h1 h2 h3 h =>
   obtain ⟨a1,s',hy⟩:=eQ h
   exact .uni _ t d v h1 h2 h3 a1 (ih _ _ _ hy)
theorem td {ts : List Ty} {k s : abL} {v : V} (h : cj ts k s = some v) : OfK ts k v:=by
 unfold cj at h
 split at h
 ·split at h
  ·rename_i hr
   simp only [Option.some.injEq] at h;subst h
   exact wE _ _ _ _ hr
  ·cases h
 ·cases h
theorem xF {t : Ty} (hw : TyW t) {d d' : Fld} (h1 : d ∈ t.fields) (h2 : d' ∈ t.fields) (he : d.tag = d'.tag) : d = d':=by
 have hp:=hw.asc
 obtain ⟨i,hi,rfl⟩:=List.mem_iff_getElem.1 h1
 obtain ⟨j,hj,rfl⟩:=List.mem_iff_getElem.1 h2
 rw [List.pairwise_iff_getElem] at hp
 rcases Nat.lt_trichotomy i j with h | h | h
 ·have:=(hp i j hi hj h).1;omega
 ·subst h;rfl
 ·have:=(hp j i hj hi h).1;omega
theorem eP {ts : List Ty} {k : abL} {t : Ty} {c : UInt8} {r : abL} (h : aV ts k = some t) (hk : k = c :: r) (hc : c.toNat ≠ 64) : False:=by
 subst hk
 have : bE (c :: r) = none:=by unfold bE;exact if_neg hc
 unfold aV at h
 rw [this] at h
 cases h
theorem ue {i : Int} (h : 0 ≤ i ∧ i ≤ 9) : (u8 (48 + i)).toNat = (48 + i).toNat:=by have:=ep (a:=48 + i) oM;omega
theorem pT : ∀ (s : abL) {n m : Int} {c : UInt8},cO n s = some m → 48 ≤ c.toNat ∧ c.toNat ≤ 57 → cO n (s ++ [c]) = some (10 * m + ((c.toNat : Int) - 48))
 | [],n,m,c,h,hc=>by simp only [cO,Option.some.injEq] at h;subst h;simp only [List.nil_append,cO,if_pos hc]
 | d :: s,n,m,c,h,hc=>by
  unfold cO at h
  split at h
  ·rename_i hd
   have:=pT s h hc
   simp only [List.cons_append]
   unfold cO
   rw [if_pos hd];exact this
  ·cases h
theorem jj : ∀ (k : Nat) {m : Int},m.toNat ≤ k → 0 ≤ m → cO 0 (br m) = some m ∧ ∀ c ∈ br m,aU c = true:=by
 intro k
 induction k with
 | zero =>
  intro m hk h0
  have : m = 0:=oM
  subst this
  rw [dw dC dC]
  exact ⟨by decide,by intro c hc;simp only [List.mem_singleton] at hc;subst hc;decide⟩
 | succ k ih =>
  intro m hk h0
  by_cases h : m < 10
  ·have hd:=ue (i:=m) oM
   have hd2 : aU (u8 (48 + m)) = true:=by unfold aU;rw [decide_eq_true_eq];omega
   rw [dw h h0]
   refine ⟨?_,fun c hc=>by simp only [List.mem_singleton] at hc;subst hc;exact hd2⟩
   unfold cO cO
   rw [if_pos oM];congr 1;omega
  ·obtain ⟨h1,h2⟩:=ih (m:=m / 10) oM oM
   have hd:=ue (i:=m % 10) oM
   have hd2 : aU (u8 (48 + m % 10)) = true:=by unfold aU;rw [decide_eq_true_eq];omega
   rw [iu h]
   refine ⟨by rw [pT _ h1 oM];congr 1;omega,fun c hc=>?_⟩
   rcases List.mem_append.1 hc with hc | hc
   ·exact h2 c hc
   ·simp only [List.mem_singleton] at hc;subst hc;exact hd2
theorem uV {m : Int} (h : m ≤ 999999) : (br m).length ≤ 6:=sK _ 5 oM
theorem oc {m top : Int} (h0 : 0 ≤ m) (h1 : m ≤ top) (ht : top ≤ 999999) : aM (br m) top = some m:=by
 unfold aM
 rw [if_pos (uV oM),(jj _ (Nat.le_refl _) h0).1]
 dsimp only
 rw [if_pos ⟨rfl,h1⟩]
def Dl (s : abL) : Prop:=∀ c r,s = c :: r → aU c = false
theorem it {c : UInt8} {r : abL} (h : aU c = false) : Dl (c :: r):=fun d s e=>by injection e with e1 e2;subst e1;exact h
theorem qZ : Dl []:=fun _ _ e=>by cases e
theorem aaD : ∀ {s : abL},Dl s → s.takeWhile aU = [] ∧ s.dropWhile aU = s
 | [],_=>⟨rfl,rfl⟩
 | c :: r,h=>by have:=h c r rfl;rw [List.takeWhile_cons,List.dropWhile_cons,this];exact ⟨F,F⟩
theorem uf {p : UInt8 → Bool} : ∀ {s r : abL},(∀ c ∈ s,p c = true) → (s ++ r).takeWhile p = s ++ r.takeWhile p ∧ (s ++ r).dropWhile p = r.dropWhile p
 | [],_,_=>⟨rfl,rfl⟩
 | c :: s,r,h=>by
  obtain ⟨h1,h2⟩:=uf (s:=s) (r:=r) fun d hd=>h d (by simp [hd])
  have:=h c (by simp)
  rw [List.cons_append,List.takeWhile_cons,List.dropWhile_cons,this,if_pos rfl,if_pos rfl,h1,h2];exact ⟨F,F⟩
theorem m9 {m top : Int} {r : abL} (h0 : 0 ≤ m) (h1 : m ≤ top) (ht : top ≤ 999999) (hr : Dl r) : b9 top (br m ++ r) = some (m,r):=by
 obtain ⟨e1,e2⟩:=uf (r:=r) (jj _ (Nat.le_refl _) h0).2
 obtain ⟨e3,e4⟩:=aaD hr
 unfold b9
 rw [e1,e2,e3,e4,List.append_nil,oc h0 h1 ht];rfl
theorem aaa {x : abL} (h : cW (39 :: (x ++ [39])) = true) : ∀ j,j < x.length → bt x j ≠ 39:=by
 intro j hj e
 unfold cW at h
 rw [decide_eq_true_eq] at h
 have h1:=h.2.2.2 (j + 1) (by simp;omega)
 rw [dJ] at h1
 have h2 : bt (x ++ [39]) j = bt x j:=by simp [bt,List.getD,List.getElem?_append_left hj]
 rw [h2,e] at h1
 rcases h1 with h1 | h1
 ·omega
 ·exact absurd h1 dC
theorem tu {x r : abL} (h : cW (39 :: (x ++ [39])) = true) : c7 (39 :: (x ++ 39 :: r)) = some (.nd 116 x 0 [],r):=by
 have hc : aF 39 (x ++ 39 :: r) = (x,r,true):=by
  have h1:=mq (k:=39) (s:=x ++ 39 :: r) (i:=x.length) (by simp) (fun j hj=>by
   have:=aaa h j hj
   have h2 : bt (x ++ 39 :: r) j = bt x j:=by simp [bt,List.getD,List.getElem?_append_left hj]
   rw [h2];exact this) (by simp [bt,List.getD])
  rw [h1]
  congr 1
  ·exact List.take_left
  ·congr 1
   rw [show x.length + 1 = (x ++ [39]).length by simp,show x ++ 39 :: r = (x ++ [39]) ++ r by simp,List.drop_left]
 unfold c7
 dsimp only
 rw [if_pos dC,hc]
 dsimp only
 rw [if_pos h]
theorem ur {x r : abL} (h : x = [121,101,115] ∨ x = [110,111]) : dM (x ++ r) = some (.nd 102 x 0 [],r):=by
 unfold dM
 rcases h with rfl | rfl
 ·rw [if_pos (by simp [List.isPrefixOf])];rfl
 ·rw [if_neg (by simp [List.isPrefixOf]),if_pos (by simp [List.isPrefixOf])];rfl
theorem nQ {f : abL → Option (V × abL)} {rest : abL} : ∀ (ks : List V) (m : Nat) (acc : List V),ks ≠ [] → ks.length ≤ m → (∀ v ∈ ks,∀ r,Dl r → f (v.out ++ r) = some (v,r)) → a8 f m (aQ 44 (ks.map V.out) ++ 93 :: rest) acc = some (acc ++ ks,rest)
 | [],_,_,h,_,_=>absurd rfl h
 | [v],m,acc,_,hm,hf=>by
  obtain ⟨m,rfl⟩ : ∃ n,m = n + 1:=⟨m - 1,by simp at hm;omega⟩
  unfold a8
  simp only [List.map_cons,List.map_nil,aQ]
  rw [hf v (by simp) _ (it dC)]
  dsimp only
  rw [if_neg dC,if_pos dC]
 | v :: u :: ks,m,acc,_,hm,hf=>by
  obtain ⟨m,rfl⟩ : ∃ n,m = n + 1:=⟨m - 1,by simp at hm;omega⟩
  have ih:=nQ (rest:=rest) (u :: ks) m (acc ++ [v]) (by simp) (by simp at hm ⊢;omega) fun w hw=>hf w (by simp [hw])
  unfold a8
  simp only [List.map_cons,aQ,List.append_assoc,List.cons_append] at ih ⊢
  rw [hf v (by simp) _ (it dC)]
  dsimp only
  rw [if_pos dC,ih]
  simp
theorem iL {t : Ty} (hw : TyW t) {d : Fld} (h : d ∈ t.fields) : bJ t.fields d.tag = some d:=by
 cases e : bJ t.fields d.tag with
 | none=>have:=(List.find?_eq_none.1 e) d h;simp at this
 | some d' =>
  have h1 : d'.tag = d.tag:=by have:=List.find?_some e;simpa using this
  rw [xF hw (List.mem_of_find?_eq_some e) h h1]
theorem kx {f : abL → abL → Option (V × abL)} {t : Ty} (hw : TyW t) {d : Fld} {v : V} {r : abL} (h : d ∈ t.fields) (hf : f d.kind (v.out ++ r) = some (v,r)) : aO f t (br d.tag ++ 61 :: (v.out ++ r)) = some ((d,v),r):=by
 have ht:=(hw.fld d h).tag
 unfold aO
 rw [m9 oM ht.2 dC (it dC)]
 dsimp only
 rw [iL hw h]
 dsimp only
 rw [if_pos dC,hf];rfl
theorem py {ts : List Ty} {f : abL → abL → Option (V × abL)} {t : Ty} (hw : TyW t) {rest : abL} : ∀ (fs : List (Fld × V)) (m : Nat) (last : Int) (acc : List V),fs ≠ [] → fs.length ≤ m → (∀ p ∈ fs,p.1 ∈ t.fields ∧ p.2.out ≠ cL ts p.1 ∧ last < p.1.tag ∧ ∀ r,Dl r → f p.1.kind (p.2.out ++ r) = some (p.2,r)) → fs.Pairwise (fun a b=>a.1.tag < b.1.tag) →
  bC ts f t m last (aQ 44 ((fs.map cN).map V.out) ++ 125 :: rest) acc = some (acc ++ fs.map cN,rest)
 | [],_,_,_,h,_,_,_=>absurd rfl h
 | [p],m,last,acc,_,hm,hf,_=>by
  obtain ⟨m,rfl⟩ : ∃ n,m = n + 1:=⟨m - 1,by simp at hm;omega⟩
  obtain ⟨h1,h2,h3,h4⟩:=hf p (by simp)
  unfold bC
  simp only [List.map_cons,List.map_nil,aQ,cN,fZ,List.append_assoc,List.cons_append]
  rw [kx hw h1 (h4 _ (it dC))]
  dsimp only
  rw [if_neg (by rintro (h | h);omega;exact h2 h),if_neg dC,if_pos dC]
 | p :: q :: fs,m,last,acc,_,hm,hf,hp=>by
  obtain ⟨m,rfl⟩ : ∃ n,m = n + 1:=⟨m - 1,by simp at hm;omega⟩
  obtain ⟨h1,h2,h3,h4⟩:=hf p (by simp)
  rw [List.pairwise_cons] at hp
  have ih:=py (ts:=ts) (f:=f) hw (rest:=rest) (q :: fs) m p.1.tag (acc ++ [cN p]) (by simp) (by simp at hm ⊢;omega) (fun w hw=>⟨(hf w (by simp [hw])).1,(hf w (by simp [hw])).2.1,hp.1 w hw,(hf w (by simp [hw])).2.2.2⟩) hp.2
  unfold bC
  simp only [List.map_cons,aQ,fZ,List.append_assoc,List.cons_append] at ih ⊢
  rw [kx hw h1 (h4 _ (it dC))]
  dsimp only
  rw [if_neg (by rintro (h | h);omega;exact h2 h),if_pos dC,ih]
  simp
theorem pU {m : Int} (h : 0 ≤ m) : ∃ c r,br m = c :: r ∧ aU c = true:=by
 cases e : br m with
 | nil=>have:=iN m;rw [e] at this;simp at this
 | cons c r=>exact ⟨c,r,F,(jj _ (Nat.le_refl _) h).2 c (by rw [e];simp)⟩
theorem wU {c : UInt8} (h : aU c = true) : 48 ≤ c.toNat ∧ c.toNat ≤ 57:=by unfold aU at h;rwa [decide_eq_true_eq] at h
theorem vS {ts : List Ty} {k : abL} {v : V} (h : OfK ts k v) : ∃ c r,v.out = c :: r ∧ c.toNat ≠ 93:=by
 cases h with
 | num k n h1 h2=>obtain ⟨c,r,e,hc⟩:=pU h1;have:=wU hc;exact ⟨c,r,by rw [V.out];exact e,oM⟩
 | txt k x=>exact ⟨39,_,by rw [V.out];rfl,by decide⟩
 | flg k x h=>rcases h with rfl | rfl;exact ⟨121,_,by rw [V.out];rfl,by decide⟩;exact ⟨110,_,by rw [V.out];rfl,by decide⟩
 | lst=>exact ⟨91,_,by rw [V.out];rfl,by decide⟩
 | non=>exact ⟨45,_,by rw [V.out];rfl,by decide⟩
 | opt=>exact ⟨43,_,by rw [V.out];rfl,by decide⟩
 | recd=>exact ⟨123,_,by rw [V.out];rfl,by decide⟩
 | enm=>exact ⟨35,_,by rw [V.out];rfl,by decide⟩
 | uni=>exact ⟨60,_,by rw [V.out];rfl,by decide⟩
theorem qd {ts : List Ty} (hw : SchW ts) : ∀ (n : Nat) {k : abL} {v : V},OfK ts k v → v.deep ≤ n → ∀ r,Dl r → rd ts n k (v.out ++ r) = some (v,r)
 | 0,k,v,h,hd,r,hr=>by
  obtain ⟨w,x,t,ks⟩:=v
  have hne : w ≠ 61:=by cases h <;> decide
  rw [cF hne] at hd;omega
 | n + 1,k,v,h,hd,r,hr=>by
  have ih:=fun {k : abL} {v : V}=>qd hw n (k:=k) (v:=v)
  show ee ts (rd ts n) k (v.out ++ r) = some (v,r)
  cases h with
  | num k m h1 h2 =>
   have e : V.out (.nd 110 (br m) 0 []) = br m:=by rw [V.out];rfl
   have hrf : aV ts (110 :: k) = none:=by cases h : aV ts (110 :: k) with | none=>rfl | some t=>exact (eP h F dC).elim
   rw [e]
   unfold ee
   try dsimp only
   rw [if_neg dC,if_neg dC,hrf]
   try dsimp only
   rw [if_pos dC,m9 h1 h2 dC hr];rfl
  | txt k x h1 =>
   have e : V.out (.nd 116 x 0 []) ++ r = 39 :: (x ++ 39 :: r):=by rw [V.out];simp [ew]
   have hrf : aV ts (116 :: k) = none:=by cases h : aV ts (116 :: k) with | none=>rfl | some t=>exact (eP h F dC).elim
   rw [e]
   unfold ee
   try dsimp only
   rw [if_neg dC,if_neg dC,hrf]
   try dsimp only
   rw [if_neg dC,if_pos dC,tu h1]
  | flg k x h1 =>
   have e : V.out (.nd 102 x 0 []) = x:=by rw [V.out];rfl
   have hrf : aV ts (102 :: k) = none:=by cases h : aV ts (102 :: k) with | none=>rfl | some t=>exact (eP h F dC).elim
   rw [e]
   unfold ee
   try dsimp only
   rw [if_neg dC,if_neg dC,hrf]
   try dsimp only
   rw [if_neg dC,if_neg dC,if_pos dC,ur h1]
  | lst k ks h1 h2 =>
   rw [cF dC] at hd
   rw [nb]
   unfold ee
   try dsimp only
   rw [if_pos dC]
   try dsimp only
   rw [if_pos dC]
   cases ks with
   | nil=>simp only [List.map_nil,aQ,List.nil_append];rw [if_pos dC]
   | cons v ks =>
    have hI:=nQ (f:=rd ts n k) (rest:=r) (v :: ks) 20 [] (by simp) h1 fun u hu r hr=>ih (h2 u hu) (by have:=V.deep_mem hu;omega) r hr
    obtain ⟨c,s,e1,e2⟩:=vS (h2 v (by simp))
    cases hj : aQ 44 ((v :: ks).map V.out) ++ 93 :: r with
    | nil=>simp at hj
    | cons c' s' =>
     have hc' : c' = c:=by
      have : ∃ s2,aQ 44 ((v :: ks).map V.out) ++ 93 :: r = c :: s2:=by
       cases ks with
       | nil=>simp only [List.map_cons,List.map_nil,aQ,e1,List.cons_append];exact ⟨_,F⟩
       | cons u ks=>simp only [List.map_cons,aQ,e1,List.cons_append];exact ⟨_,F⟩
      obtain ⟨s2,h3⟩:=this
      rw [hj] at h3;injection h3
     try dsimp only
     rw [if_neg (by rw [hc'];exact e2),← hj,hI];rfl
  | non k =>
   have e : V.out (.nd 63 [] 0 []) ++ r = 45 :: r:=by rw [V.out];rfl
   rw [e]
   unfold ee
   try dsimp only
   rw [if_neg dC,if_pos dC]
   try dsimp only
   rw [if_pos dC]
  | opt k v h1 =>
   rw [cF dC] at hd
   have hd2 : v.deep ≤ n:=by have:=V.deep_mem (ks:=[v]) (v:=v) (by simp);omega
   rw [sq]
   unfold ee
   try dsimp only
   rw [if_neg dC,if_pos dC]
   try dsimp only
   rw [if_neg dC,if_pos dC,ih h1 hd2 r hr];rfl
  | recd k t fs h1 h2 h3 h4 h5 h6 =>
   rw [cF dC] at hd
   have hk : ∃ k',k = 64 :: k':=by
    cases k with
    | nil=>simp [aV,bE] at h1
    | cons c k' =>
     by_cases h64 : c.toNat = 64
     ·exact ⟨k',by rw [show c = 64 from UInt8.toNat_inj.1 h64]⟩
     ·exact (eP h1 F h64).elim
   obtain ⟨k',rfl⟩:=hk
   rw [o5]
   unfold ee
   try dsimp only
   rw [if_neg dC,if_neg dC,h1]
   try dsimp only
   unfold aY
   dsimp only
   rw [if_pos h2,if_pos dC]
   cases fs with
   | nil=>simp only [List.map_nil,aQ,List.nil_append];rw [if_pos dC]
   | cons p fs =>
    have hlen : (p :: fs).length ≤ (aQ 44 (((p :: fs).map cN).map V.out) ++ 125 :: r).length + 1:=by
     have h7 : ∀ xs : List abL,(∀ x ∈ xs,1 ≤ x.length) → xs.length ≤ (aQ 44 xs).length:=by
      intro xs
      induction xs with
      | nil=>intro _;simp
      | cons x xs ihx =>
       intro hx
       have hx1:=hx x (by simp)
       have ihx:=ihx fun y hy=>hx y (by simp [hy])
       cases xs with
       | nil=>simp only [aQ,List.length_cons,List.length_nil];omega
       | cons y xs=>simp only [aQ,List.length_append,List.length_cons] at ihx ⊢;omega
     have h8:=h7 (((p :: fs).map cN).map V.out) (fun x hx=>by
      obtain ⟨v,hv,rfl⟩:=List.mem_map.1 hx
      obtain ⟨q,hq,rfl⟩:=List.mem_map.1 hv
      rw [fZ];simp;omega)
     simp only [List.length_map] at h8
     simp only [List.length_append,List.length_cons]
     simp only [List.length_cons] at h8
     omega
    have hI:=py (ts:=ts) (f:=rd ts n) (hw.ty t (cS h1)) (rest:=r) (p :: fs) ((aQ 44 (((p :: fs).map cN).map V.out) ++ 125 :: r).length + 1) 0 [] (by simp) hlen (fun q hq=>⟨h3 q hq,h5 q hq,by have:=((hw.ty t (cS h1)).fld _ (h3 q hq)).tag;omega,fun r hr=>ih (h4 q hq) (by
     have:=V.deep_mem (ks:=(p :: fs).map cN) (v:=cN q) (List.mem_map.2 ⟨q,hq,rfl⟩)
     rw [show V.deep (cN q) = V.deep q.2 from nr] at this
     omega) r hr⟩) h6
    obtain ⟨c,s,e1,e2⟩:=pU (m:=p.1.tag) (by have:=((hw.ty t (cS h1)).fld _ (h3 p (by simp))).tag;omega)
    have he2:=wU e2
    cases hj : aQ 44 (((p :: fs).map cN).map V.out) ++ 125 :: r with
    | nil=>simp at hj
    | cons c' s' =>
     have hc' : c' = c:=by
      have : ∃ s2,aQ 44 (((p :: fs).map cN).map V.out) ++ 125 :: r = c :: s2:=by
       cases fs with
       | nil=>simp only [List.map_cons,List.map_nil,aQ,fZ,e1,List.cons_append];exact ⟨_,F⟩
       | cons u ks=>simp only [List.map_cons,aQ,fZ,e1,List.cons_append];exact ⟨_,F⟩
      obtain ⟨s2,h3⟩:=this
      rw [hj] at h3;injection h3
     try dsimp only
     rw [if_neg (by rw [hc'];omega),← hj,hI];rfl
  | enm k t d h1 h2 h3 =>
   have hk : ∃ k',k = 64 :: k':=by
    cases k with
    | nil=>simp [aV,bE] at h1
    | cons c k' =>
     by_cases h64 : c.toNat = 64
     ·exact ⟨k',by rw [show c = 64 from UInt8.toNat_inj.1 h64]⟩
     ·exact (eP h1 F h64).elim
   obtain ⟨k',rfl⟩:=hk
   have ht:=((hw.ty t (cS h1)).fld d h3).tag
   have e : V.out (.nd 69 [] d.tag []) ++ r = 35 :: (br d.tag ++ r):=by rw [V.out];rfl
   rw [e]
   unfold ee
   try dsimp only
   rw [if_neg dC,if_neg dC,h1]
   try dsimp only
   unfold aY
   dsimp only
   rw [if_neg oM,if_pos h2,if_pos dC,m9 oM ht.2 dC hr]
   try dsimp only
   rw [iL (hw.ty t (cS h1)) h3,if_pos (by simp)]
  | uni k t d v h1 h2 h3 h4 h5 =>
   rw [cF dC] at hd
   have hd2 : v.deep ≤ n:=by have:=V.deep_mem (ks:=[v]) (v:=v) (by simp);omega
   have hk : ∃ k',k = 64 :: k':=by
    cases k with
    | nil=>simp [aV,bE] at h1
    | cons c k' =>
     by_cases h64 : c.toNat = 64
     ·exact ⟨k',by rw [show c = 64 from UInt8.toNat_inj.1 h64]⟩
     ·exact (eP h1 F h64).elim
   obtain ⟨k',rfl⟩:=hk
   rw [sn]
   unfold ee
   try dsimp only
   rw [if_neg dC,if_neg dC,h1]
   try dsimp only
   unfold aY
   dsimp only
   rw [if_neg h2,if_neg h3,if_pos dC,kx (hw.ty t (cS h1)) h4 (ih h5 hd2 _ (it dC))]
   try dsimp only
   rw [if_pos dC]
theorem m4 {ts : List Ty} (hw : SchW ts) {k : abL} {v : V} (h : OfK ts k v) (hl : v.out.length ≤ 400) (hd : v.deep ≤ 12) : cj ts k v.out = some v:=by
 have h1:=qd hw 12 h hd [] qZ
 rw [List.append_nil] at h1
 unfold cj
 rw [if_pos hl,h1]
theorem rM {ts : List Ty} (hw : SchW ts) {k : abL} {v : V} (h : OfK ts k v) (hn : ¬ (v.out.length ≤ 400 ∧ v.deep ≤ 12)) : cj ts k v.out = none:=by
 cases hv : cj ts k v.out with
 | none=>rfl
 | some u =>
  obtain ⟨h1,h2,h3⟩:=t9 hv
  have hu:=td hv
  have hd : v.deep ≤ max v.deep 12:=Nat.le_max_left _ _
  have h4:=qd hw (max v.deep 12) h hd [] qZ
  have h5:=qd hw (max v.deep 12) hu (Nat.le_trans h3 (Nat.le_max_right _ _)) [] qZ
  rw [List.append_nil] at h4 h5
  rw [h1,h4] at h5
  have:=(Prod.mk.inj (Option.some.inj h5)).1
  subst this
  exact absurd ⟨h2,h3⟩ hn
def fk (m : Nat) : abL → Option (Int × abL)
 | []=>none
 | c :: r=>if c.toNat < 128 then (if c.toNat = 0 ∨ 999999 < m + c.toNat * 16384 then none else some (((m + c.toNat * 16384 : Nat) : Int),r)) else none
def fK (m : Nat) : abL → Option (Int × abL)
 | []=>none
 | b :: r=>if b.toNat < 128 then (if b.toNat = 0 then none else some (((m + b.toNat * 128 : Nat) : Int),r)) else fk (m + b.toNat % 128 * 128) r
def bc : abL → Option (Int × abL)
 | []=>none
 | a :: r=>if a.toNat < 128 then some ((a.toNat : Int),r) else fK (a.toNat % 128) r
theorem gx {n : Int} (h0 : 0 ≤ n) (h1 : n ≤ 999999) (r : abL) : bc (bi n ++ r) = some (n,r):=by
 by_cases h2 : n < 128
 ·have e:=ep (a:=n) oM
  rw [eR h2 h0,List.singleton_append,bc,if_pos oM,e]
 ·have e:=ep (a:=128 + n % 128) oM
  rw [gw h2]
  by_cases h3 : n / 128 < 128
  ·have e2:=ep (a:=n / 128) oM
   rw [eR h3 oM]
   simp only [List.cons_append,List.nil_append]
   rw [bc,if_neg oM,fK,if_pos oM,if_neg oM]
   congr 2
   omega
  ·have e2:=ep (a:=128 + n / 128 % 128) oM
   have e3:=ep (a:=n / 128 / 128) oM
   rw [gw h3,eR oM oM]
   simp only [List.cons_append,List.nil_append]
   rw [bc,if_neg oM,fK,if_neg oM,fk,if_pos oM,if_neg oM]
   congr 2
   omega
theorem cm {s r : abL} {n : Int} (h : bc s = some (n,r)) : 0 ≤ n ∧ n ≤ 999999 ∧ s = bi n ++ r:=by
 cases s with
 | nil=>cases h
 | cons a s =>
  rw [bc] at h
  have ha:=a.toNat_lt
  split at h
  ·simp only [Option.some.injEq,Prod.mk.injEq] at h
   obtain ⟨rfl,rfl⟩:=h
   refine ⟨oM,oM,?_⟩
   rw [eR oM oM,gt];rfl
  ·cases s with
   | nil=>cases h
   | cons b s =>
    rw [fK] at h
    have hb:=b.toNat_lt
    split at h
    ·split at h
     ·cases h
     ·simp only [Option.some.injEq,Prod.mk.injEq] at h
      obtain ⟨rfl,rfl⟩:=h
      refine ⟨oM,oM,?_⟩
      rw [gw oM,eR oM oM]
      rw [show (128 + ((a.toNat % 128 + b.toNat * 128 : Nat) : Int) % 128) = (a.toNat : Int) by omega,show ((a.toNat % 128 + b.toNat * 128 : Nat) : Int) / 128 = (b.toNat : Int) by omega,gt,gt];rfl
    ·cases s with
     | nil=>cases h
     | cons c s =>
      rw [fk] at h
      have hc:=c.toNat_lt
      split at h
      ·split at h
       ·cases h
       ·simp only [Option.some.injEq,Prod.mk.injEq] at h
        obtain ⟨rfl,rfl⟩:=h
        refine ⟨oM,oM,?_⟩
        rw [gw oM,gw oM,eR oM oM]
        rw [show (128 + ((a.toNat % 128 + b.toNat % 128 * 128 + c.toNat * 16384 : Nat) : Int) % 128) = (a.toNat : Int) by omega,
         show (128 + ((a.toNat % 128 + b.toNat % 128 * 128 + c.toNat * 16384 : Nat) : Int) / 128 % 128) = (b.toNat : Int) by omega,
         show ((a.toNat % 128 + b.toNat % 128 * 128 + c.toNat * 16384 : Nat) : Int) / 128 / 128 = (c.toNat : Int) by omega,gt,gt,gt];rfl
      ·cases h
theorem bx {s r : abL} {n : Int} (h : bc s = some (n,r)) : r.length < s.length:=by
 obtain ⟨_,_,rfl⟩:=cm h
 have:=e8 n
 simp;omega
def bL (s : abL) : Option (abL × abL):=match bc s with
 | none=>none
 | some (n,r)=>if n.toNat ≤ r.length then some (r.take n.toNat,r.drop n.toNat) else none
theorem lE {x r : abL} (h : x.length ≤ 999999) : bL (bi x.length ++ (x ++ r)) = some (x,r):=by
 unfold bL
 rw [gx oM oM]
 dsimp only
 rw [if_pos (by simp),Int.toNat_natCast,List.take_left,List.drop_left]
theorem tv {s x r : abL} (h : bL s = some (x,r)) : x.length ≤ 999999 ∧ s = bi x.length ++ (x ++ r):=by
 unfold bL at h
 split at h
 ·cases h
 ·rename_i n q hn
  obtain ⟨h0,h1,rfl⟩:=cm hn
  split at h
  ·rename_i hl
   simp only [Option.some.injEq,Prod.mk.injEq] at h
   obtain ⟨rfl,rfl⟩:=h
   have e : ((List.take n.toNat q).length : Int) = n:=by rw [List.length_take];omega
   exact ⟨oM,by rw [e,List.take_append_drop]⟩
  ·cases h
theorem dz {s x r : abL} (h : bL s = some (x,r)) : r.length + x.length < s.length:=by
 obtain ⟨_,rfl⟩:=tv h
 have:=e8 x.length
 simp;omega
def bB (f : abL → Option (V × abL)) : Nat → abL → List V → Option (List V × abL)
 | 0,s,acc=>some (acc,s)
 | m + 1,s,acc=>match f s with
  | none=>none
  | some (v,r)=>bB f m r (acc ++ [v])
def cG (f : abL → abL → Option (V × abL)) (k p : abL) : Option V:=match f k p with
 | some (v,[])=>some v
 | _=>none
def bI (ts : List Ty) (f : abL → abL → Option (V × abL)) (t : Ty) : Nat → Int → abL → List V → Option (List V × abL)
 | 0,_,_,_=>none
 | m + 1,last,s,acc=>match bc s with
  | none=>none
  | some (n,r)=>if n = 0 then some (acc,r) else match bL r with
   | none=>none
   | some (p,r')=>if n ≤ last then none else match bJ t.fields n with
    | none=>bI ts f t m n r' acc
    | some d=>match cG f d.kind p with
     | none=>none
     | some v=>bI ts f t m n r' (if v.out = cL ts d then acc else acc ++ [.nd 61 [] d.tag [v]])
def bP (ts : List Ty) (f : abL → abL → Option (V × abL)) (t : Ty) (s : abL) : Option (V × abL) :=
 if t.sort = 82 then (bI ts f t (s.length + 1) 0 s []).map fun x=>(.nd 82 [] 0 x.1,x.2) else match bc s with
  | none=>none
  | some (n,r)=>match bJ t.fields n with
   | none=>none
   | some d=>if t.sort = 69 then some (.nd 69 [] d.tag [],r) else match bL r with
    | none=>none
    | some (p,r')=>(cG f d.kind p).map fun v=>(.nd 85 [] d.tag [v],r')
def bM : abL → Option (Bool × abL)
 | []=>none
 | b :: r=>if b.toNat = 0 then some (false,r) else if b.toNat = 1 then some (true,r) else none
def eV (ts : List Ty) (f : abL → abL → Option (V × abL)) : abL → abL → Option (V × abL)
 | [],_=>none
 | c :: k,s =>
  if c.toNat = 91 then (match bc s with
   | none=>none
   | some (n,r)=>if n ≤ 20 then (bB (f k) n.toNat r []).map fun x=>(.nd 91 [] 0 x.1,x.2) else none)
  else if c.toNat = 63 then (match bM s with
   | none=>none
   | some (false,r)=>some (.nd 63 [] 0 [],r)
   | some (true,r)=>(f k r).map fun x=>(.nd 63 [] 0 [x.1],x.2))
  else match aV ts (c :: k) with
   | some t=>bP ts f t s
   | none=>if c.toNat = 110 then (bc s).map fun x=>(.nd 110 (br x.1) 0 [],x.2)
    else if c.toNat = 116 then (match bL s with
     | none=>none
     | some (p,r)=>if cW (39 :: (p ++ [39])) = true then some (.nd 116 p 0 [],r) else none)
    else if c.toNat = 102 then (bM s).map fun x=>(.nd 102 (if x.1 = true then [121,101,115] else [110,111]) 0 [],x.2) else none
def rb (ts : List Ty) : Nat → abL → abL → Option (V × abL)
 | 0,_,_=>none
 | n + 1,k,s=>eV ts (rb ts n) k s
theorem mP {f : abL → Option (V × abL)} {p : V → Prop} (h : ∀ s y,f s = some y → p y.1) : ∀ (m : Nat) (s : abL) (acc : List V) {x : List V × abL},bB f m s acc = some x → (∀ v ∈ acc,p v) → (∀ v ∈ x.1,p v) ∧ x.1.length = acc.length + m
 | 0,s,acc,x,e,ha=>by simp only [bB,Option.some.injEq] at e;subst e;exact ⟨ha,F⟩
 | m + 1,s,acc,x,e,ha=>by
  unfold bB at e
  cases hf : f s with
  | none=>rw [hf] at e;cases e
  | some y =>
   rw [hf] at e
   obtain ⟨v,r⟩:=y
   have:=mP h m r _ e (fun u hu=>by
    rcases List.mem_append.1 hu with hu | hu
    ·exact ha u hu
    ·simp only [List.mem_singleton] at hu;subst hu;exact h _ _ hf)
   exact ⟨this.1,by rw [this.2,List.length_append,List.length_singleton];omega⟩
theorem cE {f : abL → abL → Option (V × abL)} {k p : abL} {v : V} (h : cG f k p = some v) : f k p = some (v,[]):=by
 unfold cG at h
 split at h
 ·rename_i u hu;rw [hu];simp only [Option.some.injEq] at h;subst h;rfl
 ·cases h
theorem gU {fs : List Fld} {n : Int} {d : Fld} (h : bJ fs n = some d) : d.tag = n ∧ d ∈ fs:=⟨by have:=List.find?_some h;simpa using this,List.mem_of_find?_eq_some h⟩
theorem i4 {ts : List Ty} {f : abL → abL → Option (V × abL)} {q : abL → V → Prop} (h : ∀ k s y,f k s = some y → q k y.1) {t : Ty} : ∀ (m : Nat) (last : Int) (s : abL) (fs : List (Fld × V)) {x : List V × abL},bI ts f t m last s (fs.map cN) = some x → (∀ p ∈ fs,p.1 ∈ t.fields ∧ q p.1.kind p.2 ∧ p.2.out ≠ cL ts p.1 ∧ p.1.tag ≤ last) → fs.Pairwise (fun a b=>a.1.tag < b.1.tag) →
  ∃ gs : List (Fld × V),x.1 = gs.map cN ∧ (∀ p ∈ gs,p.1 ∈ t.fields ∧ q p.1.kind p.2 ∧ p.2.out ≠ cL ts p.1) ∧ gs.Pairwise (fun a b=>a.1.tag < b.1.tag)
 | 0,_,_,_,_,e,_,_=>by cases e
 | m + 1,last,s,fs,x,e,ha,hp=>by
  unfold bI at e
  cases hn : bc s with
  | none=>rw [hn] at e;cases e
  | some y =>
   rw [hn] at e
   obtain ⟨n,r⟩:=y
   dsimp only at e
   split at e
   ·simp only [Option.some.injEq] at e;subst e
    exact ⟨fs,F,fun p hp=>⟨(ha p hp).1,(ha p hp).2.1,(ha p hp).2.2.1⟩,hp⟩
   ·split at e
    ·cases e
    ·split at e
     ·cases e
     ·rename_i hl
      have ha1 : ∀ p ∈ fs,p.1 ∈ t.fields ∧ q p.1.kind p.2 ∧ p.2.out ≠ cL ts p.1 ∧ p.1.tag ≤ n:=fun p hp=>by
       obtain ⟨a1,a2,a3,a4⟩:=ha p hp;exact ⟨a1,a2,a3,oM⟩
      split at e
      ·exact i4 h m n _ fs e ha1 hp
      ·rename_i d hd
       obtain ⟨hd1,hd2⟩:=gU hd
       split at e
       ·cases e
       ·rename_i v hv
        have hq:=h _ _ _ (cE hv)
        split at e
        ·exact i4 h m n _ fs e ha1 hp
        ·rename_i hne
         have e2 : fs.map cN ++ [V.nd 61 [] d.tag [v]] = (fs ++ [(d,v)]).map cN:=by simp
         rw [e2] at e
         refine i4 h m n _ _ e (fun p hp=>?_) ?_
         ·rcases List.mem_append.1 hp with hp | hp
          ·exact ha1 p hp
          ·simp only [List.mem_singleton] at hp;subst hp;exact ⟨hd2,hq,hne,by dsimp only;omega⟩
         ·rw [List.pairwise_append]
          refine ⟨hp,List.pairwise_singleton _ _,fun a hA b hB=>?_⟩
          simp only [List.mem_singleton] at hB;subst hB
          have:=(ha a hA).2.2.2
          show a.1.tag < d.tag
          omega
theorem ky {ts : List Ty} : ∀ (n : Nat) (k s : abL) (x : V × abL),rb ts n k s = some x → OfK ts k x.1 ∧ x.1.deep ≤ n
 | 0,_,_,_,e=>by cases e
 | n + 1,k,s,x,e=>by
  have ih : ∀ k s y,rb ts n k s = some y → OfK ts k y.1 ∧ y.1.deep ≤ n:=fun k s y hy=>ky n k s y hy
  replace e : eV ts (rb ts n) k s = some x:=e
  cases k with
  | nil=>cases e
  | cons c k =>
   unfold eV at e
   dsimp only at e
   split at e
   ·rename_i hc
    obtain rfl:=bo hc dC
    split at e
    ·cases e
    ·split at e
     ·rename_i m r hm hm2
      cases hi : bB (rb ts n k) m.toNat r [] with
      | none=>rw [hi] at e;cases e
      | some y =>
       rw [hi] at e
       simp only [Option.map_some,Option.some.injEq] at e;subst e
       have h1:=mP (p:=fun v=>OfK ts k v ∧ v.deep ≤ n) (fun s y hy=>ih k s y hy) _ _ _ hi (by simp)
       obtain ⟨h2,h3⟩:=h1
       simp only [List.length_nil] at h3
       refine ⟨.lst _ _ oM fun v hv=>(h2 v hv).1,?_⟩
       rw [cF dC]
       have:=V.deeps_le (n:=n) fun v hv=>(h2 v hv).2
       omega
     ·cases e
   ·rename_i hc
    split at e
    ·rename_i hc2
     obtain rfl:=bo hc2 dC
     split at e
     ·cases e
     ·simp only [Option.some.injEq] at e;subst e
      exact ⟨.non _,by rw [cF dC];simp [V.deeps]⟩
     ·rename_i r _
      cases hf : rb ts n k r with
      | none=>rw [hf] at e;cases e
      | some y =>
       rw [hf] at e
       simp only [Option.map_some,Option.some.injEq] at e;subst e
       obtain ⟨h1,h2⟩:=ih _ _ _ hf
       refine ⟨.opt _ _ h1,?_⟩
       rw [cF dC]
       have:=V.deeps_le (ks:=[y.1]) (n:=n) fun v hv=>by simp only [List.mem_singleton] at hv;subst hv;exact h2
       omega
    ·split at e
     ·rename_i t ht
      unfold bP at e
      split at e
      ·rename_i h82
       cases hf : bI ts (rb ts n) t (s.length + 1) 0 s [] with
       | none=>rw [hf] at e;cases e
       | some y =>
        rw [hf] at e
        simp only [Option.map_some,Option.some.injEq] at e;subst e
        obtain ⟨gs,e1,e2,e3⟩:=i4 (q:=fun k v=>OfK ts k v ∧ v.deep ≤ n) (fs:=[]) ih _ _ _ hf (by simp) (by simp)
        dsimp only
        rw [e1]
        refine ⟨.recd _ t gs ht h82 (fun p hp=>(e2 p hp).1) (fun p hp=>(e2 p hp).2.1.1) (fun p hp=>(e2 p hp).2.2) e3,?_⟩
        rw [cF dC]
        have:=V.deeps_le (ks:=gs.map cN) (n:=n) fun v hv=>by
         obtain ⟨p,hp,rfl⟩:=List.mem_map.1 hv
         have:=(e2 p hp).2.1.2
         show V.deep (.nd 61 [] p.1.tag [p.2]) ≤ n
         rw [V.deep,if_pos rfl]
         exact V.deeps_le (ks:=[p.2]) fun v hv=>by simp only [List.mem_singleton] at hv;subst hv;exact this
        omega
      ·rename_i h82
       split at e
       ·cases e
       ·split at e
        ·cases e
        ·rename_i d hd
         obtain ⟨hd1,hd2⟩:=gU hd
         split at e
         ·rename_i h69
          simp only [Option.some.injEq] at e;subst e
          exact ⟨.enm _ t d ht h69 hd2,by rw [cF dC];simp [V.deeps]⟩
         ·rename_i h69
          split at e
          ·cases e
          ·rename_i p r' _
           cases hf : cG (rb ts n) d.kind p with
           | none=>rw [hf] at e;cases e
           | some v =>
            rw [hf] at e
            simp only [Option.map_some,Option.some.injEq] at e;subst e
            obtain ⟨h1,h2⟩:=ih _ _ _ (cE hf)
            refine ⟨.uni _ t d v ht h82 h69 hd2 h1,?_⟩
            rw [cF dC]
            have:=V.deeps_le (ks:=[v]) (n:=n) fun u hv=>by simp only [List.mem_singleton] at hv;subst hv;exact h2
            omega
     ·rename_i ht
      split at e
      ·rename_i h1
       obtain rfl:=bo h1 dC
       cases hn : bc s with
       | none=>rw [hn] at e;cases e
       | some y =>
        rw [hn] at e
        obtain ⟨m,r⟩:=y
        obtain ⟨g1,g2,_⟩:=cm hn
        simp only [Option.map_some,Option.some.injEq] at e;subst e
        exact ⟨.num _ _ g1 g2,by rw [cF dC];simp [V.deeps]⟩
      ·split at e
       ·rename_i h1
        obtain rfl:=bo h1 dC
        split at e
        ·cases e
        ·split at e
         ·rename_i hx
          simp only [Option.some.injEq] at e;subst e
          exact ⟨.txt _ _ hx,by rw [cF dC];simp [V.deeps]⟩
         ·cases e
       ·split at e
        ·rename_i h1
         obtain rfl:=bo h1 dC
         cases hn : bM s with
         | none=>rw [hn] at e;cases e
         | some y =>
          rw [hn] at e
          simp only [Option.map_some,Option.some.injEq] at e;subst e
          refine ⟨.flg _ _ ?_,by rw [cF dC];simp [V.deeps]⟩
          split
          ·exact .inl F
          ·exact .inr F
        ·cases e
theorem n4 {f : abL → Option (V × abL)} {r : abL} : ∀ (ks : List V) (acc : List V),(∀ v ∈ ks,∀ r,f (v.bys ++ r) = some (v,r)) → bB f ks.length ((V.byss ks).flatten ++ r) acc = some (acc ++ ks,r)
 | [],acc,_=>by simp [bB,V.byss]
 | v :: ks,acc,h=>by
  rw [V.byss,List.flatten_cons,List.append_assoc,List.length_cons,bB,h v (by simp)]
  dsimp only
  rw [n4 ks (acc ++ [v]) fun u hu=>h u (by simp [hu])]
  simp
theorem fR {f : abL → abL → Option (V × abL)} {k p : abL} {v : V} (h : f k p = some (v,[])) : cG f k p = some v:=by unfold cG;rw [h]
theorem nF (p : Fld × V) : (cN p).bys = bi p.1.tag ++ (bi p.2.bys.length ++ p.2.bys):=by
 show V.bys (.nd 61 [] p.1.tag [p.2]) = _
 rw [V.bys];simp [V.byss,fT]
theorem yG (r : abL) : bc (0 :: r) = some (0,r):=by rw [bc,if_pos dC];rfl
theorem pz {ts : List Ty} {f : abL → abL → Option (V × abL)} {t : Ty} (hw : TyW t) {r : abL} : ∀ (fs : List (Fld × V)) (m : Nat) (last : Int) (acc : List V),fs.length < m → (∀ p ∈ fs,p.1 ∈ t.fields ∧ p.2.out ≠ cL ts p.1 ∧ last < p.1.tag ∧ p.2.bys.length ≤ 999999 ∧ f p.1.kind p.2.bys = some (p.2,[])) → fs.Pairwise (fun a b=>a.1.tag < b.1.tag) →
  bI ts f t m last ((V.byss (fs.map cN)).flatten ++ 0 :: r) acc = some (acc ++ fs.map cN,r)
 | [],m,last,acc,hm,_,_=>by
  obtain ⟨m,rfl⟩ : ∃ n,m = n + 1:=⟨m - 1,by simp at hm;omega⟩
  simp only [List.map_nil,V.byss,List.flatten_nil,List.nil_append,bI,yG,if_pos,List.append_nil]
 | p :: fs,m,last,acc,hm,hf,hp=>by
  obtain ⟨m,rfl⟩ : ∃ n,m = n + 1:=⟨m - 1,by simp at hm;omega⟩
  obtain ⟨h1,h2,h3,h4,h5⟩:=hf p (by simp)
  have ht:=(hw.fld _ h1).tag
  rw [List.pairwise_cons] at hp
  have ih:=pz (ts:=ts) (f:=f) hw (r:=r) fs m p.1.tag (acc ++ [cN p]) (by simp at hm;omega) (fun q hq=>⟨(hf q (by simp [hq])).1,(hf q (by simp [hq])).2.1,hp.1 q hq,(hf q (by simp [hq])).2.2.2⟩) hp.2
  rw [List.map_cons,V.byss,List.flatten_cons,nF,bI]
  simp only [List.append_assoc]
  rw [gx oM oM]
  dsimp only
  rw [if_neg oM,lE h4]
  dsimp only
  rw [if_neg oM,iL hw h1]
  dsimp only
  rw [fR h5]
  dsimp only
  rw [if_neg h2]
  show bI ts f t m p.1.tag _ (acc ++ [cN p]) = _
  rw [ih];simp
theorem rH {ks : List V} {v : V} (h : v ∈ ks) : v.bys.length ≤ (V.byss ks).flatten.length:=by
 rw [ld]
 induction ks with
 | nil=>cases h
 | cons u ks ih =>
  simp only [List.map_cons,List.flatten_cons,List.length_append]
  rcases List.mem_cons.1 h with rfl | h
  ·omega
  ·have:=ih h;omega
theorem s6 : ∀ {fs : List (Fld × V)},fs.length ≤ (V.byss (fs.map cN)).flatten.length
 | []=>by simp [V.byss]
 | p :: fs=>by
  have:=s6 (fs:=fs)
  have h2:=e8 p.1.tag
  rw [List.map_cons,V.byss,List.flatten_cons,List.length_append,nF]
  simp only [List.length_append,List.length_cons]
  omega
theorem o6 {ts : List Ty} {k : abL} {t : Ty} (h : aV ts k = some t) : ∃ k',k = 64 :: k':=by
 cases k with
 | nil=>simp [aV,bE] at h
 | cons c k' =>
  by_cases h64 : c.toNat = 64
  ·exact ⟨k',by rw [show c = 64 from UInt8.toNat_inj.1 h64]⟩
  ·exact (eP h F h64).elim
theorem nY {ts : List Ty} (hw : SchW ts) : ∀ (n : Nat) {k : abL} {v : V},OfK ts k v → v.deep ≤ n → v.bys.length ≤ 999999 → ∀ r,rb ts n k (v.bys ++ r) = some (v,r)
 | 0,k,v,h,hd,_,r=>by
  obtain ⟨w,x,t,ks⟩:=v
  have hne : w ≠ 61:=by cases h <;> decide
  rw [cF hne] at hd;omega
 | n + 1,k,v,h,hd,hl,r=>by
  have ih:=fun {k : abL} {v : V}=>nY hw n (k:=k) (v:=v)
  show eV ts (rb ts n) k (v.bys ++ r) = some (v,r)
  cases h with
  | num k m h1 h2 =>
   have e : V.bys (.nd 110 (br m) 0 []) = bi m:=by rw [V.bys];unfold fT;rw [if_pos rfl,oc h1 h2 dC];rfl
   have hrf : aV ts (110 :: k) = none:=by cases h : aV ts (110 :: k) with | none=>rfl | some t=>exact (eP h F dC).elim
   rw [e]
   unfold eV
   try dsimp only
   rw [if_neg dC,if_neg dC,hrf]
   try dsimp only
   rw [if_pos dC,gx h1 h2];rfl
  | txt k x h1 =>
   have e : V.bys (.nd 116 x 0 []) = bi x.length ++ x:=by rw [V.bys];rfl
   have hrf : aV ts (116 :: k) = none:=by cases h : aV ts (116 :: k) with | none=>rfl | some t=>exact (eP h F dC).elim
   rw [e] at hl ⊢
   rw [List.length_append] at hl
   unfold eV
   try dsimp only
   rw [if_neg dC,if_neg dC,hrf]
   try dsimp only
   rw [if_neg dC,if_pos dC,List.append_assoc,lE oM]
   dsimp only
   rw [if_pos h1]
  | flg k x h1 =>
   have hrf : aV ts (102 :: k) = none:=by cases h : aV ts (102 :: k) with | none=>rfl | some t=>exact (eP h F dC).elim
   unfold eV
   try dsimp only
   rw [if_neg dC,if_neg dC,hrf]
   try dsimp only
   rw [if_neg dC,if_neg dC,if_pos dC]
   rcases h1 with rfl | rfl
   ·rw [show V.bys (.nd 102 [121,101,115] 0 []) = [1] by rw [V.bys];rfl];rfl
   ·rw [show V.bys (.nd 102 [110,111] 0 []) = [0] by rw [V.bys];rfl];rfl
  | lst k ks h1 h2 =>
   rw [cF dC] at hd
   have e : V.bys (.nd 91 [] 0 ks) = bi ks.length ++ (V.byss ks).flatten:=by rw [V.bys];rfl
   rw [e] at hl ⊢
   rw [List.length_append] at hl
   have hI:=n4 (f:=rb ts n k) (r:=r) ks [] fun v hv r=>ih (h2 v hv) (by have:=V.deep_mem hv;omega) (by have:=rH hv;omega) r
   unfold eV
   try dsimp only
   rw [if_pos dC,List.append_assoc,gx oM oM]
   dsimp only
   rw [if_pos oM,Int.toNat_natCast,hI];rfl
  | non k =>
   rw [show V.bys (.nd 63 [] 0 []) = [0] by rw [V.bys];rfl]
   unfold eV
   try dsimp only
   rw [if_neg dC,if_pos dC];rfl
  | opt k v h1 =>
   rw [cF dC] at hd
   have hd2 : v.deep ≤ n:=by have:=V.deep_mem (ks:=[v]) (v:=v) (by simp);omega
   have e : V.bys (.nd 63 [] 0 [v]) = 1 :: v.bys:=by rw [V.bys];simp [V.byss,fT]
   rw [e] at hl ⊢
   rw [List.length_cons] at hl
   unfold eV
   try dsimp only
   rw [if_neg dC,if_pos dC]
   rw [show bM (1 :: v.bys ++ r) = some (true,v.bys ++ r) from rfl]
   try dsimp only
   rw [ih h1 hd2 oM];rfl
  | recd k t fs h1 h2 h3 h4 h5 h6 =>
   rw [cF dC] at hd
   obtain ⟨k',rfl⟩:=o6 h1
   have e : V.bys (.nd 82 [] 0 (fs.map cN)) = (V.byss (fs.map cN)).flatten ++ [0]:=by rw [V.bys];rfl
   have hg:=s6 (fs:=fs)
   rw [e] at hl ⊢
   rw [List.length_append] at hl
   have hW:=hw.ty t (cS h1)
   have hF:=pz (ts:=ts) (f:=rb ts n) hW (r:=r) fs (((V.byss (fs.map cN)).flatten ++ 0 :: r).length + 1) 0 [] (by rw [List.length_append];omega) (fun p hp=>by
    have hdp : p.2.deep ≤ n:=by
     have h7:=V.deep_mem (List.mem_map_of_mem (f:=cN) hp)
     have h8 : (cN p).deep = p.2.deep:=by
      show V.deep (.nd 61 [] p.1.tag [p.2]) = _
      rw [V.deep,if_pos rfl];simp [V.deeps]
     omega
    have hbp : p.2.bys.length ≤ 999999:=by
     have h7:=rH (List.mem_map_of_mem (f:=cN) hp)
     rw [nF] at h7
     simp only [List.length_append] at h7
     omega
    have ht:=(hW.fld _ (h3 p hp)).tag
    refine ⟨h3 p hp,h5 p hp,oM,hbp,?_⟩
    have:=ih (h4 p hp) hdp hbp []
    rwa [List.append_nil] at this) h6
   unfold eV
   try dsimp only
   rw [if_neg dC,if_neg dC,h1]
   try dsimp only
   unfold bP
   rw [if_pos h2,List.append_assoc,List.singleton_append,hF];rfl
  | enm k t d h1 h2 h3 =>
   obtain ⟨k',rfl⟩:=o6 h1
   have hW:=hw.ty t (cS h1)
   have ht:=(hW.fld _ h3).tag
   rw [show V.bys (.nd 69 [] d.tag []) = bi d.tag by rw [V.bys];rfl]
   unfold eV
   try dsimp only
   rw [if_neg dC,if_neg dC,h1]
   try dsimp only
   unfold bP
   rw [if_neg oM,gx oM oM]
   dsimp only
   rw [iL hW h3]
   dsimp only
   rw [if_pos h2]
  | uni k t d v h1 h2 h3 h4 h5 =>
   rw [cF dC] at hd
   have hd2 : v.deep ≤ n:=by have:=V.deep_mem (ks:=[v]) (v:=v) (by simp);omega
   obtain ⟨k',rfl⟩:=o6 h1
   have hW:=hw.ty t (cS h1)
   have ht:=(hW.fld _ h4).tag
   have e : V.bys (.nd 85 [] d.tag [v]) = bi d.tag ++ (bi v.bys.length ++ v.bys):=by rw [V.bys];simp [V.byss,fT]
   rw [e] at hl ⊢
   simp only [List.length_append] at hl
   unfold eV
   try dsimp only
   rw [if_neg dC,if_neg dC,h1]
   try dsimp only
   unfold bP
   simp only [List.append_assoc]
   rw [if_neg h2,gx oM oM]
   dsimp only
   rw [iL hW h4]
   dsimp only
   rw [if_neg h3,lE oM]
   dsimp only
   have:=ih h5 hd2 oM []
   rw [List.append_nil] at this
   rw [fR this];rfl
def iS (ts : List Ty) (k b : abL) : Option V:=match rb ts 12 k b with
 | some (v,[])=>if v.bys = b ∧ v.out.length ≤ 400 then some v else none
 | _=>none
theorem oC {ts : List Ty} (hw : SchW ts) {k b : abL} (hb : b.length ≤ 999999) {v : V} : iS ts k b = some v ↔ OfK ts k v ∧ v.deep ≤ 12 ∧ v.out.length ≤ 400 ∧ v.bys = b:=by
 constructor
 ·intro h
  unfold iS at h
  split at h
  ·rename_i u hu
   obtain ⟨g1,g2⟩:=ky _ _ _ _ hu
   split at h
   ·rename_i hc
    simp only [Option.some.injEq] at h;subst h
    exact ⟨g1,g2,hc.2,hc.1⟩
   ·cases h
  ·cases h
 ·rintro ⟨h1,h2,h3,rfl⟩
  have:=nY hw 12 h1 h2 hb []
  rw [List.append_nil] at this
  unfold iS
  rw [this]
  dsimp only
  rw [if_pos ⟨rfl,h3⟩]
theorem ra {ts : List Ty} (hw : SchW ts) {k b : abL} (hb : b.length ≤ 999999) {v : V} : iS ts k b = some v ↔ rb ts 13 k b = some (v,[]) ∧ v.deep ≤ 12 ∧ v.out.length ≤ 400 ∧ v.bys = b:=by
 rw [oC hw hb]
 constructor
 ·rintro ⟨h1,h2,h3,rfl⟩
  have:=nY hw 13 h1 oM hb []
  rw [List.append_nil] at this
  exact ⟨this,h2,h3,F⟩
 ·rintro ⟨h1,h2,h3,h4⟩
  exact ⟨(ky _ _ _ _ h1).1,h2,h3,h4⟩
theorem dO {s r : abL} {b : Bool} (h : bM s = some (b,r)) : s = (if b = true then 1 else 0) :: r:=by
 unfold bM at h
 split at h
 ·cases h
 ·rename_i c q
  split at h
  ·rename_i hc
   simp only [Option.some.injEq,Prod.mk.injEq] at h
   obtain ⟨rfl,rfl⟩:=h
   rw [bo hc dC];rfl
  ·split at h
   ·rename_i hc
    simp only [Option.some.injEq,Prod.mk.injEq] at h
    obtain ⟨rfl,rfl⟩:=h
    rw [bo hc dC];rfl
   ·cases h
theorem qx (r : abL) : bM (0 :: r) = some (false,r):=by rw [bM,if_pos dC]
theorem qv (r : abL) : bM (1 :: r) = some (true,r):=by rw [bM,if_neg dC,if_pos dC]
section
variable {ts : List Ty}
end
variable {ts : List Ty}
inductive LoK (ts : List Ty) : abL → V → Prop
 | num (k : abL) (n : Int) : 0 ≤ n → LoK ts (110 :: k) (.nd 110 (br n) 0 [])
 | txt (k x : abL) : cW (39 :: (x ++ [39])) = true → LoK ts (116 :: k) (.nd 116 x 0 [])
 | flg (k x : abL) : x = [121,101,115] ∨ x = [110,111] → LoK ts (102 :: k) (.nd 102 x 0 [])
 | lst (k : abL) (ks : List V) : (∀ v ∈ ks,LoK ts k v) → LoK ts (91 :: k) (.nd 91 [] 0 ks)
 | non (k : abL) : LoK ts (63 :: k) (.nd 63 [] 0 [])
 | opt (k : abL) (v : V) : LoK ts k v → LoK ts (63 :: k) (.nd 63 [] 0 [v])
 | recd (k : abL) (t : Ty) (fs : List (Fld × V)) : aV ts k = some t → t.sort = 82 → (∀ p ∈ fs,p.1 ∈ t.fields) → (∀ p ∈ fs,LoK ts p.1.kind p.2) → LoK ts k (.nd 82 [] 0 (fs.map cN))
 | enm (k : abL) (t : Ty) (d : Fld) : aV ts k = some t → t.sort = 69 → d ∈ t.fields → LoK ts k (.nd 69 [] d.tag [])
 | uni (k : abL) (t : Ty) (d : Fld) (v : V) : aV ts k = some t → t.sort ≠ 82 → t.sort ≠ 69 → d ∈ t.fields → LoK ts d.kind v → LoK ts k (.nd 85 [] d.tag [v])
variable {ts : List Ty} {st : Bool}
theorem lG {e : UInt8} {t : abL} (h0 : e.toNat ≠ 0) (h1 : e.toNat ≠ 1) : bM (e :: t) = none:=by rw [bM,if_neg h0,if_neg h1]
abbrev tBr : TypeId:=76
abbrev bD (r sc : Nat) (s : abL) (b : Bool) (a : Option Addr) (n c : Nat) (d : Int) : Own:=.blk r (.cells (List.toArray [Pt sc 0,S s,Bo b,.slice a n c,I d]) tBr (0,0))
theorem iT {r sc m n c : Nat} {s : abL} {a : Option Addr} {d : Int} (h : m ≤ s.length ∧ s.length ≤ 1000000) : bQ abK 45 [Pt r 0,I (m : Nat)] G [bD r sc s false a n c d] (fun v L'=>v = S (s.take m) ∧ L' = [bD r sc (s.drop m) false a n c d]):=by
 refine jH [(0,_),(1,_)] Tryz.func45 Tryz.ntmps45 fun B hB hW=>?_
 repeat' (first | refine jM ?_ | (refine jo ?_;first | refine aj F ?_ | refine av F ?_ | refine jD F F F ?_) | refine al F F F ?_ | refine ad F (aC oM) ?_)
 exact aZ (vs:=[_]) F ⟨F,trivial⟩ F (List.Sublist.refl _) ⟨F,F,F⟩
theorem fe {r sc m n c : Nat} {s : abL} {b : Bool} {a : Option Addr} {d : Int} (h : b = true ∨ s.length < m) (hs : s.length ≤ 1000000 ∧ m ≤ 1000000) : bQ abK 45 [Pt r 0,I (m : Nat)] G [bD r sc s b a n c d] (fun v L'=>v = S [] ∧ L' = [bD r sc s true a n c d]):=by
 rcases h with rfl | h
 ·refine jH [(0,_),(1,_)] Tryz.func45 Tryz.ntmps45 fun B hB hW=>?_
  repeat' (first | refine jR ?_ | (refine jo ?_;first | refine aj F ?_ | refine aL F ?_ | refine jD F F F ?_) | refine aD F F F ?_ | refine ac F F ?_)
  all_goals exact aZ (vs:=[_]) F ⟨F,trivial⟩ F (List.Sublist.refl _) ⟨F,F,F⟩
 ·cases b
  ·refine jH [(0,_),(1,_)] Tryz.func45 Tryz.ntmps45 fun B hB hW=>?_
   repeat' (first | refine jR ?_ | (refine jo ?_;first | refine aj F ?_ | refine av F ?_ | refine jD F F F ?_) | refine al F F F ?_ | refine ac F (ay oM) ?_)
   all_goals exact aZ (vs:=[_]) F ⟨F,trivial⟩ F (List.Sublist.refl _) ⟨F,F,F⟩
  ·refine jH [(0,_),(1,_)] Tryz.func45 Tryz.ntmps45 fun B hB hW=>?_
   repeat' (first | refine jR ?_ | (refine jo ?_;first | refine aj F ?_ | refine aL F ?_ | refine jD F F F ?_) | refine aD F F F ?_ | refine ac F F ?_)
   all_goals exact aZ (vs:=[_]) F ⟨F,trivial⟩ F (List.Sublist.refl _) ⟨F,F,F⟩
theorem rp {r sc n c : Nat} {s q : abL} {x : Bool} {a : Option Addr} {d : Int} (h : bM s = some (x,q)) (hs : s.length ≤ 1000000) : bQ abK 49 [Pt r 0] G [bD r sc s false a n c d] (fun v L'=>v = Bo x ∧ L' = [bD r sc q false a n c d]):=by
 have e:=dO h
 subst e
 have hl : ((if x = true then 1 else 0) :: q).length = q.length + 1:=rfl
 have cx_tkb:=iT (G:=G) (r:=r) (sc:=sc) (m:=1) (n:=n) (c:=c) (s:=(if x = true then 1 else 0) :: q) (a:=a) (d:=d) ⟨oM,hs⟩
 cases x
 ·have cx_tkb : bQ abK 45 [Pt r 0,I 1] G [bD r sc (0 :: q) false a n c d] (fun v L'=>v = S [0] ∧ L' = [bD r sc q false a n c d]):=cx_tkb
  refine jH [(0,_)] Tryz.func49 Tryz.ntmps49 fun B hB hW=>?_
  repeat' (first | refine jR ?_ | (refine jo ?_;(refine af F F F cx_tkb F ?_;rintro _ _ ⟨rfl,rfl⟩;dsimp only [zA,fA])) | refine ad F F ?_)
  all_goals exact aZ (vs:=[_]) F ⟨F,trivial⟩ F (List.Sublist.refl _) ⟨F,F,F⟩
 ·have cx_tkb : bQ abK 45 [Pt r 0,I 1] G [bD r sc (1 :: q) false a n c d] (fun v L'=>v = S [1] ∧ L' = [bD r sc q false a n c d]):=cx_tkb
  refine jH [(0,_)] Tryz.func49 Tryz.ntmps49 fun B hB hW=>?_
  repeat' (first | refine jR ?_ | (refine jo ?_;(refine af F F F cx_tkb F ?_;rintro _ _ ⟨rfl,rfl⟩;dsimp only [zA,fA])) | refine ad F F ?_)
  all_goals exact aZ (vs:=[_]) F ⟨F,trivial⟩ F (List.Sublist.refl _) ⟨F,F,F⟩
theorem rq {r sc n c : Nat} {s : abL} {b : Bool} {a : Option Addr} {d : Int} (h : b = true ∨ bM s = none) (hs : s.length ≤ 1000000) : bQ abK 49 [Pt r 0] G [bD r sc s b a n c d] (fun v L'=>∃ q,(v = Bo false ∧ q.length ≤ s.length) ∧ L' = [bD r sc q true a n c d]):=by
 by_cases h1 : b = true ∨ s.length < 1
 ·have cx_tkb:=fe (G:=G) (r:=r) (sc:=sc) (m:=1) (n:=n) (c:=c) (s:=s) (b:=b) (a:=a) (d:=d) h1 ⟨hs,oM⟩
  have cx_tkb : bQ abK 45 [Pt r 0,I 1] G [bD r sc s b a n c d] (fun v L'=>v = S [] ∧ L' = [bD r sc s true a n c d]):=cx_tkb
  refine jH [(0,_)] Tryz.func49 Tryz.ntmps49 fun B hB hW=>?_
  repeat' (first | refine jR ?_ | (refine jo ?_;(refine af F F F cx_tkb F ?_;rintro _ _ ⟨rfl,rfl⟩;dsimp only [zA,fA])) | refine ad F F ?_)
  all_goals exact aZ (vs:=[_]) F ⟨F,trivial⟩ F (List.Sublist.refl _) ⟨F,s,⟨F,Nat.le_refl _⟩,F⟩
 ·obtain rfl : b = false:=by cases b;rfl;exact absurd (.inl F) h1
  match s,h,hs,h1 with
  | [],_,_,h1=>exact absurd (.inr (by simp)) h1
  | e :: q,h,hs,_ =>
   have he : e.toNat ≠ 0 ∧ e.toNat ≠ 1:=by
    rcases h with h | h
    ·cases h
    ·unfold bM at h
     dsimp only at h
     split at h
     ·cases h
     ·split at h
      ·cases h
      ·exact ⟨by assumption,by assumption⟩
   have hl : (e :: q).length = q.length + 1:=rfl
   have cx_tkb:=iT (G:=G) (r:=r) (sc:=sc) (m:=1) (n:=n) (c:=c) (s:=e :: q) (a:=a) (d:=d) ⟨oM,hs⟩
   have cx_tkb : bQ abK 45 [Pt r 0,I 1] G [bD r sc (e :: q) false a n c d] (fun v L'=>v = S [e] ∧ L' = [bD r sc q false a n c d]):=cx_tkb
   have hne : ¬ [e] = [1]:=fun h=>by simp only [List.cons.injEq,and_true] at h;subst h;exact he.2 F
   have hbl : Op.bytesLess [e] [1] = false:=by
    cases hb : Op.bytesLess [e] [1] with
    | false=>rfl
    | true =>
     exfalso
     unfold Op.bytesLess at hb
     have h9 : ¬ e.toNat < (1 : UInt8).toNat:=by show ¬ e.toNat < 1;omega
     simp_all
   have hc : (!(Op.bytesLess [e] [1] || decide ([e] = [1]))) = true:=by rw [hbl,decide_eq_false hne];rfl
   refine jH [(0,_)] Tryz.func49 Tryz.ntmps49 fun B hB hW=>?_
   repeat' (first | refine jR ?_ | (refine jo ?_;first | refine jD F F F ?_ | (refine af F F F cx_tkb F ?_;rintro _ _ ⟨rfl,rfl⟩;dsimp only [zA,fA])) | refine ac F ‹_› ?_)
   all_goals exact aZ (vs:=[_]) F ⟨F,trivial⟩ F (List.Sublist.refl _) ⟨F,q,⟨by rw [decide_eq_false hne];all_goals rfl,oM⟩,rfl⟩
variable {ts : List Ty}
theorem mO {f : abL → Option (V × abL)} (h : ∀ s v r,f s = some (v,r) → r.length < s.length) : ∀ (m : Nat) (s : abL) (acc : List V) {x : List V × abL},bB f m s acc = some x → x.2.length + m ≤ s.length
 | 0,s,acc,x,e=>by simp only [bB,Option.some.injEq] at e;subst e;dsimp only;omega
 | m + 1,s,acc,x,e=>by
  unfold bB at e
  cases hf : f s with
  | none=>rw [hf] at e;cases e
  | some y =>
   rw [hf] at e
   obtain ⟨v,r⟩:=y
   have h1:=mO h m r _ e
   have h2:=h _ _ _ hf
   omega
theorem kB {f : abL → abL → Option (V × abL)} {t : Ty} : ∀ (m : Nat) (last : Int) (s : abL) (acc : List V) {x : List V × abL},bI ts f t m last s acc = some x → x.2.length < s.length
 | 0,_,_,_,_,e=>by cases e
 | m + 1,last,s,acc,x,e=>by
  unfold bI at e
  cases hn : bc s with
  | none=>rw [hn] at e;cases e
  | some y =>
   rw [hn] at e
   obtain ⟨n,r⟩:=y
   have hl:=bx hn
   dsimp only at e
   split at e
   ·simp only [Option.some.injEq] at e;subst e;exact hl
   ·split at e
    ·cases e
    ·rename_i p r' hp
     have hl2:=dz hp
     split at e
     ·cases e
     ·split at e
      ·have:=kB m n r' _ e;omega
      ·split at e
       ·cases e
       ·have:=kB m n r' _ e;omega
theorem rO {f : abL → abL → Option (V × abL)} {t : Ty} {s r : abL} {v : V} (e : bP ts f t s = some (v,r)) : r.length < s.length:=by
 unfold bP at e
 split at e
 ·cases hi : bI ts f t (s.length + 1) 0 s [] with
  | none=>rw [hi] at e;cases e
  | some y=>rw [hi] at e;cases e;exact kB _ _ _ _ hi
 ·split at e
  ·cases e
  ·rename_i n q hn
   have hl:=bx hn
   split at e
   ·cases e
   ·rename_i d hd
    split at e
    ·cases e;exact hl
    ·split at e
     ·cases e
     ·rename_i p r' hp
      have hl2:=dz hp
      cases ha : cG f d.kind p with
      | none=>rw [ha] at e;cases e
      | some w=>rw [ha] at e;cases e;omega
theorem nX : ∀ (n : Nat) (k s : abL) (v : V) (r : abL),rb ts n k s = some (v,r) → r.length < s.length
 | 0,_,_,_,_,e=>by cases e
 | n + 1,k,s,v,r,e=>by
  have ih:=nX n
  replace e : eV ts (rb ts n) k s = some (v,r):=e
  cases k with
  | nil=>cases e
  | cons c k =>
   unfold eV at e
   dsimp only at e
   split at e
   ·split at e
    ·cases e
    ·rename_i q1 q hn
     have hl:=bx hn
     split at e
     ·cases hi : bB (rb ts n k) q1.toNat q [] with
      | none=>rw [hi] at e;cases e
      | some y=>rw [hi] at e;cases e;have:=mO (ih k) _ _ _ hi;omega
     ·cases e
   ·split at e
    ·cases hb : bM s with
     | none=>rw [hb] at e;cases e
     | some y =>
      rw [hb] at e
      obtain ⟨b,q⟩:=y
      have hl : s.length = q.length + 1:=by rw [dO hb];rfl
      cases b with
      | false=>cases e;omega
      | true =>
       dsimp only at e
       cases hf : rb ts n k q with
       | none=>rw [hf] at e;cases e
       | some y=>rw [hf] at e;obtain ⟨w,q2⟩:=y;cases e;have:=ih _ _ _ _ hf;dsimp only;omega
    ·split at e
     ·exact rO e
     ·split at e
      ·cases hn : bc s with
       | none=>rw [hn] at e;cases e
       | some y=>rw [hn] at e;obtain ⟨a,q⟩:=y;cases e;exact bx hn
      ·split at e
       ·split at e
        ·cases e
        ·rename_i p q hp
         have hl2:=dz hp
         split at e
         ·cases e;omega
         ·cases e
       ·split at e
        ·cases hb : bM s with
         | none=>rw [hb] at e;cases e
         | some y=>rw [hb] at e;obtain ⟨b,q⟩:=y;have hl : s.length = q.length + 1:=by { rw [dO hb];rfl };cases e;dsimp only;omega
        ·cases e
theorem yC {n : Nat} {k : abL} : rb ts n k [] = none:=by
 cases h : rb ts n k [] with
 | none=>rfl
 | some x=>have:=nX n k [] x.1 x.2 h;simp at this
theorem uu {n : Nat} {k s : abL} : rb ts (n + 1) (91 :: k) s = match bc s with
      | none=>none
      | some (m,r)=>if m ≤ 20 then (bB (rb ts n k) m.toNat r []).map fun x=>(.nd 91 [] 0 x.1,x.2) else none:=by
  rw [rb];unfold eV;dsimp only;rw [if_pos dC]
  all_goals (rcases bc s with _ | ⟨b,r⟩)
  all_goals rfl
theorem ut {n : Nat} {k s : abL} : rb ts (n + 1) (63 :: k) s = match bM s with
      | none=>none
      | some (false,r)=>some (.nd 63 [] 0 [],r)
      | some (true,r)=>(rb ts n k r).map fun x=>(.nd 63 [] 0 [x.1],x.2):=by
  rw [rb];unfold eV;dsimp only;rw [if_neg dC,if_pos dC]
  all_goals (rcases bM s with _ | ⟨b,r⟩)
  all_goals (try cases b)
  all_goals rfl
theorem vO {n : Nat} {r s : abL} {t : Ty} (h : aV ts (64 :: r) = some t) : rb ts (n + 1) (64 :: r) s = bP ts (rb ts n) t s:=by
 rw [rb];unfold eV;dsimp only;rw [if_neg dC,if_neg dC,h]
theorem yD {n : Nat} {s : abL} (h : aV ts [110] = none) : rb ts (n + 1) [110] s = (bc s).map fun x=>(.nd 110 (br x.1) 0 [],x.2):=by
 rw [rb];unfold eV;dsimp only;rw [if_neg dC,if_neg dC,h];dsimp only;rw [if_pos dC]
theorem yB {n : Nat} {s : abL} (h : aV ts [116] = none) : rb ts (n + 1) [116] s = match bL s with
          | none=>none
          | some (p,r)=>if cW (39 :: (p ++ [39])) = true then some (.nd 116 p 0 [],r) else none:=by
  rw [rb];unfold eV;dsimp only;rw [if_neg dC,if_neg dC,h];dsimp only;rw [if_neg dC,if_pos dC]
  all_goals (rcases bL s with _ | ⟨b,r⟩)
  all_goals rfl
theorem yE {n : Nat} {s : abL} (h : aV ts [102] = none) : rb ts (n + 1) [102] s = (bM s).map fun x=>(.nd 102 (if x.1 = true then [121,101,115] else [110,111]) 0 [],x.2):=by
 rw [rb];unfold eV;dsimp only;rw [if_neg dC,if_neg dC,h];dsimp only;rw [if_neg dC,if_neg dC,if_pos dC]
theorem mN {f : abL → Option (V × abL)} (h : ∀ s v r,f s = some (v,r) → v.tot + 100 * r.length ≤ 100 * s.length) : ∀ (m : Nat) (s : abL) (acc : List V) {x : List V × abL},bB f m s acc = some x → V.tots x.1 + 100 * x.2.length ≤ V.tots acc + 100 * s.length
 | 0,s,acc,x,e=>by simp only [bB,Option.some.injEq] at e;subst e;exact Nat.le_refl _
 | m + 1,s,acc,x,e=>by
  unfold bB at e
  cases hf : f s with
  | none=>rw [hf] at e;cases e
  | some y =>
   rw [hf] at e
   obtain ⟨v,r⟩:=y
   have h1:=mN h m r _ e
   have h2:=h _ _ _ hf
   have e2 : V.tots (acc ++ [v]) = V.tots acc + v.tot:=by simp [fN,V.tots]
   omega
theorem kz {f : abL → abL → Option (V × abL)} (h : ∀ k s v r,f k s = some (v,r) → v.tot + 100 * r.length ≤ 100 * s.length) {t : Ty} : ∀ (m : Nat) (last : Int) (s : abL) (acc : List V) {x : List V × abL},bI ts f t m last s acc = some x → V.tots x.1 + 100 * x.2.length + 100 ≤ V.tots acc + 100 * s.length
 | 0,_,_,_,_,e=>by cases e
 | m + 1,last,s,acc,x,e=>by
  unfold bI at e
  cases hn : bc s with
  | none=>rw [hn] at e;cases e
  | some y =>
   rw [hn] at e
   obtain ⟨n,r⟩:=y
   have hl:=bx hn
   dsimp only at e
   split at e
   ·simp only [Option.some.injEq] at e;subst e;dsimp only;omega
   ·split at e
    ·cases e
    ·rename_i p r' hp
     have hl2:=dz hp
     split at e
     ·cases e
     ·split at e
      ·have:=kz h m n r' _ e;omega
      ·rename_i d hd
       split at e
       ·cases e
       ·rename_i v hv
        have h1:=kz h m n r' _ e
        have h2:=h _ _ _ _ (cE hv)
        have e2 : V.tots (acc ++ [V.nd 61 [] d.tag [v]]) = V.tots acc + (20 + v.tot):=by simp [fN,V.tots,V.tot]
        simp only [List.length_nil] at h2
        split at h1
        ·omega
        ·omega
theorem rN {f : abL → abL → Option (V × abL)} (h : ∀ k s v r,f k s = some (v,r) → v.tot + 100 * r.length ≤ 100 * s.length) {t : Ty} {s r : abL} {v : V} (e : bP ts f t s = some (v,r)) : v.tot + 100 * r.length ≤ 100 * s.length:=by
 unfold bP at e
 split at e
 ·cases hi : bI ts f t (s.length + 1) 0 s [] with
  | none=>rw [hi] at e;cases e
  | some y =>
   rw [hi] at e;cases e
   have:=kz h _ _ _ _ hi
   simp only [V.tot,V.tots,List.length_nil] at this ⊢;omega
 ·split at e
  ·cases e
  ·rename_i n q hn
   have hl:=bx hn
   split at e
   ·cases e
   ·rename_i d _
    split at e
    ·cases e;simp only [V.tot,V.tots,List.length_nil];omega
    ·split at e
     ·cases e
     ·rename_i p r' hp
      have hl2:=dz hp
      cases ha : cG f d.kind p with
      | none=>rw [ha] at e;cases e
      | some w =>
       rw [ha] at e;cases e
       have:=h _ _ _ _ (cE ha)
       simp only [V.tot,V.tots,List.length_nil] at this ⊢;omega
theorem iH : ∀ (n : Nat) (k s : abL) (v : V) (r : abL),rb ts n k s = some (v,r) → v.tot + 100 * r.length ≤ 100 * s.length
 | 0,_,_,_,_,e=>by cases e
 | n + 1,k,s,v,r,e=>by
  have ih:=iH n
  replace e : eV ts (rb ts n) k s = some (v,r):=e
  cases k with
  | nil=>cases e
  | cons c k =>
   unfold eV at e
   dsimp only at e
   split at e
   ·split at e
    ·cases e
    ·rename_i q1 q hn
     have hl:=bx hn
     split at e
     ·cases hi : bB (rb ts n k) q1.toNat q [] with
      | none=>rw [hi] at e;cases e
      | some y =>
       rw [hi] at e;cases e
       have:=mN (ih k) _ _ _ hi
       simp only [V.tot,V.tots,List.length_nil] at this ⊢;omega
     ·cases e
   ·split at e
    ·cases hb : bM s with
     | none=>rw [hb] at e;cases e
     | some y =>
      rw [hb] at e
      obtain ⟨b,q⟩:=y
      have hl : s.length = q.length + 1:=by rw [dO hb];rfl
      cases b with
      | false=>cases e;simp only [V.tot,V.tots,List.length_nil];omega
      | true =>
       dsimp only at e
       cases hf : rb ts n k q with
       | none=>rw [hf] at e;cases e
       | some y=>rw [hf] at e;obtain ⟨w,q2⟩:=y;cases e;have:=ih _ _ _ _ hf;simp only [V.tot,V.tots,List.length_nil];omega
    ·split at e
     ·exact rN ih e
     ·split at e
      ·cases hn : bc s with
       | none=>rw [hn] at e;cases e
       | some y =>
        rw [hn] at e;obtain ⟨a,q⟩:=y;cases e
        have hl:=bx hn
        obtain ⟨h0,h1,_⟩:=cm hn
        have:=uV (m:=a) h1
        simp only [V.tot,V.tots];omega
      ·split at e
       ·split at e
        ·cases e
        ·rename_i p q hp
         have hl2:=dz hp
         split at e
         ·cases e;simp only [V.tot,V.tots];omega
         ·cases e
       ·split at e
        ·cases hb : bM s with
         | none=>rw [hb] at e;cases e
         | some y =>
          rw [hb] at e;obtain ⟨b,q⟩:=y
          have hl : s.length = q.length + 1:=by rw [dO hb];rfl
          cases e
          cases b
          all_goals (simp [V.tot,V.tots];omega)
        ·cases e
theorem lF {f : abL → Option (V × abL)} {m : Nat} {t r : abL} {acc : List V} {v : V} (hf : f t = some (v,r)) : bB f (m + 1) t acc = bB f m r (acc ++ [v]):=by
 rw [bB,hf]
theorem nZ {f : abL → Option (V × abL)} {m : Nat} {t : abL} {acc : List V} (hf : f t = none) : bB f (m + 1) t acc = none:=by
 rw [bB,hf]
theorem qu {f : abL → abL → Option (V × abL)} {ty : Ty} {m : Nat} {la : Int} {t r : abL} {acc : List V} (h : bc t = some (0,r)) : bI ts f ty (m + 1) la t acc = some (acc,r):=by rw [bI,h];dsimp only;rw [if_pos rfl]
theorem n8 {f : abL → abL → Option (V × abL)} {ty : Ty} {m : Nat} {la : Int} {t : abL} {acc : List V} (h : bc t = none) : bI ts f ty (m + 1) la t acc = none:=by rw [bI,h]
theorem kA {f : abL → abL → Option (V × abL)} {ty : Ty} {m : Nat} {la n : Int} {t r : abL} {acc : List V} (h : bc t = some (n,r)) (h0 : n ≠ 0) (hp : bL r = none) : bI ts f ty (m + 1) la t acc = none:=by rw [bI,h];dsimp only;rw [if_neg h0,hp]
theorem n7 {f : abL → abL → Option (V × abL)} {ty : Ty} {m : Nat} {la n : Int} {t r p r' : abL} {acc : List V} (h : bc t = some (n,r)) (h0 : n ≠ 0) (hp : bL r = some (p,r')) (hl : n ≤ la) : bI ts f ty (m + 1) la t acc = none:=by rw [bI,h];dsimp only;rw [if_neg h0,hp];dsimp only;rw [if_pos hl]
theorem mQ {f : abL → abL → Option (V × abL)} {ty : Ty} {m : Nat} {la n : Int} {t r p r' : abL} {acc : List V} (h : bc t = some (n,r)) (h0 : n ≠ 0) (hp : bL r = some (p,r')) (hl : ¬ n ≤ la) (hd : bJ ty.fields n = none) : bI ts f ty (m + 1) la t acc = bI ts f ty m n r' acc:=by rw [bI,h];dsimp only;rw [if_neg h0,hp];dsimp only;rw [if_neg hl,hd]
theorem n6 {f : abL → abL → Option (V × abL)} {ty : Ty} {m : Nat} {la n : Int} {t r p r' : abL} {acc : List V} {d : Fld} (h : bc t = some (n,r)) (h0 : n ≠ 0) (hp : bL r = some (p,r')) (hl : ¬ n ≤ la) (hd : bJ ty.fields n = some d) (ha : cG f d.kind p = none) : bI ts f ty (m + 1) la t acc = none:=by rw [bI,h];dsimp only;rw [if_neg h0,hp];dsimp only;rw [if_neg hl,hd];dsimp only;rw [ha]
theorem n5 {f : abL → abL → Option (V × abL)} {ty : Ty} {m : Nat} {la n : Int} {t r p r' : abL} {acc : List V} {d : Fld} {v : V} (h : bc t = some (n,r)) (h0 : n ≠ 0) (hp : bL r = some (p,r')) (hl : ¬ n ≤ la) (hd : bJ ty.fields n = some d) (ha : cG f d.kind p = some v) : bI ts f ty (m + 1) la t acc = bI ts f ty m n r' (if v.out = cL ts d then acc else acc ++ [.nd 61 [] d.tag [v]]):=by rw [bI,h];dsimp only;rw [if_neg h0,hp];dsimp only;rw [if_neg hl,hd];dsimp only;rw [ha]
end Go.E
