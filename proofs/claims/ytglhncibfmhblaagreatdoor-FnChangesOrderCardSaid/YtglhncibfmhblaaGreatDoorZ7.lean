/- Contracts and plain laws that the statement rests on, part 7. Conditions: as each says. -/
import Derived.Test.YtglhncibfmhblaaGreatDoorZ6
set_option linter.unusedVariables false
set_option linter.unusedSimpArgs false
namespace Go.E
set_option maxRecDepth 20000
set_option maxHeartbeats 2000000
open Go.Proofs
variable {G : Gh}
def gV (p : Int → Bool) (m : Nat) : List Int:=((List.range m).map fun i : Nat=>(i : Int) + 1).filter p
theorem sJ (p : Int → Bool) (m : Nat) : gV p (m + 1) = gV p m ++ if p ((m : Int) + 1) = true then [(m : Int) + 1] else []:=by
 unfold gV
 rw [List.range_succ,List.map_append,List.filter_append]
 congr 1
 simp only [List.map_cons,List.map_nil]
 by_cases h : p ((m : Int) + 1) = true
 ·rw [if_pos h,List.filter_cons_of_pos h,List.filter_nil]
 ·rw [if_neg h,List.filter_cons_of_neg h,List.filter_nil]
theorem z4 (p : Int → Bool) (m : Nat) : (gV p m).length ≤ m:=by
 unfold gV
 refine Nat.le_trans (List.length_filter_le _ _) ?_
 simp
def mO (m : Nat) : List Int:=(List.range m).map fun i : Nat=>(i : Int)
theorem yk (m : Nat) : mO (m + 1) = mO m ++ [(m : Int)]:=by unfold mO;rw [List.range_succ,List.map_append];rfl
theorem qJ (m : Nat) : (mO m).length = m:=by unfold mO;simp
theorem aam {a b : List Int} {n : Int} : (a ++ b).contains n = true ↔ (∃ i,i < a.length ∧ ab a i = n) ∨ ∃ i,i < b.length ∧ ab b i = n:=by
 rw [List.contains_iff_mem,List.mem_append]
 constructor
 ·rintro (h | h)
  ·obtain ⟨i,hi,e⟩:=List.mem_iff_getElem.1 h
   exact .inl ⟨i,hi,by rw [aI hi];exact e⟩
  ·obtain ⟨i,hi,e⟩:=List.mem_iff_getElem.1 h
   exact .inr ⟨i,hi,by rw [aI hi];exact e⟩
 ·rintro (⟨i,hi,e⟩ | ⟨i,hi,e⟩)
  ·exact .inl (by rw [← e];exact bC hi)
  ·exact .inr (by rw [← e];exact bC hi)
abbrev sQ : TypeId:=3
theorem wJ {ts : List Ty} {k : ael} {a b : V} {ba bb : Nat} (ha : RepR G ts a k ba) (hb : RepR G ts b k bb) (oa : OfK ts k a) (ob : OfK ts k b) (ht : a.tot ≤ 100000 ∧ b.tot ≤ 100000) (hd : bZ a b = true) :
  bJ aek 53 [Pt ba 0,Pt bb 0] G (fun v G'=>∃ p c,v = .slice p (aU a b).length c ∧ aN G' (.slice p (aU a b).length c) 1 (aU a b).length (ag cL (aU a b))):=by
 have hwh:=pC oa ob
 obtain ⟨tx,a1,c1,a2,c2,hsa,hta,hca⟩:=lX ha
 obtain ⟨ty,b1,d1,b2,d2,hsb,htb,hcb⟩:=lX hb
 have kid : (a.what = 91 ∨ a.what = 63) → ∀ c r,k = c :: r → c.toNat ≠ 64 → bJ aek 53 [Pt ba 0,Pt bb 0] G (fun v G'=>∃ p c,v = .slice p (aU a b).length c ∧ aN G' (.slice p (aU a b).length c) 1 (aU a b).length (ag cL (aU a b))):=fun hw c r hk hc=>by
  subst hk
  have hk0 : bt (c :: r) (Int.toNat 0) = c.toNat:=bH c r
  have hkl : (c :: r).length = r.length + 1:=rfl
  have hlk : 20 * a.kids.length ≤ a.tot:=by
   obtain ⟨w1,x,t,ks⟩:=a
   rw [bK,V.kids]
   have:=dq ks
   omega
  have e : aU a b = mO a.kids.length:=by unfold aU;rw [if_pos hw];rfl
  rw [e,qJ]
  refine jB [(0,_),(1,_)] Tryz.func53 Tryz.ntmps53 fun B hok hB hW=>?_
  repeat' (first | refine jM ?_ | (refine jo ?_;first | refine jF fun _=>?_ | refine jV (aj F F aS F F) ?_) | refine ac F (aA oM) ?_)
  rename_i y
  refine Nx.blkAcc (m:=0) (sz:=1) .here F ?_
  refine aW (ι:=Nat × Option Addr × Nat) (fun i=>i.1 ≤ a.kids.length) (fun i=>[(0,Pt ba 0),(5,.slice i.2.1 i.1 i.2.2),(6,I i.1)]) (fun _=>G) (fun i=>[.acc (.slice i.2.1 i.1 i.2.2) sQ 1 i.1 (ag cL (mO i.1))]) (fun i=>a.kids.length - i.1) (0,some ⟨y,0,none⟩,0) ?_ tU F bc (fun i Hi=>?_)
  ·exact Nat.zero_le _
  obtain ⟨i,p,cap⟩:=i
  dsimp only at Hi ⊢
  have hrow : ag cL (mO (i + 1)) = ag cL (mO i) ++ [I (i : Nat)]:=by rw [yk];exact bX cL (mO i) _
  by_cases hi : i < a.kids.length
  ·repeat' (first | refine jM ?_ | (refine jo ?_;first | refine jF fun _=>?_ | refine jV (aj F F aS F F) ?_ | refine jV (af F) ?_ | refine bG F F F F F F F F F oM fun _ _=>?_) | refine ac F (aA oM) ?_)
   rename_i y1 av cv
   exact br (i + 1,some ⟨av,0,none⟩,cv) (by dsimp only;omega) (by dsimp only;omega) tU rfl (by dsimp only;rw [hrow];repeat (first | exact List.nil_sublist _ | apply List.Sublist.cons_cons))
  ·obtain rfl : i = a.kids.length:=oM
   repeat' (first | refine jR ?_ | (refine jo ?_;first | refine jV (aj F F aS F F) ?_ | refine jV (af F) ?_) | refine ad F (aH oM) ?_)
   refine Nx.sealS (v:=.slice p a.kids.length cap) fun G2 hG2 hsl=>?_
   refine jZ (vs:=[_]) F ⟨F,trivial⟩ F ⟨hG2,F,?_⟩
   exact ⟨_,_,F,hsl⟩
 rcases hca with ⟨⟨r,rfl⟩,h⟩ | ⟨⟨r,rfl⟩,h⟩ | ⟨⟨r,rfl⟩,h⟩ | ⟨hk,h⟩
 ·have hk0 : bt (64 :: r) (Int.toNat 0) = 64:=bH 64 r
  have hkl : (64 :: r).length = r.length + 1:=rfl
  have ta : iy a = cM a:=by
   unfold bZ at hd
   unfold iy cM
   by_cases h1 : a.what = 82
   ·rw [if_pos h1,if_pos h1]
   ·by_cases h2 : a.what = 85
    ·rw [if_neg h1,if_neg h1,if_pos (.inl h2)]
    ·rw [if_neg h1,if_neg h2,if_neg oM] at hd;cases hd
  have tb2 : iy b = cM b:=by
   unfold bZ at hd
   unfold iy cM
   by_cases h1 : a.what = 82
   ·have h1b:=hwh.symm.trans h1
    rw [if_pos h1b,if_pos h1b]
   ·by_cases h2 : a.what = 85
    ·have h2b:=hwh.symm.trans h2
     have h1b : ¬ b.what = 82:=oM
     rw [if_neg h1b,if_neg h1b,if_pos (.inl h2b)]
    ·rw [if_neg h1,if_neg h2,if_neg oM] at hd;cases hd
  have e : aU a b = gV (fun n=>(cM a ++ cM b).contains n) 200:=by unfold aU;rw [if_neg oM];rfl
  rw [e]
  have hla : (cM a).length ≤ 100000:=by
   obtain ⟨w1,x,t,ks⟩:=a
   rw [bK] at ht
   have:=dq ks
   unfold cM
   rw [V.what,V.kids,V.tag]
   split
   ·rw [List.length_map];omega
   ·simp
  have hlb : (cM b).length ≤ 100000:=by
   obtain ⟨w1,x,t,ks⟩:=b
   rw [bK] at ht
   have:=dq ks
   unfold cM
   rw [V.what,V.kids,V.tag]
   split
   ·rw [List.length_map];omega
   ·simp
  rw [ta] at hsa hta
  rw [tb2] at hsb htb
  clear ta tb2 kid e hd
  generalize hTa : cM a = ta at *
  generalize hTb : cM b = tb2 at *
  generalize hP : (fun n=>(ta ++ tb2).contains n) = pp
  have hpy : ∀ n,pp n = true ↔ (∃ i,i < ta.length ∧ ab ta i = n) ∨ ∃ i,i < tb2.length ∧ ab tb2 i = n:=fun n=>by rw [← hP];exact aam
  refine jB [(0,_),(1,_)] Tryz.func53 Tryz.ntmps53 fun B hok hB hW=>?_
  repeat' (first | refine jM ?_ | (refine jo ?_;first | refine jF fun _=>?_ | refine jV (aj F F aS F F) ?_) | refine ad F F ?_)
  rename_i y
  refine Nx.blkAcc (m:=0) (sz:=1) .here F ?_
  refine aW (ι:=Nat × Option Addr × Nat) (fun i=>i.1 ≤ 200) (fun i=>[(0,Pt ba 0),(1,Pt bb 0),(5,.slice i.2.1 (gV pp i.1).length i.2.2),(7,I ((i.1 : Nat) + 1))]) (fun _=>G) (fun i=>[.acc (.slice i.2.1 (gV pp i.1).length i.2.2) sQ 1 (gV pp i.1).length (ag cL (gV pp i.1))]) (fun i=>200 - i.1) (0,some ⟨y,0,none⟩,0) ?_ tU F bc (fun i Hi=>?_)
  ·exact Nat.zero_le _
  obtain ⟨m,p,cap⟩:=i
  dsimp only at Hi ⊢
  have hml:=z4 pp m
  by_cases hm : m < 200
  ·repeat' (first | refine jR ?_ | refine ac F (aA oM) ?_)
   refine aW (ι:=Nat) (fun j=>j ≤ ta.length + tb2.length ∧ (∀ i,i < j → i < ta.length → ab ta i ≠ (m : Int) + 1) ∧ ∀ i,ta.length + i < j → ab tb2 i ≠ (m : Int) + 1) (fun j=>[(0,Pt ba 0),(1,Pt bb 0),(5,.slice p (gV pp m).length cap),(7,I ((m : Nat) + 1)),(8,I j)]) (fun _=>G) (fun j=>[.acc (.slice p (gV pp m).length cap) sQ 1 (gV pp m).length (ag cL (gV pp m))]) (fun j=>ta.length + tb2.length - j) 0 ?_ tU F bc (fun j Hj=>?_)
   ·exact ⟨Nat.zero_le _,fun i h=>absurd h (Nat.not_lt_zero _),fun i h=>absurd h (Nat.not_lt_zero _)⟩
   obtain ⟨hj0,hj1,hj2⟩:=Hj
   have hrow1 : pp ((m : Int) + 1) = true → ag cL (gV pp (m + 1)) = ag cL (gV pp m) ++ [I ((m : Nat) + 1)] ∧ (gV pp (m + 1)).length = (gV pp m).length + 1:=fun h=>by
    rw [sJ,if_pos h]
    exact ⟨bX cL (gV pp m) _,by rw [List.length_append];rfl⟩
   have hrow0 : ¬ pp ((m : Int) + 1) = true → gV pp (m + 1) = gV pp m:=fun h=>by rw [sJ,if_neg h,List.append_nil]
   by_cases hj : j < ta.length + tb2.length
   ·by_cases h1 : j < ta.length
    ·obtain ⟨xb,xo,xc,e1,hxa⟩:=hta.expl oM
     simp only [Value.slice.injEq] at e1
     obtain ⟨rfl,-,rfl⟩:=e1
     have hti : ab ta j = ab ta j:=rfl
     by_cases h2 : ab ta j = (m : Int) + 1
     ·obtain ⟨f1,f2⟩:=hrow1 ((hpy _).2 (.inl ⟨j,h1,h2⟩))
      repeat' (first | refine jM ?_ | (refine jo ?_;first | refine jF fun _=>?_ | refine bG F F F F F F F F F oM fun _ _=>?_) | (refine ac F (by first | rfl | (refine decide_eq_true ?_;(omega))) ?_) | (refine an (ao (id:=12) _ (fun _ h=>h) am ?_);refine jT 6 [0,1,2,3,6,7,8] (aa 13 463) ?_;(refine jG (aa 13 479) 4 F (aj F F aS F F) ?_);(refine jG (aa 13 511) 5 F (af F) ?_);(refine jG (aa 13 1023) 9 F (aj F F aS F F) ?_);(refine jG (aa 13 2047) 10 F (af F) ?_);refine jW 0 [11,12] (aa 13 8191) ?_;refine jQ ?_) | (refine an (ao (id:=14) _ (fun _ h=>h) am ?_);refine jT 40 [0,1,2,3] (aa 44 15) ?_;(refine jG (aa 44 31) 4 F (aj F F aS F F) ?_);(refine jG (aa 44 63) 5 F (af F) ?_);refine jT 36 [6,7] (aa 44 255) ?_;(try ((refine Nx.re (d:=56) (v':=Bo true) F (congrArg Value.bool (aA oM)) ?_)));refine jT 31 [8,9,10,12,15] (aa 44 38911) ?_;(refine jG (aa 44 40959) 11 F (aj F F aS F F) ?_);(refine jG (aa 44 49151) 13 F (ak F F oM) ?_);((refine jG (aa 44 65535) 14 F (cn F F aS ?_ aS F) ?_;focus omega));refine jT 27 [16] (aa 44 131071) ?_;(refine jG (aa 44 262143) 17 F (bR F F F) ?_);refine jT 25 [18] (aa 44 524287) ?_;(try (refine Nx.re (d:=67) (v':=Bo true) F (congrArg Value.bool (aA F)) ?_));refine jT 21 [19,20,21,22] (aa 44 8388607) ?_;(refine jN (aa 44 16777215) 23 F ?_);(refine jN (aa 44 33554431) 24 F ?_);refine jT 17 [25,26] (aa 44 134217727) ?_;(try (fail));refine jT 9 [27,28,29,31,32,33,34,40] (aa 44 1132797624319) ?_;(refine jN (aa 44 1133871366143) 30 F ?_);(refine jN (aa 44 1168231104511) 35 F ?_);(refine jN (aa 44 1236950581247) 36 F ?_);refine jT 5 [37] (aa 44 1374389534719) ?_;(refine jN (aa 44 1649267441663) 38 F ?_);(refine jN (aa 44 2199023255551) 39 F ?_);refine jT 2 [41] (aa 44 4398046511103) ?_;(refine jN (aa 44 8796093022207) 42 F ?_);(refine jG (aa 44 17592186044415) 43 F (bR F F F) ?_);refine jQ ?_))
      rename_i y1 b' c'
      exact br (m + 1,some ⟨b',0,none⟩,c') (by dsimp only;omega) (by dsimp only;omega) (by dsimp only;rw [f2];repeat (first | exact trivial | refine ⟨F,?_⟩)) F (by dsimp only;rw [f1,f2];repeat (first | exact List.nil_sublist _ | apply List.Sublist.cons_cons))
     ·repeat' (first | refine jM ?_ | refine ac F (aA oM) ?_ | refine ad F F ?_ | (refine an (ao (id:=12) _ (fun _ h=>h) am ?_);refine jT 6 [0,1,2,3,6,7,8] (aa 13 463) ?_;(refine jG (aa 13 479) 4 F (aj F F aS F F) ?_);(refine jG (aa 13 511) 5 F (af F) ?_);(refine jG (aa 13 1023) 9 F (aj F F aS F F) ?_);(refine jG (aa 13 2047) 10 F (af F) ?_);refine jW 0 [11,12] (aa 13 8191) ?_;refine jQ ?_) | (refine an (ao (id:=14) _ (fun _ h=>h) am ?_);refine jT 40 [0,1,2,3] (aa 44 15) ?_;(refine jG (aa 44 31) 4 F (aj F F aS F F) ?_);(refine jG (aa 44 63) 5 F (af F) ?_);refine jT 36 [6,7] (aa 44 255) ?_;(try ((refine Nx.re (d:=56) (v':=Bo true) F (congrArg Value.bool (aA oM)) ?_)));refine jT 31 [8,9,10,12,15] (aa 44 38911) ?_;(refine jG (aa 44 40959) 11 F (aj F F aS F F) ?_);(refine jG (aa 44 49151) 13 F (ak F F oM) ?_);((refine jG (aa 44 65535) 14 F (cn F F aS ?_ aS F) ?_;focus omega));refine jT 27 [16] (aa 44 131071) ?_;(refine jG (aa 44 262143) 17 F (bR F F F) ?_);refine jT 25 [18] (aa 44 524287) ?_;(try (refine Nx.re (d:=67) (v':=Bo false) F (congrArg Value.bool (aH ‹_›)) ?_));refine jT 21 [19,20,21,22] (aa 44 8388607) ?_;(refine jG (aa 44 16777215) 23 F (aj F F aS F F) ?_);(refine jG (aa 44 33554431) 24 F (af F) ?_);refine jT 17 [25,26] (aa 44 134217727) ?_;(try ((refine Nx.re (d:=75) (v':=Bo false) F (congrArg Value.bool (aH oM)) ?_)));refine jT 9 [27,28,29,31,32,33,34,40] (aa 44 1132797624319) ?_;(refine jN (aa 44 1133871366143) 30 F ?_);(refine jN (aa 44 1168231104511) 35 F ?_);(refine jN (aa 44 1236950581247) 36 F ?_);refine jT 5 [37] (aa 44 1374389534719) ?_;(refine jN (aa 44 1649267441663) 38 F ?_);(refine jN (aa 44 2199023255551) 39 F ?_);refine jT 2 [41] (aa 44 4398046511103) ?_;(refine jG (aa 44 8796093022207) 42 F (bm F F F) ?_);(refine jG (aa 44 17592186044415) 43 F (bm F F F) ?_);refine jQ ?_))
      exact br (j + 1) ⟨oM,fun i hi hi2=>by
       rcases Nat.lt_or_ge i j with h | h
       ·exact hj1 i h hi2
       ·obtain rfl : i = j:=oM
        exact h2,fun i hi=>by omega⟩ oM tU F bc
    ·obtain ⟨i,rfl⟩ : ∃ i,j = ta.length + i:=⟨j - ta.length,oM⟩
     obtain ⟨xb,xo,xc,e1,hxb⟩:=htb.expl oM
     simp only [Value.slice.injEq] at e1
     obtain ⟨rfl,-,rfl⟩:=e1
     have hix : (((ta.length + i : Nat) : Int) - (ta.length : Nat)).toNat = i:=oM
     by_cases h2 : ab tb2 (((ta.length + i : Nat) : Int) - ((ta.length : Nat) : Int)).toNat = (m : Int) + 1
     ·obtain ⟨f1,f2⟩:=hrow1 ((hpy _).2 (.inr ⟨i,oM,by rw [← hix];exact h2⟩))
      repeat' (first | refine jM ?_ | (refine jo ?_;first | refine jF fun _=>?_ | refine bG F F F F F F F F F oM fun _ _=>?_) | (refine ac F (by refine decide_eq_true ?_;first | rfl | omega) ?_) | (refine an (ao (id:=12) _ (fun _ h=>h) am ?_);refine jT 6 [0,1,2,3,6,7,8] (aa 13 463) ?_;(refine jG (aa 13 479) 4 F (aj F F aS F F) ?_);(refine jG (aa 13 511) 5 F (af F) ?_);(refine jG (aa 13 1023) 9 F (aj F F aS F F) ?_);(refine jG (aa 13 2047) 10 F (af F) ?_);refine jW 0 [11,12] (aa 13 8191) ?_;refine jQ ?_) | (refine an (ao (id:=14) _ (fun _ h=>h) am ?_);refine jT 40 [0,1,2,3] (aa 44 15) ?_;(refine jG (aa 44 31) 4 F (aj F F aS F F) ?_);(refine jG (aa 44 63) 5 F (af F) ?_);refine jT 36 [6,7] (aa 44 255) ?_;(try ((refine Nx.re (d:=56) (v':=Bo false) F (congrArg Value.bool (aH oM)) ?_)));refine jT 31 [8,9,10,12,15] (aa 44 38911) ?_;(refine jN (aa 44 40959) 11 F ?_);(refine jN (aa 44 49151) 13 F ?_);(refine jN (aa 44 65535) 14 F ?_);refine jT 27 [16] (aa 44 131071) ?_;(refine jG (aa 44 262143) 17 F (bm F F F) ?_);refine jT 25 [18] (aa 44 524287) ?_;(try (refine Nx.re (d:=67) (v':=Bo false) F (congrArg Value.bool F) ?_));refine jT 21 [19,20,21,22] (aa 44 8388607) ?_;(refine jG (aa 44 16777215) 23 F (aj F F aS F F) ?_);(refine jG (aa 44 33554431) 24 F (af F) ?_);refine jT 17 [25,26] (aa 44 134217727) ?_;(try ((refine Nx.re (d:=75) (v':=Bo true) F (congrArg Value.bool (aA oM)) ?_)));refine jT 9 [27,28,29,31,32,33,34,40] (aa 44 1132797624319) ?_;(refine jG (aa 44 1133871366143) 30 F (aj F F aS F F) ?_);(refine jG (aa 44 1168231104511) 35 F (aj F F aS F F) ?_);(refine jG (aa 44 1236950581247) 36 F (af F) ?_);refine jW 5 [37] (aa 44 1374389534719) ?_;(refine jG (aa 44 1649267441663) 38 F (aT F F oM) ?_);((refine jG (aa 44 2199023255551) 39 F (cn F F aS ?_ aS F) ?_;focus omega));refine jT 2 [41] (aa 44 4398046511103) ?_;(refine jG (aa 44 8796093022207) 42 F (bR F F F) ?_);(refine jG (aa 44 17592186044415) 43 F (bm F F F) ?_);refine jQ ?_))
      rename_i y1 b' c'
      exact br (m + 1,some ⟨b',0,none⟩,c') (by dsimp only;omega) (by dsimp only;omega) (by dsimp only;rw [f2];repeat (first | exact trivial | refine ⟨F,?_⟩)) F (by dsimp only;rw [f1,f2];repeat (first | exact List.nil_sublist _ | apply List.Sublist.cons_cons))
     ·have htj : ab tb2 (((ta.length + i : Nat) : Int) - ((ta.length : Nat) : Int)).toNat = ab tb2 (((ta.length + i : Nat) : Int) - ((ta.length : Nat) : Int)).toNat:=rfl
      repeat' (first | refine jM ?_ | refine ac F (aA oM) ?_ | refine ad F (aH ‹_›) ?_ | (refine an (ao (id:=12) _ (fun _ h=>h) am ?_);refine jT 6 [0,1,2,3,6,7,8] (aa 13 463) ?_;(refine jG (aa 13 479) 4 F (aj F F aS F F) ?_);(refine jG (aa 13 511) 5 F (af F) ?_);(refine jG (aa 13 1023) 9 F (aj F F aS F F) ?_);(refine jG (aa 13 2047) 10 F (af F) ?_);refine jW 0 [11,12] (aa 13 8191) ?_;refine jQ ?_) | (refine an (ao (id:=14) _ (fun _ h=>h) am ?_);refine jT 40 [0,1,2,3] (aa 44 15) ?_;(refine jG (aa 44 31) 4 F (aj F F aS F F) ?_);(refine jG (aa 44 63) 5 F (af F) ?_);refine jT 36 [6,7] (aa 44 255) ?_;(try ((refine Nx.re (d:=56) (v':=Bo false) F (congrArg Value.bool (aH oM)) ?_)));refine jT 31 [8,9,10,12,15] (aa 44 38911) ?_;(refine jN (aa 44 40959) 11 F ?_);(refine jN (aa 44 49151) 13 F ?_);(refine jN (aa 44 65535) 14 F ?_);refine jT 27 [16] (aa 44 131071) ?_;(refine jG (aa 44 262143) 17 F (bm F F F) ?_);refine jT 25 [18] (aa 44 524287) ?_;(try (refine Nx.re (d:=67) (v':=Bo false) F (congrArg Value.bool F) ?_));refine jT 21 [19,20,21,22] (aa 44 8388607) ?_;(refine jG (aa 44 16777215) 23 F (aj F F aS F F) ?_);(refine jG (aa 44 33554431) 24 F (af F) ?_);refine jT 17 [25,26] (aa 44 134217727) ?_;(try ((refine Nx.re (d:=75) (v':=Bo true) F (congrArg Value.bool (aA oM)) ?_)));refine jT 9 [27,28,29,31,32,33,34,40] (aa 44 1132797624319) ?_;(refine jG (aa 44 1133871366143) 30 F (aj F F aS F F) ?_);(refine jG (aa 44 1168231104511) 35 F (aj F F aS F F) ?_);(refine jG (aa 44 1236950581247) 36 F (af F) ?_);refine jW 5 [37] (aa 44 1374389534719) ?_;(refine jG (aa 44 1649267441663) 38 F (aT F F oM) ?_);((refine jG (aa 44 2199023255551) 39 F (cn F F aS ?_ aS F) ?_;focus omega));refine jT 2 [41] (aa 44 4398046511103) ?_;(refine jG (aa 44 8796093022207) 42 F (bR F F F) ?_);(refine jG (aa 44 17592186044415) 43 F (bm F F F) ?_);refine jQ ?_))
      exact br (ta.length + i + 1) ⟨oM,fun i2 hi hi2=>hj1 i2 oM hi2,fun i2 hi=>by
       rcases Nat.lt_or_ge i2 i with h | h
       ·exact hj2 i2 oM
       ·obtain rfl : i2 = i:=oM
        rw [← hix];exact h2⟩ oM tU F bc
   ·have hno : ¬ pp ((m : Int) + 1) = true:=fun h=>by
     rcases (hpy _).1 h with ⟨i,hi,e⟩ | ⟨i,hi,e⟩
     ·exact hj1 i oM hi e
     ·exact hj2 i oM e
    have f0:=hrow0 hno
    repeat' (first | refine jM ?_ | refine ad F (aH oM) ?_ | (refine an (ao (id:=12) _ (fun _ h=>h) am ?_);refine jT 6 [0,1,2,3,6,7,8] (aa 13 463) ?_;(refine jG (aa 13 479) 4 F (aj F F aS F F) ?_);(refine jG (aa 13 511) 5 F (af F) ?_);(refine jG (aa 13 1023) 9 F (aj F F aS F F) ?_);(refine jG (aa 13 2047) 10 F (af F) ?_);refine jW 0 [11,12] (aa 13 8191) ?_;refine jQ ?_))
    exact br (m + 1,p,cap) (by dsimp only;omega) (by dsimp only;omega) (by dsimp only;rw [f0];repeat (first | exact trivial | refine ⟨F,?_⟩)) F (by dsimp only;rw [f0];repeat (exact List.Sublist.refl _))
  ·obtain rfl : m = 200:=oM
   repeat' (first | refine jR ?_ | refine ad F F ?_)
   refine Nx.sealS (v:=.slice p (gV pp 200).length cap) fun G2 hG2 hsl=>?_
   refine jZ (vs:=[_]) F ⟨F,trivial⟩ F ⟨hG2,F,?_⟩
   exact ⟨_,_,F,hsl⟩
 ·exact kid (.inl h) _ _ F dC
 ·exact kid (.inr h) _ _ F dC
 ·exfalso
  unfold bZ at hd
  rw [if_neg oM,if_neg oM,if_neg oM] at hd
  cases hd
theorem n0 {ts : List Ty} (hw : SchW ts) {k : ael} {v : V} (h : OfK ts k v) (hf : v.deep ≤ 12 ∧ v.out.length ≤ 400) : v.tot ≤ 40000:=by
 have:=gB _ _ _ _ (aby hw h hf.1)
 dsimp only at this
 omega
def uZ (ts : List Ty) (n : Nat) (k : ael) (a b : V) (q : List Int) (i : Int) : List (List Int × V):=match aB ts k a i,aB ts k b i with
 | some y,some z=>bB ts n y.1 y.2 z.2 (q ++ [i])
 | _,_=>[]
def dt (ts : List Ty) (n : Nat) (k : ael) (a b : V) (q : List Int) (i : Nat) : List (List Int × V):=((aU a b).take i).flatMap (uZ ts n k a b q)
theorem vl {ts : List Ty} {n : Nat} {k : ael} {a b : V} {q : List Int} (h1 : ¬ a.out = b.out) (h2 : bZ a b = true) : bB ts (n + 1) k a b q = dt ts n k a b q (aU a b).length:=by
 rw [bB,if_neg h1,if_pos h2,dt,List.take_length]
 rfl
theorem tA {ts : List Ty} {n : Nat} {k : ael} {a b : V} {q : List Int} {i : Nat} (hi : i < (aU a b).length) {k1 : ael} {y z : V} (e1 : aB ts k a (ab (aU a b) i) = some (k1,y)) (e2 : aB ts k b (ab (aU a b) i) = some (k1,z)) :
  dt ts n k a b q (i + 1) = dt ts n k a b q i ++ bB ts n k1 y z (q ++ [ab (aU a b) i]):=by
 unfold dt
 rw [dO hi,List.flatMap_append,List.flatMap_singleton]
 congr 1
 unfold uZ
 rw [e1,e2]
theorem xd {ts : List Ty} {n : Nat} {k : ael} {a b : V} {q : List Int} (i : Nat) : (dt ts n k a b q i).length ≤ (dt ts n k a b q (aU a b).length).length:=by
 unfold dt
 rw [List.take_length]
 conv=>rhs;rw [← List.take_append_drop i (aU a b),List.flatMap_append,List.length_append]
 omega
theorem rp {ts : List Ty} {k : ael} {a b : V} (ha : OfK ts k a) : (aU a b).length ≤ 200:=by
 have hk : (a.what = 91 ∨ a.what = 63) → a.kids.length ≤ 20:=fun hwh=>by
  cases ha with
  | num=>rw [V.what] at hwh;omega
  | txt=>rw [V.what] at hwh;omega
  | flg=>rw [V.what] at hwh;omega
  | lst k ks h1 h2=>exact h1
  | non=>exact Nat.zero_le _
  | opt=>exact (by decide : (1 : Nat) ≤ 20)
  | recd=>rw [V.what] at hwh;omega
  | enm=>rw [V.what] at hwh;omega
  | uni=>rw [V.what] at hwh;omega
 unfold aU
 split
 ·rename_i h
  have:=hk h
  simp
  omega
 ·refine Nat.le_trans (List.length_filter_le _ _) ?_
  simp
abbrev mV : TypeId:=55
theorem aa2 {vs : List cG} (hw : SchW (ah vs)) : ∀ (n : Nat) {G : Gh} {u : Value} (_ : SchR G u vs) {k : ael} {a b : V} {ba bb : Nat} (_ : RepR G (ah vs) a k ba) (_ : RepR G (ah vs) b k bb) (_ : OfK (ah vs) k a) (_ : OfK (ah vs) k b) (_ : ax (ah vs) k = true) (_ : a.deep ≤ 12 ∧ a.out.length ≤ 400) (_ : b.deep ≤ 12 ∧ b.out.length ≤ 400) (_ : jr (ah vs) n k a b)
  {q : List Int} (_ : ∀ n ∈ q,0 ≤ n ∧ n ≤ 999999) (_ : q.length + n ≤ 1000) {p0 : Option Addr} {m cap : Nat} {out : List Ch} (_ : m = out.length) (_ : m + (bB (ah vs) n k a b q).length ≤ 1000000),
  fp aek 22 [u,Pt ba 0,Pt bb 0,S (bN q),.slice p0 m cap] G [.acc (.slice p0 m cap) mV 2 m (ag dk out)]
   (fun r _ L'=>∃ p' cap',r = .slice p' (m + (bB (ah vs) n k a b q).length) cap' ∧ L' = [.acc (.slice p' (m + (bB (ah vs) n k a b q).length) cap') mV 2 (m + (bB (ah vs) n k a b q).length) (ag dk (out ++ (bB (ah vs) n k a b q).map c6))]):=by
 intro n
 induction n with
 | zero =>
  intro G u h k a b ba bb ha hb oa ob hk fa fb hl
  exact hl.elim
 | succ n ih =>
  intro G u h k a b ba bb ha hb oa ob hk fa fb hl q hq hql p0 m cap out hm hmx
  have hu:=h.sl.one
  obtain ⟨ua,uc,rfl⟩:=h.sl.sl
  have hta:=n0 hw oa fa
  have htb:=n0 hw ob fb
  have hpl:=gC hq
  have hstl:=rp (b:=b) oa
  by_cases ho : a.out = b.out
  ·have e : bB (ah vs) (n + 1) k a b q = []:=by rw [bB,if_pos ho]
   rw [e]
   simp only [List.length_nil,Nat.add_zero,List.map_nil,List.append_nil]
   refine bM [(0,_),(1,_),(2,_),(3,_),(4,_)] Tryz.func22 kR Tryz.ntmps22 F F tU fun B hB hW=>?_
   have cx_out:=gj hw ha oM
   repeat' (first | refine jR ?_ | (refine jo ?_;refine ae F F F cx_out F ?_))
   have cx_out:=gj hw hb oM
   repeat' (first | refine jR ?_ | (refine jo ?_;refine ae F F F cx_out F ?_) | refine ac F (aA ‹_›) ?_)
   exact aX (vs:=[_]) F ⟨F,trivial⟩ F bc ⟨Gh.le.refl _,_,_,F,F⟩
  by_cases hd : bZ a b = true
  ·have e:=vl (ts:=ah vs) (n:=n) (k:=k) (q:=q) ho hd
   rw [e] at hmx ⊢
   have cx_dp:=sh ha hb oa ob
   rw [hd] at cx_dp
   have cx_stp:=wJ ha hb oa ob oM hd
   have hSq:=h
   have hra:=ha
   have hrb:=hb
   refine bM [(0,_),(1,_),(2,_),(3,_),(4,_)] Tryz.func22 kR Tryz.ntmps22 F F tU fun B hB hW=>?_
   have cx_out:=gj hw ha oM
   repeat' (first | refine jR ?_ | (refine jo ?_;refine ae F F F cx_out F ?_))
   have cx_out:=gj hw hb oM
   repeat' (first | refine jR ?_ | (refine jo ?_;first | refine jV (af F) ?_ | refine ae F F F cx_out F ?_ | refine ae F F F cx_dp F ?_ | (refine ar F F F cx_stp F ?_;rintro _ G hle ⟨sp,sc,rfl,hst⟩;(try have hSq:=SchR.mono hSq hle);(try have hra:=RepR.mono hle hra);(try have hrb:=RepR.mono hle hrb);(try have hrep1:=RepR.mono hle hrep1);(try have hrepy:=RepR.mono hle hrepy);(try have hgq:=Gh.le.trans hgq hle))) | (refine ad F (by first | rfl | (refine decide_eq_false ?_;(assumption))) ?_))
   have hle0:=hle
   rw [show ag dk out = ag dk (out ++ (dt (ah vs) n k a b q 0).map c6) by rw [show dt (ah vs) n k a b q 0 = [] from rfl,List.map_nil,List.append_nil]]
   refine aW (ι:=Nat × Option Addr × Nat × Gh) (fun i=>i.1 ≤ (aU a b).length ∧ Gh.le G i.2.2.2) (fun i=>[(0,.slice ua vs.length uc),(1,Pt ba 0),(2,Pt bb 0),(3,S (bN q)),(4,.slice i.2.1 (m + (dt (ah vs) n k a b q i.1).length) i.2.2.1),(36,.slice sp (aU a b).length sc),(37,I (aU a b).length),(38,I i.1)]) (fun i=>i.2.2.2) (fun i=>[.acc (.slice i.2.1 (m + (dt (ah vs) n k a b q i.1).length) i.2.2.1) mV 2 (m + (dt (ah vs) n k a b q i.1).length) (ag dk (out ++ (dt (ah vs) n k a b q i.1).map c6))]) (fun i=>(aU a b).length - i.1) (0,p0,cap,G) ?_ tU F bc (fun i Hi=>?_)
   ·exact ⟨Nat.zero_le _,Gh.le.refl _⟩
   obtain ⟨i,p,cap,Gq⟩:=i
   dsimp only at Hi ⊢
   obtain ⟨hi0,hgq⟩:=Hi
   by_cases hi : i < (aU a b).length
   ·have hin:=bC hi
    obtain ⟨k1,y,z,e1,e2⟩:=(iI hw oa ob hk hd).1 _ hin
    have hi0:=kQ oa hin
    obtain ⟨y1,y2⟩:=cJ hw oa hk hi0.1 e1
    obtain ⟨z1,_⟩:=cJ hw ob hk hi0.1 e2
    have fy:=gN hw oa hk hi0.1 e1 fa.1 fa.2
    have fz:=gN hw ob hk hi0.1 e2 fb.1 fb.2
    have hls : jr (ah vs) n k1 y z:=by
     rcases hl with h | h | h
     ·exact absurd h ho
     ·rw [hd] at h;cases h
     ·exact h _ hin (k1,y) (k1,z) e1 e2
    have hps:=tA (n:=n) (q:=q) hi e1 e2
    have hpe:=xd (ts:=ah vs) (n:=n) (k:=k) (a:=a) (b:=b) (q:=q) (i + 1)
    have hN1 : m + (dt (ah vs) n k a b q (i + 1)).length = m + (dt (ah vs) n k a b q i).length + (bB (ah vs) n k1 y z (q ++ [ab (aU a b) i])).length:=by rw [hps,List.length_append,Nat.add_assoc]
    have hN2 : out ++ (dt (ah vs) n k a b q (i + 1)).map c6 = out ++ (dt (ah vs) n k a b q i).map c6 ++ (bB (ah vs) n k1 y z (q ++ [ab (aU a b) i])).map c6:=by rw [hps,List.map_append,List.append_assoc]
    have hmo : m + (dt (ah vs) n k a b q i).length = (out ++ (dt (ah vs) n k a b q i).map c6).length:=by rw [List.length_append,List.length_map,hm]
    have hq2 : ∀ n ∈ q ++ [ab (aU a b) i],0 ≤ n ∧ n ≤ 999999:=lr hq ⟨oM,oM⟩
    have cx_lof : ∀ G' b1 b2,SchR G' (.slice ua vs.length uc) vs → RepR G' (ah vs) y k1 b1 → RepR G' (ah vs) z k1 b2 → fp aek 22 [.slice ua vs.length uc,Pt b1 0,Pt b2 0,S (bN (q ++ [ab (aU a b) i])),.slice p (m + (dt (ah vs) n k a b q i).length) cap] G' [.acc (.slice p (m + (dt (ah vs) n k a b q i).length) cap) mV 2 (m + (dt (ah vs) n k a b q i).length) (ag dk (out ++ (dt (ah vs) n k a b q i).map c6))]
      (fun r _ L'=>∃ p' cap',r = .slice p' (m + (dt (ah vs) n k a b q i).length + (bB (ah vs) n k1 y z (q ++ [ab (aU a b) i])).length) cap' ∧ L' = [.acc (.slice p' (m + (dt (ah vs) n k a b q i).length + (bB (ah vs) n k1 y z (q ++ [ab (aU a b) i])).length) cap') mV 2 (m + (dt (ah vs) n k a b q i).length + (bB (ah vs) n k1 y z (q ++ [ab (aU a b) i])).length) (ag dk (out ++ (dt (ah vs) n k a b q i).map c6 ++ (bB (ah vs) n k1 y z (q ++ [ab (aU a b) i])).map c6))]):=fun G' b1 b2 g1 g2 g3 =>
     ih g1 g2 g3 y1 z1 y2 fy fz hls hq2 (by rw [List.length_append,List.length_singleton];omega) hmo oM
    have hSq:=hSq.mono hgq
    have hra:=hra.mono hgq
    have hrb:=hrb.mono hgq
    obtain ⟨xb,xo,xc,e,hs1⟩:=(hst.mono hgq).expl oM
    simp only [Value.slice.injEq] at e
    obtain ⟨rfl,-,rfl⟩:=e
    have hti : ab (aU a b) i = ab (aU a b) i:=rfl
    have cx_sty:=gU.yes (n5 hSq hw hra oa hk (n:=ab (aU a b) i) ⟨oM,oM⟩ oM) e1
    repeat' (first | refine jR ?_ | (refine jo ?_;first | refine jV (ak F F oM) ?_ | (refine jV (cn F F aS ?_ aS F) ?_;focus omega) | (refine ar F F F cx_sty F ?_;rintro _ G hle ⟨b1,rfl,hrep1⟩;(try have hSq:=SchR.mono hSq hle);(try have hra:=RepR.mono hle hra);(try have hrb:=RepR.mono hle hrb);(try have hrep1:=RepR.mono hle hrep1);(try have hrepy:=RepR.mono hle hrepy);(try have hgq:=Gh.le.trans hgq hle))) | refine ac F (aA oM) ?_)
    have hrepy:=hrep1
    have cx_sty:=gU.yes (n5 hSq hw hrb ob hk (n:=ab (aU a b) i) ⟨oM,oM⟩ oM) e2
    repeat' (first | refine jM ?_ | (refine jo ?_;first | (refine ar F F F cx_sty F ?_;rintro _ G hle ⟨b1,rfl,hrep1⟩;(try have hSq:=SchR.mono hSq hle);(try have hra:=RepR.mono hle hra);(try have hrb:=RepR.mono hle hrb);(try have hrep1:=RepR.mono hle hrep1);(try have hrepy:=RepR.mono hle hrepy);(try have hgq:=Gh.le.trans hgq hle)) | refine ae F F F (xR oM oM) F ?_ | (refine xX F F F ((cx_lof _ _ _) (by (repeat (assumption));done) (by (repeat (assumption));done) (by (repeat (assumption));done)) rfl ?_;rintro _ G1 _ hle ⟨av,cv,rfl,rfl⟩;dsimp only [zA,fA];(try have hSq:=SchR.mono hSq hle);(try have hra:=RepR.mono hle hra);(try have hrb:=RepR.mono hle hrb);(try have hrep1:=RepR.mono hle hrep1);(try have hrepy:=RepR.mono hle hrepy);(try have hgq:=Gh.le.trans hgq hle))))
    exact br (i + 1,av,cv,_) ⟨by dsimp only;omega,hgq⟩ (by dsimp only;omega) (by dsimp only;rw [hN1];repeat (first | exact trivial | refine ⟨F,?_⟩)) F (by dsimp only;rw [hN1,hN2];repeat (exact List.Sublist.refl _))
   ·obtain rfl : i = (aU a b).length:=oM
    repeat' (first | refine jR ?_ | refine ad F (aH oM) ?_)
    exact aX (vs:=[_]) F ⟨F,trivial⟩ F bc ⟨hle0.trans hgq,_,_,F,F⟩
  ·have e : bB (ah vs) (n + 1) k a b q = [(q,b)]:=by rw [bB,if_neg ho,if_neg hd]
   rw [e]
   simp only [List.length_singleton,List.map_cons,List.map_nil]
   have hd2 : bZ a b = false:=by simpa using hd
   have cx_dp:=sh ha hb oa ob
   rw [hd2] at cx_dp
   have hrow : ag dk (out ++ [c6 (q,b)]) = ag dk out ++ [S (bN q),S b.out]:=bX dk out (c6 (q,b))
   refine bM [(0,_),(1,_),(2,_),(3,_),(4,_)] Tryz.func22 kR Tryz.ntmps22 F F tU fun B hB hW=>?_
   have cx_out:=gj hw ha oM
   repeat' (first | refine jR ?_ | (refine jo ?_;refine ae F F F cx_out F ?_))
   have cx_out:=gj hw hb oM
   repeat' (first | refine jR ?_ | (refine jo ?_;first | refine jV (ay F F) ?_ | refine jF fun _=>?_ | refine bG F F F F F F F F F oM fun _ _=>?_ | refine ae F F F cx_out F ?_ | refine ae F F F cx_dp F ?_) | refine ac F F ?_ | refine ad F (aH ‹_›) ?_)
   rw [hrow]
   exact aX (vs:=[_]) F ⟨F,trivial⟩ F sB ⟨Gh.le.refl _,_,_,F,F⟩
theorem sv {s k w : ael} {p : Option Addr} {c : Nat} {T : TypeId} {l : List Ch} (h : s.length ≤ 1048576 ∧ k.length ≤ 1048576 ∧ w.length ≤ 1048576) (hn : l.length ≤ 1048576) (hl : ∀ x ∈ l,mR x) :
  d9 aek 24 [S s,S k,S w,.slice p l.length c] G [.acc (.slice p l.length c) T 2 l.length (ag dk l)] (fun v L'=>v = lv (gZ s k w l) ∧ L' = [.acc (.slice p l.length c) T 2 l.length (ag dk l)]):=by
 unfold gZ
 have cx_wo:=wN (G:=G) h
 cases ho : lx s k w with
 | false =>
  rw [ho] at cx_wo
  rw [if_neg (by simp)]
  refine jH [(0,_),(1,_),(2,_),(3,_)] Tryz.func24 Tryz.ntmps24 fun B hB hW=>?_
  repeat' (first | refine jR ?_ | (refine jo ?_;refine ae F F F cx_wo F ?_) | refine ac F F ?_)
  all_goals refine aX (vs:=[_,_]) F ⟨F,F,trivial⟩ F bc ⟨F,F,F⟩
 | true =>
  rw [ho] at cx_wo
  rw [if_pos rfl]
  refine jH [(0,_),(1,_),(2,_),(3,_)] Tryz.func24 Tryz.ntmps24 fun B hB hW=>?_
  repeat' (first | refine jR ?_ | (refine jo ?_;refine ae F F F cx_wo F ?_) | refine ad F F ?_)
  refine aW (ι:=Nat × ael) (fun j=>(j.1 ≤ l.length ∧ f9 s k w l = f9 s k j.2 (l.drop j.1)) ∧ j.2.length ≤ 1048576) (fun j=>[(0,S s),(1,S k),(2,S j.2),(3,.slice p l.length c),(10,I (j.1 : Nat))]) (fun _=>G) (fun j=>[.acc (.slice p l.length c) T 2 l.length (ag dk l)]) (fun j=>l.length - j.1) (0,w) ?_ tU F bc (fun j Hj=>?_)
  ·exact ⟨⟨Nat.zero_le _,F⟩,h.2.2⟩
  obtain ⟨i,t⟩:=j
  dsimp only at Hj ⊢
  obtain ⟨⟨hj1,hj2⟩,hj3⟩:=Hj
  by_cases hi : i < l.length
  ·refine Nx.shp (.head _) fun hsh=>?_
   obtain ⟨ba,ca,e⟩:=hsh.pos oM
   simp only [Value.slice.injEq] at e
   obtain ⟨rfl,-,rfl⟩:=e
   have hx:=hl _ (bC hi)
   have cx_ps2:=wO (G:=G) (s:=s) (k:=k) (w:=t) (p:=(ab l i).1) (x:=(ab l i).2) ⟨h.1,h.2.1,hj3,hx.1⟩ hx.2
   rw [fN hi,f9] at hj2
   unfold lv at cx_ps2
   cases hp : eT s k t (ab l i).1 (ab l i).2 with
   | none =>
    rw [hp] at cx_ps2 hj2
    dsimp only [Option.getD,Option.isSome] at cx_ps2 hj2
    repeat' (first | refine jR ?_ | (refine jo ?_;refine jV (af F) ?_) | (refine ac F (by first | rfl | (refine decide_eq_true ?_;(omega))) ?_) | (refine an (ao (id:=6) _ (fun _ h=>h) am ?_);refine jT 12 [0,1,2,3,4,8,9] (aa 19 799) ?_;(refine jG (aa 19 831) 5 F (ak F F oM) ?_);refine jT 10 [6] (aa 19 895) ?_;(refine jG (aa 19 1023) 7 F (gp F F F oM F F) ?_);(refine jG (aa 19 2047) 10 F (ak F F oM) ?_);refine jT 7 [11] (aa 19 4095) ?_;(refine jG (aa 19 8191) 12 F (gp F F F oM F F) ?_);refine jA 13 F ?_;(refine ae F F F cx_ps2 F ?_);refine jS (aa 19 16383) ?_;refine jT 0 [14,15,16,17,18] (aa 19 524287) ?_;refine jQ ?_))
    all_goals (rw [hj2];refine aX (vs:=[_,_]) F ⟨F,F,trivial⟩ F bc ⟨F,F,F⟩)
   | some z =>
    have hz:=(tv hp).2
    rw [hp] at cx_ps2 hj2
    dsimp only [Option.getD,Option.isSome] at cx_ps2 hj2
    repeat' (first | refine jM ?_ | (refine jo ?_;refine jV (af F) ?_) | refine ac F (aA oM) ?_ | refine ad F F ?_ | (refine an (ao (id:=6) _ (fun _ h=>h) am ?_);refine jT 12 [0,1,2,3,4,8,9] (aa 19 799) ?_;(refine jG (aa 19 831) 5 F (ak F F oM) ?_);refine jT 10 [6] (aa 19 895) ?_;(refine jG (aa 19 1023) 7 F (gp F F F oM F F) ?_);(refine jG (aa 19 2047) 10 F (ak F F oM) ?_);refine jT 7 [11] (aa 19 4095) ?_;(refine jG (aa 19 8191) 12 F (gp F F F oM F F) ?_);refine jA 13 F ?_;(refine ae F F F cx_ps2 F ?_);refine jS (aa 19 16383) ?_;refine jT 0 [14,15,16,17,18] (aa 19 524287) ?_;refine jQ ?_))
    exact br (i + 1,z) ⟨⟨oM,hj2⟩,by dsimp only;omega⟩ (by dsimp only;omega) tU rfl bc
  ·have ei : i = l.length:=oM
   subst ei
   rw [List.drop_length,f9] at hj2
   repeat' (first | refine jR ?_ | (refine jo ?_;refine jV (af F) ?_) | refine ad F (aH oM) ?_)
   all_goals (rw [hj2];refine aX (vs:=[_,_]) F ⟨F,F,trivial⟩ F bc ⟨F,F,F⟩)
theorem sw {s k w : ael} {p : Option Addr} {c : Nat} {T : TypeId} {l : List Ch} (h : s.length ≤ 1048576 ∧ k.length ≤ 1048576 ∧ w.length ≤ 1048576) (hn : l.length ≤ 1048576) (hl : ∀ x ∈ l,mR x) :
  d9 aek 14 [S s,S k,S w,.slice p l.length c] G [.acc (.slice p l.length c) T 2 l.length (ag dk l)] (fun v L'=>v = lv (gZ s k w l) ∧ L' = [.acc (.slice p l.length c) T 2 l.length (ag dk l)]):=by
 unfold gZ
 have cx_o1:=qx (G:=G) h
 cases ho : lx s k w with
 | false =>
  rw [ho] at cx_o1
  rw [if_neg (by simp)]
  refine jH [(0,_),(1,_),(2,_),(3,_)] Tryz.func14 Tryz.ntmps14 fun B hB hW=>?_
  repeat' (first | refine jR ?_ | (refine jo ?_;refine ae F F F cx_o1 F ?_) | refine ac F F ?_)
  all_goals refine aX (vs:=[_,_]) F ⟨F,F,trivial⟩ F bc ⟨F,F,F⟩
 | true =>
  rw [ho] at cx_o1
  rw [if_pos rfl]
  refine jH [(0,_),(1,_),(2,_),(3,_)] Tryz.func14 Tryz.ntmps14 fun B hB hW=>?_
  repeat' (first | refine jR ?_ | (refine jo ?_;first | refine jV (af F) ?_ | refine ae F F F cx_o1 F ?_) | refine ad F F ?_)
  refine aW (ι:=Nat × ael) (fun j=>(j.1 ≤ l.length ∧ f9 s k w l = f9 s k j.2 (l.drop j.1)) ∧ j.2.length ≤ 1048576) (fun j=>[(0,S s),(1,S k),(2,S j.2),(18,.slice p l.length c),(19,I (l.length : Nat)),(20,I (j.1 : Nat))]) (fun _=>G) (fun j=>[.acc (.slice p l.length c) T 2 l.length (ag dk l)]) (fun j=>l.length - j.1) (0,w) ?_ tU F bc (fun j Hj=>?_)
  ·exact ⟨⟨Nat.zero_le _,F⟩,h.2.2⟩
  obtain ⟨i,t⟩:=j
  dsimp only at Hj ⊢
  obtain ⟨⟨hj1,hj2⟩,hj3⟩:=Hj
  by_cases hi : i < l.length
  ·refine Nx.shp (.head _) fun hsh=>?_
   obtain ⟨ba,ca,e⟩:=hsh.pos oM
   simp only [Value.slice.injEq] at e
   obtain ⟨rfl,-,rfl⟩:=e
   have hx:=hl _ (bC hi)
   have cx_ps1:=qy (G:=G) (s:=s) (k:=k) (w:=t) (p:=(ab l i).1) (x:=(ab l i).2) ⟨h.1,h.2.1,hj3,hx.1⟩ hx.2
   rw [fN hi,f9] at hj2
   unfold lv at cx_ps1
   cases hp : eT s k t (ab l i).1 (ab l i).2 with
   | none =>
    rw [hp] at cx_ps1 hj2
    dsimp only [Option.getD,Option.isSome] at cx_ps1 hj2
    repeat' (first | refine jR ?_ | (refine jo ?_;first | refine jV (ak F F oM) ?_ | refine aC F ?_ | refine jV (qf F F F oM) ?_ | refine jL fun _=>?_ | refine jC F F F ?_ | refine ae F F F cx_ps1 F ?_) | (refine ac F (by first | rfl | (refine decide_eq_true ?_;(omega))) ?_))
    all_goals (rw [hj2];refine aX (vs:=[_,_]) F ⟨F,F,trivial⟩ F sB ⟨F,F,F⟩)
   | some z =>
    have hz:=(tv hp).2
    rw [hp] at cx_ps1 hj2
    dsimp only [Option.getD,Option.isSome] at cx_ps1 hj2
    repeat' (first | refine jM ?_ | (refine jo ?_;first | refine jV (ak F F oM) ?_ | refine aC F ?_ | refine jV (qf F F F oM) ?_ | refine jL fun _=>?_ | refine jC F F F ?_ | refine ae F F F cx_ps1 F ?_) | refine ac F (aA oM) ?_ | refine ad F F ?_)
    exact br (i + 1,z) ⟨⟨oM,hj2⟩,by dsimp only;omega⟩ (by dsimp only;omega) tU rfl sB
  ·have ei : i = l.length:=oM
   subst ei
   rw [List.drop_length,f9] at hj2
   repeat' (first | refine jR ?_ | refine ad F (aH oM) ?_)
   all_goals (rw [hj2];refine aX (vs:=[_,_]) F ⟨F,F,trivial⟩ F bc ⟨F,F,F⟩)
theorem qn {s k w t : ael} (h : cY s k w = none ∨ cY s k t = none) : cD s k w t = none:=by
 unfold cD
 rcases h with h | h
 ·rw [h];cases a9 s <;> rfl
 ·rw [h];cases a9 s <;> cases cY s k w <;> rfl
theorem uN {s k w t : ael} {l : List Ch} (h : cD s k w t = some l) : l.length ≤ 30 ∧ ∀ x ∈ l,x.1.length ≤ 91 ∧ x.2.length ≤ 400:=by
 unfold cD at h
 split at h
 ·rename_i ts a b h1 ha hb
  split at h
  ·rename_i hc
   cases h
   refine ⟨hc.1,fun x hx=>?_⟩
   obtain ⟨ts',g1,g2,g3,g4,g5⟩:=cQ ha
   obtain rfl : ts = ts':=Option.some.inj (h1.symm.trans g1)
   obtain ⟨ts',i1,i2,i3,i4,i5⟩:=cQ hb
   obtain rfl : ts = ts':=Option.some.inj (h1.symm.trans i1)
   obtain ⟨a1,a2,a3⟩:=eA g3
   obtain ⟨b1,b2,b3⟩:=eA i3
   obtain ⟨c,hc,rfl⟩:=List.mem_map.1 hx
   have:=kj (n:=13) (q:=[]) (dV h1) (c9 g3) (c9 i3) g2 ⟨a3,by rw [a1];exact a2⟩ ⟨b3,by rw [b1];exact b2⟩ (fun m hm=>by cases hm) c hc
   have h2:=gC this.1
   have h3:=this.2.1
   simp only [List.length_nil,Nat.zero_add] at h3
   exact ⟨by unfold c6;dsimp only;omega,this.2.2⟩
  ·cases h
 ·cases h
theorem aaX {s k w : ael} (h : s.length ≤ 1048576 ∧ k.length ≤ 1048576 ∧ w.length ≤ 1048576) : bJ aek 21 [S s,S k,S w] G (fun v _=>∃ u q ok,v = Tu [u,.pointer q,Bo ok]):=by
 cases hg : cY s k w with
 | none=>exact (lJ h hg).mono fun v G' L' ⟨h1,h2,u,q,h3⟩=>⟨h1,h2,u,q,false,h3⟩
 | some u =>
  obtain ⟨ts,hs,hki,hvo,_⟩:=cQ hg
  exact (n6 h hs hki hvo).mono fun v G' L' ⟨h1,h2,a,c,vs,b,h3,_⟩=>⟨h1,h2,.slice a vs.length c,some ⟨b,0,none⟩,true,h3⟩
theorem uC {s k w t : ael} (h : s.length ≤ 1048576 ∧ k.length ≤ 1048576 ∧ w.length ≤ 1048576 ∧ t.length ≤ 1048576) :
  fp aek 7 [S s,S k,S w,S t] G [] (fun v _ L'=>∃ p c,v = Tu [.slice p ((cD s k w t).getD []).length c,Bo (cD s k w t).isSome] ∧ L' = [.acc (.slice p ((cD s k w t).getD []).length c) mV 2 ((cD s k w t).getD []).length (ag dk ((cD s k w t).getD []))]):=by
 cases ha : cY s k w with
 | none =>
  have cx_la0:=fun G=>lJ (G:=G) (s:=s) (k:=k) (w:=w) ⟨h.1,h.2.1,h.2.2.1⟩ ha
  rw [qn (.inl ha)]
  refine bM [(0,_),(1,_),(2,_),(3,_)] Tryz.func7 kR Tryz.ntmps7 F F tU fun B hB hW=>?_
  repeat' (first | refine jR ?_ | (refine jo ?_;(refine ar F F F (cx_la0 _) F ?_;rintro _ G hle ⟨ua,qa,rfl⟩;skip)))
  have hle0:=hle
  refine jo ?_
  refine ar F F F (aaX ⟨h.1,h.2.1,h.2.2.2⟩) F ?_
  rintro _ G2 hle2 ⟨u2,q2,ok2,rfl⟩
  repeat' (first | refine jR ?_ | (refine jo ?_;first | refine aP F ?_ | refine jF fun _=>?_) | refine aF F F F ?_ | refine ac F F ?_)
  rename_i y
  refine Nx.blkAcc (m:=0) (sz:=2) .here F ?_
  refine aX (vs:=[_,_]) F ⟨F,F,trivial⟩ F bc ⟨hle0.trans hle2,_,_,F,F⟩
 | some a =>
  obtain ⟨ts,hs,hki,hvo,hto,hwf⟩:=cQ ha
  have cx_l4x:=n6 (G:=G) (s:=s) (k:=k) (w:=w) ⟨h.1,h.2.1,h.2.2.1⟩ hs hki hvo
  cases hb : cY s k t with
  | none =>
   rw [qn (.inr hb)]
   refine bM [(0,_),(1,_),(2,_),(3,_)] Tryz.func7 kR Tryz.ntmps7 F F tU fun B hB hW=>?_
   repeat' (first | refine jR ?_ | (refine jo ?_;(refine ar F F F cx_l4x F ?_;rintro _ G hle ⟨av1,cv1,vs1,b1,rfl,hR1,hT1,hrep⟩;skip)))
   have hle0:=hle
   refine jo ?_
   refine ar F F F (lJ ⟨h.1,h.2.1,h.2.2.2⟩ hb) F ?_
   rintro _ G2 hle2 ⟨u2,q2,rfl⟩
   repeat' (first | refine jR ?_ | (refine jo ?_;first | refine aE F ?_ | refine jF fun _=>?_) | refine aw F F F ?_ | refine ac F F ?_)
   rename_i y
   refine Nx.blkAcc (m:=0) (sz:=2) .here F ?_
   refine aX (vs:=[_,_]) F ⟨F,F,trivial⟩ F bc ⟨hle0.trans hle2,_,_,F,F⟩
  | some b =>
   obtain ⟨ts',i1,_,hvb,htb,_⟩:=cQ hb
   obtain rfl : ts = ts':=Option.some.inj (hs.symm.trans i1)
   have hw:=dV hs
   have oa:=c9 hvo
   have ob:=c9 hvb
   obtain ⟨a1,a2,a3⟩:=eA hvo
   obtain ⟨b1,b2,b3⟩:=eA hvb
   have fa : a.deep ≤ 12 ∧ a.out.length ≤ 400:=⟨a3,by rw [a1];exact a2⟩
   have fb : b.deep ≤ 12 ∧ b.out.length ≤ 400:=⟨b3,by rw [b1];exact b2⟩
   have hlst:=sC hw 12 oa ob hki (Or.inl a3) (Or.inl b3)
   have hdl:=pd (n:=13) (q:=[]) (wa:=40000) (wb:=40000) hw oa ob hki (Or.inl hto) (Or.inl htb) oM
   have hin:=kj (n:=13) (q:=[]) hw oa ob hki fa fb (fun m hm=>by cases hm)
   have hcv : cD s k w t = if (dK ts k a b).length ≤ 30 ∧ (gZ s k w (dK ts k a b)).isSome = true then some (dK ts k a b) else none:=by
    unfold cD
    rw [hs,ha,hb]
   have hdn : ∀ {z},gZ s k w (dK ts k a b) = some z → z = t ∧ ∀ d ∈ bB ts 13 k a b [],d.1.length ≤ 8:=fun h=>r9 hs ha hb h
   refine bM [(0,_),(1,_),(2,_),(3,_)] Tryz.func7 kR Tryz.ntmps7 F F tU fun B hB hW=>?_
   repeat' (first | refine jR ?_ | (refine jo ?_;(refine ar F F F cx_l4x F ?_;rintro _ G hle ⟨av1,cv1,vs1,b1,rfl,hR1,hT1,hrep⟩;skip)))
   have hle0:=hle
   subst hT1
   refine jo ?_
   refine ar F F F (n6 ⟨h.1,h.2.1,h.2.2.2⟩ hs hki hvb) F ?_
   rintro _ G2 hle2 ⟨av2,cv2,vs2,b2',rfl,hR2,hT2,hrepb⟩
   have hR1:=hR1.mono hle2
   have hrep:=hrep.mono hle2
   repeat' (first | refine jR ?_ | (refine jo ?_;first | refine aE F ?_ | refine jF fun _=>?_) | refine aw F F F ?_ | refine ad F F ?_)
   rename_i y
   refine Nx.blkAcc (m:=0) (sz:=2) .here F ?_
   have hlof:=aa2 hw 13 hR1 hrep hrepb oa ob hki fa fb hlst (q:=[]) (fun n hn=>by cases hn) (by simp) (p0:=some ⟨y,0,none⟩) (m:=0) (cap:=0) (out:=[]) rfl oM
   refine jo ?_
   refine xX F F F hlof F ?_
   rintro _ G3 _ hle3 ⟨av,cv,rfl,rfl⟩
   dsimp only [zA,fA]
   rw [Nat.zero_add,← List.length_map (f:=c6)]
   have hGa:=hle0.trans (hle2.trans hle3)
   have hxl : ∀ i,i < (dK (ah vs1) k a b).length → ab (dK (ah vs1) k a b) i = c6 (ab (bB (ah vs1) 13 k a b []) i):=fun i hi=>by
    unfold dK at hi ⊢
    rw [aI hi,aI (by simpa using hi)]
    simp
   have hml : (dK (ah vs1) k a b).length = (bB (ah vs1) 13 k a b []).length:=by unfold dK;simp
   have hCh : ∀ x ∈ dK (ah vs1) k a b,mR x:=fun x hx=>by
    obtain ⟨c,hc,rfl⟩:=List.mem_map.1 hx
    have h1:=hin c hc
    have h2:=gC h1.1
    have h3:=h1.2.1
    simp only [List.length_nil,Nat.zero_add] at h3
    exact ⟨by unfold c6;dsimp only;omega,by unfold c6;dsimp only;omega⟩
   rw [show (bB (ah vs1) 13 k a b []).map c6 = dK (ah vs1) k a b from rfl]
   generalize hds : bB (ah vs1) 13 k a b [] = ds at *
   generalize hls : dK (ah vs1) k a b = l at *
   repeat' (refine jR ?_)
   refine aW (ι:=Nat × Gh) (fun i=>(i.1 ≤ l.length ∧ ∀ j,j < i.1 → (ab ds j).1.length ≤ 8) ∧ Gh.le G3 i.2) (fun i=>[(0,S s),(1,S k),(2,S w),(3,S t),(16,.slice av l.length cv),(17,I i.1)]) (fun i=>i.2) (fun i=>[.acc (.slice av l.length cv) mV 2 l.length (ag dk l)]) (fun i=>l.length - i.1) (0,G3) ?_ tU F bc (fun i Hi=>?_)
   ·exact ⟨⟨Nat.zero_le _,fun j hj=>absurd hj (Nat.not_lt_zero _)⟩,Gh.le.refl _⟩
   obtain ⟨i,Gq⟩:=i
   dsimp only at Hi ⊢
   obtain ⟨⟨hi0,hj8⟩,hgq⟩:=Hi
   by_cases hi : i < l.length
   ·refine Nx.shp (.head _) fun hsh=>?_
    obtain ⟨bb0,cc0,e⟩:=hsh.pos oM
    simp only [Value.slice.injEq] at e
    obtain ⟨rfl,-,rfl⟩:=e
    have hpo:=rC (hin _ (bC (show i < ds.length by omega))).1
    have hCi:=hCh _ (bC hi)
    have hx1 : (ab l i).1 = bN (ab ds i).1:=by rw [hxl i hi];rfl
    by_cases h8 : (ab ds i).1.length ≤ 8
    ·rw [if_pos h8,← hx1] at hpo
     have cx_sp:=mY hCi.1 hpo
     repeat' (first | refine jM ?_ | (refine jo ?_;first | refine jV (af F) ?_ | refine jV (ak F F oM) ?_ | refine jV (gp F F F oM F F) ?_ | (refine ar F F F (cx_sp _) F ?_;rintro _ G hle ⟨sa,sc,sn,rfl,hsp⟩;skip)) | refine ac F (aA oM) ?_ | refine ad F F ?_)
     exact br (i + 1,_) ⟨⟨by dsimp only;omega,fun j hj=>by
      rcases Nat.lt_or_ge j i with h | h
      ·exact hj8 j h
      ·obtain rfl : j = i:=by dsimp only at hj;omega
       exact h8⟩,Gh.le.trans hgq aS⟩ (by dsimp only;omega) tU rfl bc
    ·rw [if_neg h8,← hx1] at hpo
     have cx_sp:=oT hCi.1 hpo
     have hno : cD s k w t = none:=by
      rw [hcv,if_neg]
      rintro ⟨_,h2⟩
      obtain ⟨z,hz⟩:=Option.isSome_iff_exists.1 h2
      exact h8 ((hdn hz).2 _ (bC (show i < ds.length by omega)))
     rw [hno]
     repeat' (first | refine jR ?_ | (refine jo ?_;first | refine jF fun _=>?_ | refine jV (af F) ?_ | refine jV (ak F F oM) ?_ | refine jV (gp F F F oM F F) ?_ | (refine ar F F F (cx_sp _) F ?_;rintro _ G hle ⟨sa,sc,sn,rfl,hsp⟩;skip)) | (refine ac F (by first | rfl | (refine decide_eq_true ?_;(omega))) ?_))
     rename_i z
     refine Nx.blkAcc (m:=0) (sz:=2) .here F ?_
     refine aX (vs:=[_,_]) F ⟨F,F,trivial⟩ F sB ⟨hGa.trans (hgq.trans hle),_,_,F,F⟩
   ·obtain rfl : i = l.length:=oM
    have cx_cdo:=sv (G:=Gq) (p:=av) (c:=cv) (T:=mV) (l:=l) ⟨h.1,h.2.1,h.2.2.1⟩ oM hCh
    unfold lv at cx_cdo
    have hGb:=hGa.trans hgq
    cases hz : gZ s k w l with
    | none =>
     rw [hz] at cx_cdo hcv
     rw [if_neg (by simp)] at hcv
     rw [hcv]
     dsimp only [Option.getD,Option.isSome] at cx_cdo
     by_cases h30 : l.length ≤ 30
     ·repeat' (first | refine jR ?_ | (refine jo ?_;first | refine aP F ?_ | refine aE F ?_ | refine jF fun _=>?_ | refine jV (af F) ?_ | (refine lK F F F cx_cdo F ?_;rintro _ _ ⟨rfl,rfl⟩;dsimp only [zA,fA])) | refine aF F F F ?_ | refine aw F F (aH oM) ?_ | refine ac F F ?_ | refine ad F (aH oM) ?_)
      all_goals rename_i z
      all_goals refine Nx.blkAcc (m:=0) (sz:=2) .here F ?_
      all_goals refine aX (vs:=[_,_]) F ⟨F,F,trivial⟩ F sB ⟨hGb,_,_,F,F⟩
     ·repeat' (first | refine jR ?_ | (refine jo ?_;first | refine aP F ?_ | refine jF fun _=>?_ | refine jV (af F) ?_ | (refine lK F F F cx_cdo F ?_;rintro _ _ ⟨rfl,rfl⟩;dsimp only [zA,fA])) | (refine aF F F (by first | rfl | (refine decide_eq_true ?_;(omega))) ?_) | refine ac F F ?_ | refine ad F (aH oM) ?_)
      all_goals rename_i z
      all_goals refine Nx.blkAcc (m:=0) (sz:=2) .here F ?_
      all_goals refine aX (vs:=[_,_]) F ⟨F,F,trivial⟩ F sB ⟨hGb,_,_,F,F⟩
    | some z =>
     obtain ⟨rfl,_⟩:=hdn hz
     rw [hz] at cx_cdo hcv
     dsimp only [Option.getD,Option.isSome] at cx_cdo
     by_cases h30 : l.length ≤ 30
     ·rw [if_pos ⟨h30,rfl⟩] at hcv
      rw [hcv]
      repeat' (first | refine jR ?_ | (refine jo ?_;first | refine aE F ?_ | refine jV (af F) ?_ | (refine lK F F F cx_cdo F ?_;rintro _ _ ⟨rfl,rfl⟩;dsimp only [zA,fA])) | (refine aw F F (by first | rfl | (refine decide_eq_false ?_;(omega))) ?_) | (refine ad F ?_ ?_;(focus ((first | (refine decide_eq_false ?_;(omega)) | (simp [*];done));done))))
      all_goals refine aX (vs:=[_,_]) F ⟨F,F,trivial⟩ F bc ⟨hGb,_,_,F,F⟩
     ·rw [if_neg (fun h=>h30 h.1)] at hcv
      rw [hcv]
      repeat' (first | refine jR ?_ | (refine jo ?_;first | refine aP F ?_ | refine jF fun _=>?_ | refine jV (af F) ?_ | (refine lK F F F cx_cdo F ?_;rintro _ _ ⟨rfl,rfl⟩;dsimp only [zA,fA])) | (refine aF F F (by first | rfl | (refine decide_eq_true ?_;(omega))) ?_) | refine ac F F ?_ | refine ad F (aH oM) ?_)
      all_goals rename_i z
      all_goals refine Nx.blkAcc (m:=0) (sz:=2) .here F ?_
      all_goals refine aX (vs:=[_,_]) F ⟨F,F,trivial⟩ F sB ⟨hGb,_,_,F,F⟩
abbrev dP : TypeId:=124
theorem zf {v : Value} {l : ael} (h : aN G v 1 l.length (cy l)) : d9 aek 29 [v] G [] (fun v L'=>∃ b code l',v = Pt b 0 ∧ L' = [eW b code 0 dP] ∧ aN G code 1 l'.length (cy l') ∧ l'.length ≤ 2000):=by
 obtain ⟨h1,⟨rfl,h2⟩ | ⟨c,o,cap,rfl,h2,h3⟩⟩:=id h
 ·refine jH [(0,_)] Tryz.func29 Tryz.ntmps29 fun B hB hW=>?_
  repeat' (first | refine jR ?_ | (refine jo ?_;first | refine jV (af F) ?_ | refine jV (ay F F) ?_ | refine jO fun _=>?_) | refine ad F F ?_)
  refine aX (vs:=[_]) F ⟨F,trivial⟩ F (List.Sublist.refl _) ⟨F,_,_,[],F,F,⟨by simp [cy],.inl ⟨F,F⟩⟩,by simp⟩
 ·refine jH [(0,_)] Tryz.func29 Tryz.ntmps29 fun B hB hW=>?_
  repeat' (first | refine jR ?_ | (refine jo ?_;first | refine jV (af F) ?_ | refine jV (qe F F oM) ?_ | refine jV (ay F F) ?_ | refine jO fun _=>?_) | refine eG F (fun _=>?_) (fun _=>?_))
  ·refine aX (vs:=[_]) F ⟨F,trivial⟩ F (List.Sublist.refl _) ⟨F,_,_,l.take 2000,F,F,?_,by simp;omega⟩
   have e : (l.take 2000).length = 2000:=by simp;omega
   rw [e]
   refine ⟨by simp [cy];omega,.inr ⟨c,o,cap,rfl,oM,?_⟩⟩
   have:=h3.take 2000
   simpa [cy] using this
  ·exact aX (vs:=[_]) F ⟨F,trivial⟩ F (List.Sublist.refl _) ⟨F,_,_,l,F,F,h,oM⟩
theorem dN {b : Nat} {code : Value} {p n : Int} {l : ael} (hp : 0 ≤ p ∧ p ≤ 1000000000000 ∧ n ≤ 1000000000000) (hs : aN G code 1 l.length (cy l)) :
  d9 aek 38 [Pt b 0,I n] G [eW b code p dP] (fun v L'=>∃ k,v = I k ∧ L' = [eW b code (p + 1) dP] ∧ 0 ≤ k ∧ (k < n ∨ k = 0)):=by
 obtain ⟨h1,⟨rfl,h2⟩ | ⟨c,o,cap,rfl,h2,h3⟩⟩:=id hs
 ·refine jH [(0,_),(1,_)] Tryz.func38 Tryz.ntmps38 fun B hB hW=>?_
  repeat' (first | (refine run (t:=tb) 400 F ?_ ?_;(focus (repeat' (first | exact trivial | apply And.intro | omega)))) | (refine jo ?_;first | refine aC F ?_ | refine jD F F F ?_ | refine jV (af F) ?_ | refine aP F ?_ | refine aE F ?_) | refine ff F F (fun _=>?_) (fun _=>?_) | refine ac F F ?_)
  all_goals exact aX (vs:=[_]) F ⟨F,trivial⟩ F (List.Sublist.refl _) ⟨F,_,F,F,oM,oM⟩
 ·have b1:=mK l (p + 1 - 1).toNat
  have b2:=mK l ((p + 1 - 1) % (l.length : Int)).toNat
  have b3:=mK l (((p + 1 - 1) * 7 + 3) % (l.length : Int)).toNat
  have e1:=fun h=>Int.emod_nonneg (p + 1 - 1) (b:=(l.length : Int)) h
  have e2:=fun h=>Int.emod_lt_of_pos (p + 1 - 1) (b:=(l.length : Int)) h
  have e3:=fun h=>Int.emod_nonneg ((p + 1 - 1) * 7 + 3) (b:=(l.length : Int)) h
  have e4:=fun h=>Int.emod_lt_of_pos ((p + 1 - 1) * 7 + 3) (b:=(l.length : Int)) h
  have e5:=fun h=>Int.ediv_nonneg (a:=p + 1 - 1) (b:=(l.length : Int)) h oM
  have e6:=fun h=>Int.ediv_le_self (a:=p + 1 - 1) (l.length : Int) h
  refine jH [(0,_),(1,_)] Tryz.func38 Tryz.ntmps38 fun B hB hW=>?_
  repeat' (first | (refine run (t:=tb) 400 F ?_ ?_;(focus (repeat' (first | exact trivial | apply And.intro | omega)))) | (refine jo ?_;first | refine aC F ?_ | (refine jV (ww F aS ?_) ?_;focus omega) | refine jD F F F ?_ | refine jV (af F) ?_ | refine aP F ?_ | refine aE F ?_ | refine jV (aT F F oM) ?_ | refine jV (abF F F oM) ?_) | refine ff F F (fun _=>?_) (fun _=>?_) | refine ac F F ?_ | refine eG F (fun _=>?_) (fun _=>?_) | (refine an (ao (id:=7) _ (fun _ h=>h) am ?_);refine jU 24 [0,1,2,4,5,6,7,15,16,17,19,20,21,22,23,24,33,34,36,37,38,39] (aa 46 1056595214583) ?_ ?_;(focus (repeat' (first | exact trivial | apply And.intro | omega)));(refine jG (aa 46 1056595214591) 3 F (aV F F F) ?_);(refine jG (aa 46 1056595214847) 8 F (aV F F F) ?_);(refine jG (aa 46 1056595215359) 9 F (af F) ?_);refine jU 20 [10] (aa 46 1056595216383) ?_ ?_;(focus (repeat' (first | exact trivial | apply And.intro | omega)));(refine jG (aa 46 1056595218431) 11 F (aT F F oM) ?_);((refine jG (aa 46 1056595222527) 12 F (ww F aS ?_) ?_;focus omega));refine jU 16 [13,14] (aa 46 1056595247103) ?_ ?_;(focus (repeat' (first | exact trivial | apply And.intro | omega)));(refine jG (aa 46 1056595509247) 18 F (aV F F F) ?_);(refine jG (aa 46 1056629063679) 25 F (aV F F F) ?_);(refine jG (aa 46 1056696172543) 26 F (af F) ?_);refine jU 12 [27] (aa 46 1056830390271) ?_ ?_;(focus (repeat' (first | exact trivial | apply And.intro | omega)));(refine jG (aa 46 1057098825727) 28 F (aT F F oM) ?_);((refine jG (aa 46 1057635696639) 29 F (ww F aS ?_) ?_;focus omega));refine jU 6 [30,31,32,35] (aa 46 1099511627775) ?_ ?_;(focus (repeat' (first | exact trivial | apply And.intro | omega)));(refine jG (aa 46 2199023255551) 40 F (aV F F F) ?_);(refine jG (aa 46 4398046511103) 41 F (af F) ?_);refine jU 0 [42,43,44,45] (aa 46 70368744177663) ?_ ?_;(focus (repeat' (first | exact trivial | apply And.intro | omega)));refine jQ ?_))
  all_goals (first | exact aX (vs:=[_]) F ⟨F,trivial⟩ F (List.Sublist.refl _) ⟨F,_,F,F,oM,oM⟩ | exact aX (vs:=[_]) F ⟨F,trivial⟩ F (List.Sublist.refl _) ⟨F,_,F,F,Int.emod_nonneg _ oM,.inl (Int.emod_lt_of_pos _ oM)⟩ | exact zY _ _)
theorem se {r : Nat} {code : Value} {p : Int} {l : ael} (hp : 0 ≤ p ∧ p ≤ 900000000000) (hs : aN G code 1 l.length (cy l)) :
  d9 aek 71 [Pt r 0] G [eW r code p dP] (fun v L'=>∃ x q,v = S x ∧ x.length ≤ 400 ∧ L' = [eW r code q dP] ∧ p ≤ q ∧ q ≤ p + 10):=by
 refine jH [(0,_)] Tryz.func71 Tryz.ntmps71 fun B hB hW=>?_
 repeat' (first | refine jR ?_ | (refine jo ?_;first | refine jF fun _=>?_ | refine jV (aT F F oM) ?_ | (refine gK 64 F F F ?_ F (fun xs hxs=>?_);(focus ((simp only [List.length_append,List.length_cons,List.length_nil,List.length_take];omega);done))) | (refine aL F F F (dN ?_ (by (repeat (assumption));done)) rfl ?_;(focus omega);rintro _ _ ⟨k,rfl,rfl,hk0,hk1⟩;dsimp only [zA,fA])))
 refine aW (ι:=ael × Int × Int) (fun j=>(0 ≤ j.2.1 ∧ j.2.1 ≤ 3) ∧ ((j.1.length : Nat) : Int) ≤ 64 * (4 - j.2.1) ∧ p ≤ j.2.2 ∧ j.2.2 ≤ p + 5 - j.2.1) (fun j=>[(0,Pt r 0),(3,S j.1),(4,I j.2.1)]) (fun _=>G) (fun j=>[eW r code j.2.2 dP]) (fun j=>j.2.1.toNat) (xs,k,p + 1 + 1) ?_ tU F sB (fun j Hj=>?_)
 ·dsimp only;omega
 obtain ⟨s,kk,q⟩:=j
 dsimp only at Hj ⊢
 obtain ⟨hk,hsl,hq0,hq1⟩:=Hj
 by_cases h1 : 1 < kk
 ·repeat' (first | refine jM ?_ | (refine jo ?_;first | refine jF fun _=>?_ | refine jV (aT F F oM) ?_ | (refine gK 64 F F F ?_ F (fun xs hxs=>?_);(focus ((simp only [List.length_append,List.length_cons,List.length_nil,List.length_take];omega);done))) | (refine aL F F F (dN ?_ (by (repeat (assumption));done)) rfl ?_;(focus omega);rintro _ _ ⟨k,rfl,rfl,hk0,hk1⟩;dsimp only [zA,fA])) | refine ac F (aA ‹_›) ?_)
  exact br (xs ++ s,kk - 1,q + 1) (by dsimp only;rw [List.length_append];omega) (by dsimp only;omega) tU rfl sB
 ·repeat' (first | refine jR ?_ | (refine jo ?_;first | refine jF fun _=>?_ | refine jV (aT F F oM) ?_ | (refine gK 64 F F F ?_ F (fun xs hxs=>?_);(focus ((simp only [List.length_append,List.length_cons,List.length_nil,List.length_take];omega);done))) | (refine aL F F F (dN ?_ (by (repeat (assumption));done)) rfl ?_;(focus omega);rintro _ _ ⟨k,rfl,rfl,hk0,hk1⟩;dsimp only [zA,fA])) | refine ad F (aH ‹_›) ?_ | refine eG F (fun _=>?_) (fun _=>?_))
  all_goals exact aX (vs:=[_]) F ⟨F,trivial⟩ F sB ⟨F,_,_,F,oM,F,oM,oM⟩
theorem xN {r : Nat} {code : Value} {p : Int} {l : ael} (hp : 0 ≤ p ∧ p ≤ 900000000000) (hs : aN G code 1 l.length (cy l)) :
  d9 aek 116 [Pt r 0] G [eW r code p dP] (fun v L'=>∃ x q,v = S (39 :: (x ++ [39])) ∧ x.length ≤ 64 ∧ L' = [eW r code q dP] ∧ p ≤ q ∧ q ≤ p + 10):=by
 refine jH [(0,_)] Tryz.func116 Tryz.ntmps116 fun B hB hW=>?_
 repeat' (first | refine jX ?_ | (refine jo ?_;first | refine jF fun _=>?_ | refine jV (aT F F oM) ?_ | (refine gK 64 F F F ?_ F (fun xs hxs=>?_);(focus ((simp only [List.length_append,List.length_cons,List.length_nil,List.length_take];omega);done))) | (refine aL F F F (dN ?_ (by (repeat (assumption));done)) rfl ?_;(focus omega);rintro _ _ ⟨k,rfl,rfl,hk0,hk1⟩;dsimp only [zA,fA])))
 exact aX (vs:=[_]) F ⟨F,trivial⟩ F sB ⟨F,xs,_,F,oM,F,oM,oM⟩
theorem wI {r : Nat} {code : Value} {p tag : Int} {l so nm : ael} (hp : 0 ≤ p ∧ p ≤ 800000000000) (hs : aN G code 1 l.length (cy l)) (ht : 0 ≤ tag ∧ tag ≤ 1000000) (hnm : nm.length ≤ 100) :
  d9 aek 115 [Pt r 0,S so,I tag,S nm] G [eW r code p dP] (fun v L'=>∃ x q,v = S x ∧ x.length ≤ 1000 ∧ L' = [eW r code q dP] ∧ p ≤ q ∧ q ≤ p + 20):=by
 have hdl:=ii (n:=tag) oM
 refine jH [(0,_),(1,_),(2,_),(3,_)] Tryz.func115 Tryz.ntmps115 fun B hB hW=>?_
 repeat' (first | refine jX ?_ | (refine jo ?_;first | refine aP F ?_ | refine aE F ?_ | refine jF fun _=>?_ | refine jV (aT F F oM) ?_ | (refine gK 64 F F F ?_ F (fun xs hxs=>?_);(focus ((simp only [List.length_append,List.length_cons,List.length_nil,List.length_take];omega);done))) | refine ae F F F (fU oM) F ?_ | (refine aL F F F (se ?_ (by (repeat (assumption));done)) rfl ?_;(focus omega);rintro _ _ ⟨kd,q1,rfl,hkd,rfl,hq1,hq2⟩;dsimp only [zA,fA]) | (refine aL F F F (dN ?_ (by (repeat (assumption));done)) rfl ?_;(focus omega);rintro _ _ ⟨k,rfl,rfl,hk0,hk1⟩;dsimp only [zA,fA])) | refine ff F F (fun _=>?_) (fun _=>?_) | refine ad F F ?_ | refine eG F (fun _=>?_) (fun _=>?_))
 all_goals exact aX (vs:=[_]) F ⟨F,trivial⟩ F sB ⟨F,_,_,F,by simp only [List.length_append,List.length_cons,List.length_nil];omega,rfl,oM,oM⟩
theorem xM {r : Nat} {code : Value} {p : Int} {l so nm : ael} (hp : 0 ≤ p ∧ p ≤ 700000000000) (hs : aN G code 1 l.length (cy l)) (hso : so.length ≤ 64) (hnm : nm.length ≤ 64) :
  d9 aek 69 [Pt r 0,S so,S nm] G [eW r code p dP] (fun v L'=>∃ x q,v = S x ∧ x.length ≤ 6000 ∧ 1 ≤ x.length ∧ L' = [eW r code q dP] ∧ p ≤ q ∧ q ≤ p + 200):=by
 refine jH [(0,_),(1,_),(2,_)] Tryz.func69 Tryz.ntmps69 fun B hB hW=>?_
 repeat' (first | refine jX ?_ | (refine jo ?_;first | refine aP F ?_ | refine aE F ?_ | (refine aL F F F (dN ?_ (by (repeat (assumption));done)) rfl ?_;(focus omega);rintro _ _ ⟨k,rfl,rfl,hk0,hk1⟩;dsimp only [zA,fA])) | refine ff F F (fun _=>?_) (fun _=>?_) | refine ad F F ?_ | refine eG F (fun _=>?_) (fun _=>?_))
 all_goals
  have cx_pk2 : ∀ {p : Int},0 ≤ p ∧ p ≤ 1000000000000 → d9 aek 38 [Pt r 0,I 2] G [eW r code p dP] (fun v L'=>L' = [eW r code (p + 1) dP] ∧ (v = I 0 ∨ v = I 1)):=fun {p} hp=>(dN (b:=r) (p:=p) (n:=2) ⟨hp.1,hp.2,by decide⟩ hs).mono fun v G' L' ⟨h1,k,h2,h3,h4,h5⟩=>⟨h1,h3,by subst h2;rcases (show k = 0 ∨ k = 1 by omega) with rfl | rfl;exact .inl F;exact .inr F⟩
  refine aW (ι:=ael × Int × Int × Int × Int) (fun j=>(0 ≤ j.2.2.1 ∧ j.2.2.1 ≤ j.2.2.2.1 ∧ j.2.2.2.1 ≤ 4) ∧ (0 ≤ j.2.1 ∧ j.2.1 ≤ 10 * j.2.2.1) ∧ (1 ≤ j.1.length ∧ ((j.1.length : Nat) : Int) ≤ 200 + 1001 * j.2.2.1) ∧ p ≤ j.2.2.2.2 ∧ j.2.2.2.2 ≤ p + 4 + 30 * j.2.2.1) (fun j=>[(0,Pt r 0),(1,S so),(7,S j.1),(8,I j.2.1),(9,I j.2.2.2.1),(10,I j.2.2.1)]) (fun _=>G) (fun j=>[eW r code j.2.2.2.2 dP]) (fun j=>(j.2.2.2.1 - j.2.2.1).toNat) (so ++ nm ++ [61],0,0,_,_) ?_ tU F bc (fun j Hj=>?_)
  ·dsimp only;simp only [List.length_append,List.length_cons,List.length_nil];omega
  obtain ⟨s,tag,kk,n,q⟩:=j
  dsimp only at Hj ⊢
  obtain ⟨hk,htg,hsl,hq0,hq1⟩:=Hj
  by_cases h1 : kk < n
  ·repeat' (first | refine jX ?_ | (refine jo ?_;first | refine jF fun _=>?_ | refine jV (iF F F (by (repeat (first | exact BL.nil | apply BL.cons));done)) ?_ | (refine aL F F F (cx_pk2 oM) F ?_;rintro _ _ ⟨rfl,rfl | rfl⟩ <;> dsimp only [zA,fA]) | (refine aL F F F (dN ?_ (by (repeat (assumption));done)) rfl ?_;(focus omega);rintro _ _ ⟨k,rfl,rfl,hk0,hk1⟩;dsimp only [zA,fA]) | (refine aL F F F (wI ?_ (by (repeat (assumption));done) ?_ ?_) rfl ?_;(focus omega);(focus omega);(focus ((simp;done);done));rintro _ _ ⟨fd,q1,rfl,hfd,rfl,hq1,hq2⟩;dsimp only [zA,fA])) | refine ac F (aA ‹_›) ?_ | refine eG F (fun _=>?_) (fun _=>?_))
   all_goals (refine br (_,_,kk + 1,n,_) ?_ ?_ tU F sB)
   all_goals (first | (dsimp only;simp only [List.length_append,List.length_cons,List.length_nil];omega) | (dsimp only;omega))
  ·repeat' (first | refine jX ?_ | refine ad F (aH ‹_›) ?_)
   exact aX (vs:=[_]) F ⟨F,trivial⟩ F bc ⟨F,_,_,F,by simp only [List.length_append,List.length_cons,List.length_nil];omega,by simp only [List.length_append,List.length_cons,List.length_nil];omega,rfl,oM,oM⟩
def fH (u : Value) (vs : List cG) (k : ael) (deep cp : Int) (ct : Nat) : Prop:=∀ (G : Gh) (r : Nat) (code : Value) (p : Int) (l : ael),SchR G u vs → aN G code 1 l.length (cy l) → 0 ≤ p ∧ p + cp ≤ 600000000000 →
 fp aek 72 [Pt r 0,u,S k,I deep] G [eW r code p dP] (fun v G' L'=>∃ w b q,v = Pt b 0 ∧ RepR G' (ah vs) w k b ∧ w.tot ≤ ct ∧ 1 ≤ w.out.length ∧ L' = [eW r code q dP] ∧ p ≤ q ∧ q ≤ p + cp)
theorem fH.le {u : Value} {vs : List cG} {k : ael} {deep cp cp' : Int} {ct ct' : Nat} (h : fH u vs k deep cp ct) (h1 : cp ≤ cp') (h2 : ct ≤ ct') : fH u vs k deep cp' ct':=fun G r code p l h3 h4 h5 =>
 (h G r code p l h3 h4 ⟨h5.1,oM⟩).mono fun _ _ _ ⟨h6,w,b,q,h7,h8,h9,h10,h11,h12,h13⟩=>⟨h6,w,b,q,h7,h8,oM,h10,h11,h12,oM⟩
theorem q8 {u : Value} {vs : List cG} {deep : Int} : fH u vs [102] deep 15 200:=by
 intro G r code p l hR hs hp
 have cx_pk2 : ∀ {p : Int},0 ≤ p ∧ p ≤ 1000000000000 → d9 aek 38 [Pt r 0,I 2] G [eW r code p dP] (fun v L'=>L' = [eW r code (p + 1) dP] ∧ (v = I 0 ∨ v = I 1)):=fun {p} hp=>(dN (b:=r) (p:=p) (n:=2) ⟨hp.1,hp.2,by decide⟩ hs).mono fun v G' L' ⟨h1,k,h2,h3,h4,h5⟩=>⟨h1,h3,by subst h2;rcases (show k = 0 ∨ k = 1 by omega) with rfl | rfl;exact .inl F;exact .inr F⟩
 refine bM [(0,_),(1,_),(2,_),(3,_)] Tryz.func72 kR Tryz.ntmps72 F F tU fun B hB hW=>?_
 repeat' (first | refine jX ?_ | (refine jo ?_;first | refine jV (ay F F) ?_ | refine jO fun _=>?_ | refine jF fun _=>?_ | refine jV (aT F F oM) ?_ | refine aC F ?_ | refine jD F F F ?_ | (refine aL F F F (cx_pk2 oM) F ?_;rintro _ _ ⟨rfl,rfl | rfl⟩ <;> dsimp only [zA,fA])) | refine ac F F ?_ | refine ad F F ?_)
 all_goals rename_i y _
 all_goals refine Nx.sealC (b:=y) fun G2 hG2 hsy=>?_
 ·exact aX (vs:=[_]) F ⟨F,trivial⟩ F sB ⟨hG2,.nd 102 [121,101,115] 0 [],y,_,F,.leaf 102 _ _ _ y hsy (.inr (.inr ⟨F,F,F,.inl F⟩)),by simp [bK,V.tots],by rw [V.out];simp [c7],rfl,oM,oM⟩
 ·exact aX (vs:=[_]) F ⟨F,trivial⟩ F sB ⟨hG2,.nd 102 [110,111] 0 [],y,_,F,.leaf 102 _ _ _ y hsy (.inr (.inr ⟨F,F,F,.inr F⟩)),by simp [bK,V.tots],by rw [V.out];simp [c7],rfl,oM,oM⟩
abbrev v8 : TypeId:=47
theorem acd {m : Int} (h : 0 ≤ m) : ∀ c ∈ bi m,bn c = true:=(iq m.toNat (Nat.le_refl _) h).2
theorem t5 {u : Value} {vs : List cG} {deep : Int} : fH u vs [110] deep 15 200:=by
 intro G r code p l hR hs hp
 refine bM [(0,_),(1,_),(2,_),(3,_)] Tryz.func72 kR Tryz.ntmps72 F F tU fun B hB hW=>?_
 repeat' (first | refine jX ?_ | (refine jo ?_;first | refine jV (ay F F) ?_ | refine jO fun _=>?_ | refine jF fun _=>?_ | refine jV (aT F F oM) ?_ | (refine acx 999999 F F F ?_ ?_ (fun iz hz0 hz1=>?_);(focus ((simp only [List.length_append,List.length_cons,List.length_nil,List.length_take];omega);done));(focus ((repeat' (first | exact wu | refine uL ⟨oM,oM⟩ ?_));done))) | refine jD F F F ?_ | (refine aL F F F (dN ?_ (by (repeat (assumption));done)) rfl ?_;(focus omega);rintro _ _ ⟨k,rfl,rfl,hk0,hk1⟩;dsimp only [zA,fA]) | refine ae F F F (fU oM) F ?_) | refine ac F F ?_)
 rename_i y _ _ _ _
 have hdl:=ii (n:=iz) oM
 have hdp:=gH iz
 refine Nx.sealC (b:=y) fun G2 hG2 hsy=>?_
 exact aX (vs:=[_]) F ⟨F,trivial⟩ F sB ⟨hG2,.nd 110 (bi iz) 0 [],y,_,F,.leaf 110 _ _ _ y hsy (.inl ⟨F,F,F,acd hz0⟩),by rw [bK,V.tots];omega,by rw [V.out];exact hdp,F,oM,oM⟩
theorem tZ {u : Value} {vs : List cG} {deep : Int} : fH u vs [116] deep 15 200:=by
 intro G r code p l hR hs hp
 refine bM [(0,_),(1,_),(2,_),(3,_)] Tryz.func72 kR Tryz.ntmps72 F F tU fun B hB hW=>?_
 repeat' (first | refine jX ?_ | (refine jo ?_;first | refine jV (ay F F) ?_ | refine jO fun _=>?_ | refine jD F F F ?_ | (refine aL F F F (xN ?_ (by (repeat (assumption));done)) rfl ?_;(focus omega);rintro _ _ ⟨tx,q1,rfl,htx,rfl,hq1,hq2⟩;dsimp only [zA,fA])) | refine ac F F ?_ | refine ad F F ?_)
 rename_i y
 refine Nx.sealC (b:=y) fun G2 hG2 hsy=>?_
 exact aX (vs:=[_]) F ⟨F,trivial⟩ F bc ⟨hG2,.nd 116 tx 0 [],y,_,F,.leaf 116 _ _ _ y hsy (.inr (.inl ⟨F,F,F⟩)),by rw [bK,V.tots];omega,by rw [V.out];simp [c7],rfl,oM,oM⟩
theorem wl {ts : List Ty} {k : ael} {ks : List V} {bs : List Nat} {w : V} {b : Nat} (hl : bs.length = ks.length) (h : ∀ i,i < ks.length → RepR G ts (ab ks i) k (ab bs i)) (hw : RepR G ts w k b) : ∀ i,i < (ks ++ [w]).length → RepR G ts (ab (ks ++ [w]) i) k (ab (bs ++ [b]) i):=fun i hi=>by
 by_cases h1 : i < ks.length
 ·have e1 : ab (ks ++ [w]) i = ab ks i:=by rw [aI hi,aI h1,List.getElem_append_left h1]
  have e2 : ab (bs ++ [b]) i = ab bs i:=by rw [aI (by simp;omega),aI oM,List.getElem_append_left oM]
  rw [e1,e2];exact h i h1
 ·have h2 : i = ks.length:=by simp at hi;omega
  have e1 : ab (ks ++ [w]) i = w:=by rw [aI hi];simp [h2]
  have e2 : ab (bs ++ [b]) i = b:=by rw [aI (by simp;omega)];simp [h2,hl]
  rw [e1,e2];exact hw
theorem qZ {u : Value} {vs : List cG} {kd : ael} {deep cp : Int} {ct : Nat} (hcp : 0 ≤ cp ∧ cp ≤ 100000000) (hct : ct ≤ 100000000) (hD : 0 < deep → fH u vs kd (deep - 1) cp ct) (hu : u.oneCell' = true) (hkl : kd.length ≤ 1000) (hd : -1000 ≤ deep ∧ deep ≤ 1000) : fH u vs (91 :: kd) deep (3 * cp + 10) (3 * ct + 200):=by
 intro G r code p l hR hs hp
 have hkd0 : bt (91 :: kd) (Int.toNat 0) = 91:=bH 91 kd
 have hkl2 : (91 :: kd).length = kd.length + 1:=rfl
 refine bM [(0,_),(1,_),(2,_),(3,_)] Tryz.func72 kR Tryz.ntmps72 F F tU fun B hB hW=>?_
 repeat' (first | refine jM ?_ | (refine jo ?_;first | refine jV (ay F F) ?_ | refine jO fun _=>?_ | (refine aL F F F (dN ?_ (by (repeat (assumption));done)) rfl ?_;(focus omega);rintro _ _ ⟨k,rfl,rfl,hk0,hk1⟩;dsimp only [zA,fA])) | refine ac F F ?_ | refine ad F F ?_)
 rename_i y
 refine Nx.addNil v8 1 ?_
 refine aW (ι:=List V × List Nat × Option Addr × Nat × Int × Int × Gh) (fun j=>((j.2.1.length = j.1.length ∧ ∀ i,i < j.1.length → RepR j.2.2.2.2.2.2 (ah vs) (ab j.1 i) kd (ab j.2.1 i)) ∧ Gh.le G j.2.2.2.2.2.2) ∧ (0 ≤ j.2.2.2.2.1 ∧ ((j.1.length : Nat) : Int) + j.2.2.2.2.1 ≤ 3) ∧ V.tots j.1 ≤ ct * j.1.length ∧ p ≤ j.2.2.2.2.2.1 ∧ j.2.2.2.2.2.1 ≤ p + 1 + cp * ((j.1.length : Nat) : Int)) (fun j=>[(0,Pt r 0),(1,u),(2,S (91 :: kd)),(3,I deep),(9,Pt y 0),(10,I j.2.2.2.2.1)]) (fun j=>j.2.2.2.2.2.2) (fun j=>[.acc (.slice j.2.2.1 j.1.length j.2.2.2.1) v8 1 j.1.length (ag dH j.2.1),eW r code j.2.2.2.2.2.1 dP,.blk y (.cells (List.toArray [S (91 :: kd),S [],aK,.slice j.2.2.1 j.1.length j.2.2.2.1]) od (0,0))]) (fun j=>j.2.2.2.2.1.toNat) ([],[],none,0,k,p + 1,G) ?_ tU F bc (fun j Hj=>?_)
 ·refine ⟨⟨⟨F,fun i hi=>absurd hi (by simp)⟩,Gh.le.refl _⟩,?_,?_,?_,?_⟩
  ·dsimp only;simp only [List.length_nil];omega
  ·simp [V.tots]
  ·dsimp only;omega
  ·dsimp only;simp
 obtain ⟨ks,bs,a,c,kk,q,Gq⟩:=j
 dsimp only at Hj ⊢
 obtain ⟨⟨⟨hbl,hreps⟩,hgq⟩,hk,htt,hq0,hq1⟩:=Hj
 have hcl : cp * ((ks.length : Nat) : Int) ≤ cp * 3:=Int.mul_le_mul_of_nonneg_left oM hcp.1
 have hcl0 : 0 ≤ cp * ((ks.length : Nat) : Int):=Int.mul_nonneg hcp.1 oM
 have htl : ct * ks.length ≤ ct * 3:=Nat.mul_le_mul_left _ oM
 by_cases hgo : 0 < kk ∧ 0 < deep
 ·obtain ⟨hk0,hd0⟩:=hgo
  have hcl3 : cp * ((ks.length : Nat) : Int) + cp ≤ cp * 3:=by
   have:=Int.mul_le_mul_of_nonneg_left (show ((ks.length : Nat) : Int) + 1 ≤ 3 by omega) hcp.1
   rwa [Int.mul_add,Int.mul_one] at this
  have cx_dv:=fun {p : Int} (hp : 0 ≤ p ∧ p + cp ≤ 600000000000)=>hD hd0 Gq r code p l (hR.mono hgq) (hs.mono hgq) hp
  repeat' (first | refine jR ?_ | (refine jo ?_;refine aP F ?_) | refine aF F F (aA ‹_›) ?_ | refine ac F (aA ‹_›) ?_)
  (refine an (ao (id:=16) [] (fun _ h=>absurd h (by simp)) am ?_);refine jW 7 [0,1,2,3,5,6,7,8,9,10] (aa 17 2031) ?_;refine b8 [4,11] kR dC ⟨?_,?_,trivial⟩;(focus (refine aO F F ?_;(refine aC F ?_);refine jK (aa 17 2047) ?_;refine jA 11 F ?_;((refine eR F F F (cx_dv ?_) F ?_;(focus omega);rintro _ G1 _ hle ⟨w1,b1,q1,rfl,hrep,htot,hone,rfl,hq1,hq2⟩;dsimp only [zA,fA];skip));refine jK (aa 17 4095) ?_;refine jA 12 F ?_;(refine jF fun _=>?_);refine jK (aa 17 8191) ?_;refine jA 13 F ?_;((refine bG F F F F F F F F F ?_ fun _ _=>?_;focus omega));refine jK (aa 17 16383) ?_;refine jW 1 [14,15] (aa 17 65535) ?_;refine jA 16 F ?_;(refine jD F F F ?_);refine jK (aa 17 131071) ?_;refine jQ ?_));rotate_left 1;(focus (refine aO F F ?_;((refine eR F F F (cx_dv ?_) F ?_;(focus omega);rintro _ G1 _ hle ⟨w1,b1,q1,rfl,hrep,htot,hone,rfl,hq1,hq2⟩;dsimp only [zA,fA];skip));refine jK (aa 17 4079) ?_;refine b8 [4,12] kR dC ⟨?_,?_,trivial⟩;(focus (refine aO F F ?_;(refine aC F ?_);refine jK (aa 17 4095) ?_;refine jA 12 F ?_;(refine jF fun _=>?_);refine jK (aa 17 8191) ?_;refine jA 13 F ?_;((refine bG F F F F F F F F F ?_ fun _ _=>?_;focus omega));refine jK (aa 17 16383) ?_;refine jW 1 [14,15] (aa 17 65535) ?_;refine jA 16 F ?_;(refine jD F F F ?_);refine jK (aa 17 131071) ?_;refine jQ ?_));rotate_left 1;(focus (refine aO F F ?_;(refine jF fun _=>?_);refine jK (aa 17 8175) ?_;refine jA 4 F ?_;(refine aC F ?_);refine jK (aa 17 8191) ?_;refine jA 13 F ?_;((refine bG F F F F F F F F F ?_ fun _ _=>?_;focus omega));refine jK (aa 17 16383) ?_;refine jW 1 [14,15] (aa 17 65535) ?_;refine jA 16 F ?_;(refine jD F F F ?_);refine jK (aa 17 131071) ?_;refine jQ ?_));rotate_left 1));rotate_left 2)
  all_goals repeat' (refine jM ?_)
  all_goals
   rename_i _ y1 yc
   have hl1 : (ks ++ [w1]).length = ks.length + 1:=by simp
   have hms : ct * (ks.length + 1) = ct * ks.length + ct:=Nat.mul_succ _ _
   have hts : V.tots (ks ++ [w1]) = V.tots ks + w1.tot:=by simp [fI,V.tots]
   rw [show ag dH bs ++ [Pt b1 0] = ag dH (bs ++ [b1]) from (bX dH bs b1).symm]
   exact br (ks ++ [w1],bs ++ [b1],some ⟨y1,0,none⟩,yc,kk - 1,q1,G1) ⟨⟨⟨by simp [hbl],wl hbl (fun i hi=>(hreps i hi).mono hle) hrep⟩,hgq.trans hle⟩,by dsimp only;rw [hl1];omega,by dsimp only;rw [hl1,hms,hts];omega,by dsimp only;omega,by dsimp only;rw [hl1,Int.natCast_succ,Int.mul_add,Int.mul_one];omega⟩ (by dsimp only;omega) tU rfl (by rw [hl1];repeat (first | exact List.Sublist.refl _ | apply List.Sublist.cons_cons | apply List.Sublist.cons))
 ·have : kk = 0 ∨ deep ≤ 0:=oM
  repeat' (first | refine jR ?_ | (refine jo ?_;first | refine aP F ?_ | refine aE F ?_) | refine ff F F (fun _=>?_) (fun _=>?_) | (refine ad F (by first | rfl | (refine decide_eq_false ?_;(omega))) ?_))
  all_goals
   refine Nx.sealS (v:=.slice a ks.length c) fun G2 hG2 hsl=>?_
   refine Nx.sealC (b:=y) fun G3 hG3 hsg=>?_
   exact aX (vs:=[_]) F ⟨F,trivial⟩ F bc ⟨hgq.trans (hG2.trans hG3),.nd 91 [] 0 ks,y,q,F,.lst kd y ks bs a c hsg (hsl.mono hG3) hbl (fun i hi=>(hreps i hi).mono (hG2.trans hG3)),by rw [bK];simp only [List.length_nil];omega,by rw [V.out];simp [c7],rfl,oM,oM⟩
theorem t3 {u : Value} {vs : List cG} {kd : ael} {deep cp : Int} {ct : Nat} (hcp : 0 ≤ cp ∧ cp ≤ 100000000) (hct : ct ≤ 100000000) (hD : 0 < deep → fH u vs kd (deep - 1) cp ct) (hu : u.oneCell' = true) (hkl : kd.length ≤ 1000) (hd : -1000 ≤ deep ∧ deep ≤ 1000) : fH u vs (63 :: kd) deep (cp + 10) (ct + 200):=by
 intro G r code p l hR hs hp
 have hkd0 : bt (63 :: kd) (Int.toNat 0) = 63:=bH 63 kd
 have hkl2 : (63 :: kd).length = kd.length + 1:=rfl
 by_cases h0 : 0 < deep
 ·have cx_dv:=fun {p : Int} (hp : 0 ≤ p ∧ p + cp ≤ 600000000000)=>hD h0 G r code p l hR hs hp
  refine bM [(0,_),(1,_),(2,_),(3,_)] Tryz.func72 kR Tryz.ntmps72 F F tU fun B hB hW=>?_
  repeat' (first | refine jM ?_ | (refine jo ?_;first | refine jV (ay F F) ?_ | refine jO fun _=>?_ | refine aP F ?_ | (refine aL F F F (dN ?_ (by (repeat (assumption));done)) rfl ?_;(focus omega);rintro _ _ ⟨k,rfl,rfl,hk0,hk1⟩;dsimp only [zA,fA])) | refine aF F F (aA ‹_›) ?_ | refine ac F F ?_ | refine ad F F ?_ | refine eG F (fun _=>?_) (fun _=>?_))
  ·refine Nx.addNil v8 1 ?_
   (refine an (ao (id:=20) [] (fun _ h=>absurd h (by simp)) am ?_);refine jW 7 [0,1,2,3,5,6,7,8,9,10] (aa 17 2031) ?_;refine b8 [4,11] kR dC ⟨?_,?_,trivial⟩;(focus (refine aO F F ?_;(refine aC F ?_);refine jK (aa 17 2047) ?_;refine jA 11 F ?_;((refine eR F F F (cx_dv ?_) F ?_;(focus omega);rintro _ G1 _ hle ⟨w1,b1,q1,rfl,hrep,htot,hone,rfl,hq1,hq2⟩;dsimp only [zA,fA];skip));refine jK (aa 17 4095) ?_;refine jA 12 F ?_;(refine jF fun _=>?_);refine jK (aa 17 8191) ?_;refine jA 13 F ?_;((refine bG F F F F F F F F F ?_ fun _ _=>?_;focus omega));refine jK (aa 17 16383) ?_;refine jW 1 [14,15] (aa 17 65535) ?_;refine jA 16 F ?_;(refine jD F F F ?_);refine jK (aa 17 131071) ?_;refine jQ ?_));rotate_left 1;(focus (refine aO F F ?_;((refine eR F F F (cx_dv ?_) F ?_;(focus omega);rintro _ G1 _ hle ⟨w1,b1,q1,rfl,hrep,htot,hone,rfl,hq1,hq2⟩;dsimp only [zA,fA];skip));refine jK (aa 17 4079) ?_;refine b8 [4,12] kR dC ⟨?_,?_,trivial⟩;(focus (refine aO F F ?_;(refine aC F ?_);refine jK (aa 17 4095) ?_;refine jA 12 F ?_;(refine jF fun _=>?_);refine jK (aa 17 8191) ?_;refine jA 13 F ?_;((refine bG F F F F F F F F F ?_ fun _ _=>?_;focus omega));refine jK (aa 17 16383) ?_;refine jW 1 [14,15] (aa 17 65535) ?_;refine jA 16 F ?_;(refine jD F F F ?_);refine jK (aa 17 131071) ?_;refine jQ ?_));rotate_left 1;(focus (refine aO F F ?_;(refine jF fun _=>?_);refine jK (aa 17 8175) ?_;refine jA 4 F ?_;(refine aC F ?_);refine jK (aa 17 8191) ?_;refine jA 13 F ?_;((refine bG F F F F F F F F F ?_ fun _ _=>?_;focus omega));refine jK (aa 17 16383) ?_;refine jW 1 [14,15] (aa 17 65535) ?_;refine jA 16 F ?_;(refine jD F F F ?_);refine jK (aa 17 131071) ?_;refine jQ ?_));rotate_left 1));rotate_left 2)
   all_goals repeat' (refine jR ?_)
   all_goals
    rename_i y _ _ y1 yc
    refine Nx.sealS (v:=.slice (some ⟨y1,0,none⟩) (0 + 1) yc) fun G2 hG2 hsl=>?_
    refine Nx.sealC (b:=y) fun G3 hG3 hsg=>?_
    obtain ⟨_,⟨h,_⟩ | ⟨b2,o2,c2,e,hc2,hs2⟩⟩:=hsl
    ·cases h
    simp only [Value.slice.injEq,Option.some.injEq,Addr.mk.injEq,and_true] at e
    obtain ⟨⟨rfl,rfl⟩,-,rfl⟩:=e
    exact aX (vs:=[_]) F ⟨F,trivial⟩ F sB ⟨hle.trans (hG2.trans hG3),.nd 63 [] 0 [w1],y,q1,F,.opt kd y y1 b1 yc w1 oM hsg (hs2.mono hG3) (hrep.mono (hG2.trans hG3)),by simp only [bK,V.tots,List.length_nil];omega,by rw [V.out];simp [c7],rfl,oM,oM⟩
  ·rename_i y _
   refine Nx.sealC (b:=y) fun G2 hG2 hsy=>?_
   exact aX (vs:=[_]) F ⟨F,trivial⟩ F bc ⟨hG2,.nd 63 [] 0 [],y,_,F,.non kd y hsy,by simp [bK,V.tots],by rw [V.out];simp [c7],rfl,oM,oM⟩
 ·refine bM [(0,_),(1,_),(2,_),(3,_)] Tryz.func72 kR Tryz.ntmps72 F F tU fun B hB hW=>?_
  repeat' (first | refine jM ?_ | (refine jo ?_;first | refine jV (ay F F) ?_ | refine jO fun _=>?_ | refine aE F ?_) | refine aw F F (aH ‹_›) ?_ | refine ac F F ?_ | refine ad F F ?_)
  rename_i y
  refine Nx.sealC (b:=y) fun G2 hG2 hsy=>?_
  exact aX (vs:=[_]) F ⟨F,trivial⟩ F bc ⟨hG2,.nd 63 [] 0 [],y,_,F,.non kd y hsy,by simp [bK,V.tots],by rw [V.out];simp [c7],rfl,oM,oM⟩
abbrev oR : TypeId:=134
abbrev zr : TypeId:=47
abbrev zv : TypeId:=3
def qF (u : Value) (vs : List cG) (k : ael) (deep cp : Int) (ct : Nat) : Prop:=∀ (G : Gh) (r : Nat) (code : Value) (p : Int) (l : ael),SchR G u vs → aN G code 1 l.length (cy l) → 0 ≤ p ∧ p + cp ≤ 600000000000 →
 fp aek 117 [Pt r 0,u,S k,I deep] G [eW r code p dP] (fun v G' L'=>∃ w b q,v = Pt b 0 ∧ RepR G' (ah vs) w k b ∧ w.tot ≤ ct ∧ 1 ≤ w.out.length ∧ L' = [eW r code q dP] ∧ p ≤ q ∧ q ≤ p + cp)
theorem tY {u : Value} {vs : List cG} {k : ael} {deep cp : Int} {ct : Nat} (hD : qF u vs (64 :: k) deep cp ct) (hkl : k.length ≤ 1000) : fH u vs (64 :: k) deep cp ct:=by
 intro G r code p l hR hs hp
 have hkd0 : bt (64 :: k) (Int.toNat 0) = 64:=bH 64 k
 have hkl2 : (64 :: k).length = k.length + 1:=rfl
 have cx_dt:=fun {p : Int} (hp : 0 ≤ p ∧ p + cp ≤ 600000000000)=>hD G r code p l hR hs hp
 refine bM [(0,_),(1,_),(2,_),(3,_)] Tryz.func72 kR Tryz.ntmps72 F F tU fun B hB hW=>?_
 repeat' (first | refine jM ?_ | (refine jo ?_;first | refine jV (ay F F) ?_ | refine jO fun _=>?_ | (refine eR F F F (cx_dt ‹_›) F ?_;rintro _ G1 _ hle ⟨w1,b1,q1,rfl,hrep,htot,hone,rfl,hq1,hq2⟩;dsimp only [zA,fA];skip)) | refine ad F F ?_)
 exact aX (vs:=[_]) F ⟨F,trivial⟩ F sB ⟨hle,w1,b1,q1,F,hrep,htot,hone,F,hq1,hq2⟩
section
variable {u : Value} {vs : List cG} {kd nm : ael} {fs : List Fld} {a : Option Addr} {ca : Nat} {deep cp : Int} {ct : Nat}
theorem xw (hr : fq vs kd = some ((a,ca),⟨69,nm,fs⟩)) (hvl : vs.length ≤ 1000000) (hk : fm kd = true) (hkl : kd.length ≤ 1000) (h0 : 0 < fs.length) (h8 : fs.length ≤ 8) (hw : SchW (ah vs)) : qF u vs kd deep 10 300:=by
 intro G r code p l hR hs hp
 have href:=fx vs kd
 rw [hr] at href
 have cx_rf:=jl (G:=G) (k:=kd) hR hvl hk oM
 rw [hr] at cx_rf
 have htm:=bj href.symm
 obtain ⟨bf,of,cf,ef,hsf⟩:=(hR.fl _ (gz hr)).expl h0
 simp only [gx,Value.slice.injEq] at ef
 obtain ⟨rfl,-,rfl⟩:=ef
 dsimp only at hsf
 have cx_rf : a7 aek 136 [u,S kd] G (· = Tu [Ag [U8 (69 : Nat),S nm,.slice (some ⟨bf,of,none⟩) fs.length ca],Bo true]):=cx_rf
 refine bM [(0,_),(1,_),(2,_),(3,_)] Tryz.func117 kR Tryz.ntmps117 F F tU fun B hB hW=>?_
 repeat' (first | refine jR ?_ | (refine jo ?_;first | refine jL fun _=>?_ | refine jC F F F ?_ | refine aC F ?_ | refine jF fun _=>?_ | refine jV (iF F F (by (repeat (first | exact BL.nil | apply BL.lit rfl));done)) ?_ | refine jV (ay F F) ?_ | refine jO fun _=>?_ | refine ae F F F cx_rf F ?_) | refine ac F F ?_)
 rename_i y9 _ y11
 (refine an (ao (id:=5) [.blk y9 (.cells (List.toArray [U8 (69 : Nat),S nm,.slice (some ⟨bf,of,none⟩) fs.length ca]) oR (0,0))] (by intro y hy;simp only [List.mem_cons,List.not_mem_nil,or_false] at hy ⊢;simp [hy]) am ?_);refine jW 11 [0,1,3,4] (aa 15 27) ?_;(refine jG (aa 15 31) 2 F (aV F F F) ?_);(refine jG (aa 15 63) 5 F (aV F F F) ?_);(refine jG (aa 15 127) 6 F (af F) ?_);refine jA 7 F ?_;((refine aL F F F (dN ?_ (by (repeat (assumption));done)) rfl ?_;(focus omega);rintro _ _ ⟨k,rfl,rfl,hk0,hk1⟩;dsimp only [zA,fA]));refine jK (aa 15 255) ?_;((refine jG (aa 15 511) 8 F (aT F F ?_) ?_;focus omega));refine jW 5 [9] (aa 15 1023) ?_;((refine jG (aa 15 2047) 10 F (b9 F F aS ?_ F F) ?_;focus omega));refine jA 11 F ?_;(refine jF fun _=>?_);refine jK (aa 15 4095) ?_;refine jW 1 [12,13] (aa 15 16383) ?_;refine jA 14 F ?_;(refine jD F F F ?_);refine jK (aa 15 32767) ?_;refine jQ ?_)
 all_goals repeat' (refine jR ?_)
 all_goals
  rename_i y1
  refine Nx.sealC (b:=y1) fun G2 hG2 hsy=>?_
  refine Nx.sealC (b:=y11) fun G3 hG3 hsg=>?_
  have hdm : ab fs k.toNat ∈ fs:=bC oM
  exact aX (vs:=[_]) F ⟨F,trivial⟩ F sB ⟨hG2.trans hG3,.nd 69 [] (ab fs k.toNat).tag [],y11,_,F,.enm kd y11 y1 ⟨69,nm,fs⟩ (ab fs k.toNat) ⟨href.symm,F⟩ hdm hsg (hsy.mono hG3),by simp [bK,V.tots],by rw [V.out];simp [c7],rfl,oM,oM⟩
theorem xv (hr : fq vs kd = some ((a,ca),⟨85,nm,fs⟩)) (hvl : vs.length ≤ 1000000) (hk : fm kd = true) (hkl : kd.length ≤ 1000) (h0 : 0 < fs.length) (h8 : fs.length ≤ 8) (hw : SchW (ah vs)) (hcp : 0 ≤ cp ∧ cp ≤ 100000000) (hct : ct ≤ 100000000)
  (hD : ∀ d ∈ fs,(0 < deep ∨ d = ab fs 0) → fH u vs d.kind (deep - 1) cp ct) (hd : -1000 ≤ deep ∧ deep ≤ 1000) : qF u vs kd deep (cp + 10) (ct + 20):=by
 intro G r code p l hR hs hp
 have href:=fx vs kd
 rw [hr] at href
 have cx_rf:=jl (G:=G) (k:=kd) hR hvl hk oM
 rw [hr] at cx_rf
 have htm:=bj href.symm
 obtain ⟨bf,of,cf,ef,hsf⟩:=(hR.fl _ (gz hr)).expl h0
 simp only [gx,Value.slice.injEq] at ef
 obtain ⟨rfl,-,rfl⟩:=ef
 dsimp only at hsf
 have cx_rf : a7 aek 136 [u,S kd] G (· = Tu [Ag [U8 (85 : Nat),S nm,.slice (some ⟨bf,of,none⟩) fs.length ca],Bo true]):=cx_rf
 refine bM [(0,_),(1,_),(2,_),(3,_)] Tryz.func117 kR Tryz.ntmps117 F F tU fun B hB hW=>?_
 repeat' (first | refine jM ?_ | (refine jo ?_;first | refine jL fun _=>?_ | refine jD F F F ?_ | refine jC F F F ?_ | refine aC F ?_ | (refine jV (dJ F F aS ?_) ?_;focus omega) | refine jF fun _=>?_ | refine jV (iF F F (by (repeat (first | exact BL.nil | apply BL.lit rfl));done)) ?_ | refine jV (ay F F) ?_ | refine jO fun _=>?_ | refine jV (ak F F oM) ?_ | refine ae F F F cx_rf F ?_) | refine ac F F ?_ | refine ad F F ?_ | refine eG F (fun _=>?_) (fun _=>?_))
 ·rename_i y9 _ y11 y12 hd0
  (refine an (ao (id:=10) [.blk y9 (.cells (List.toArray [U8 (85 : Nat),S nm,.slice (some ⟨bf,of,none⟩) fs.length ca]) oR (0,0))] (by intro y hy;simp only [List.mem_cons,List.not_mem_nil,or_false] at hy ⊢;simp [hy]) am ?_);refine jW 7 [0,2,3] (aa 10 13) ?_;(refine jG (aa 10 15) 1 F (aV F F F) ?_);(refine jG (aa 10 31) 4 F (aV F F F) ?_);(refine jG (aa 10 63) 5 F (af F) ?_);refine jA 6 F ?_;((refine aL F F F (dN ?_ (by (repeat (assumption));done)) rfl ?_;(focus omega);rintro _ _ ⟨k,rfl,rfl,hk0,hk1⟩;dsimp only [zA,fA]));refine jK (aa 10 127) ?_;((refine jG (aa 10 255) 7 F (aT F F ?_) ?_;focus omega));((refine jG (aa 10 511) 8 F (dJ F F aS ?_) ?_;focus omega));refine jA 9 F ?_;(refine jC F F F ?_);refine jK (aa 10 1023) ?_;refine jQ ?_)
  all_goals have hdm : ab fs k.toNat ∈ fs:=bC oM
  all_goals have cx_dv:=fun {p : Int} (hp : 0 ≤ p ∧ p + cp ≤ 600000000000)=>hD (ab fs k.toNat) hdm (.inl hd0) G r code p l hR hs hp
  all_goals repeat' (first | refine jM ?_ | (refine jo ?_;first | refine jD F F F ?_ | refine aC F ?_ | refine jF fun _=>?_ | (refine eR F F F (cx_dv oM) F ?_;rintro _ G1 _ hle ⟨w1,b1,q1,rfl,hrep,htot,hone,rfl,hq1,hq2⟩;dsimp only [zA,fA];skip)))
  all_goals
   rename_i y1 y2
   refine Nx.sealC (b:=y1) fun G2 hG2 hs1=>?_
   refine Nx.sealC (b:=y2) fun G3 hG3 hs2=>?_
   refine Nx.sealC (b:=y11) fun G4 hG4 hsg=>?_
   exact aX (vs:=[_]) F ⟨F,trivial⟩ F sB ⟨((hle.trans hG2).trans hG3).trans hG4,.nd 85 [] (ab fs k.toNat).tag [w1],y11,_,F,.uni kd y11 y1 y2 b1 1 ⟨85,nm,fs⟩ (ab fs k.toNat) w1 (Nat.le_refl _) ⟨href.symm,F⟩ hdm hsg (hs1.mono (hG3.trans hG4)) (hs2.mono hG4) (hrep.mono ((hG2.trans hG3).trans hG4)),by simp only [bK,V.tots,List.length_nil];omega,by rw [V.out];simp [c7],rfl,oM,oM⟩
 ·have cx_dv:=fun {p : Int} (hp : 0 ≤ p ∧ p + cp ≤ 600000000000)=>hD (ab fs 0) (bC h0) (.inr rfl) G r code p l hR hs hp
  repeat' (first | refine jR ?_ | (refine jo ?_;first | refine jD F F F ?_ | refine jF fun _=>?_ | (refine eR F F F (cx_dv oM) F ?_;rintro _ G1 _ hle ⟨w1,b1,q1,rfl,hrep,htot,hone,rfl,hq1,hq2⟩;dsimp only [zA,fA];skip)))
  all_goals
   rename_i y9 _ y11 y12 _ y1 y2
   refine Nx.sealC (b:=y1) fun G2 hG2 hs1=>?_
   refine Nx.sealC (b:=y2) fun G3 hG3 hs2=>?_
   refine Nx.sealC (b:=y11) fun G4 hG4 hsg=>?_
   exact aX (vs:=[_]) F ⟨F,trivial⟩ F sB ⟨((hle.trans hG2).trans hG3).trans hG4,.nd 85 [] (ab fs 0).tag [w1],y11,_,F,.uni kd y11 y1 y2 b1 1 ⟨85,nm,fs⟩ (ab fs 0) w1 (Nat.le_refl _) ⟨href.symm,F⟩ (bC h0) hsg (hs1.mono (hG3.trans hG4)) (hs2.mono hG4) (hrep.mono ((hG2.trans hG3).trans hG4)),by simp only [bK,V.tots,List.length_nil];omega,by rw [V.out];simp [c7],rfl,oM,oM⟩
theorem aaC (hr : fq vs kd = some ((a,ca),⟨82,nm,fs⟩)) (hvl : vs.length ≤ 1000000) (hk : fm kd = true) (hkl : kd.length ≤ 1000) (h8 : fs.length ≤ 8) (hd : -1000 ≤ deep ∧ deep ≤ 0) : qF u vs kd deep 10 100:=by
 intro G r code p l hR hs hp
 have href:=fx vs kd
 rw [hr] at href
 have cx_rf:=jl (G:=G) (k:=kd) hR hvl hk oM
 rw [hr] at cx_rf
 have cx_rf : a7 aek 136 [u,S kd] G (· = Tu [Ag [U8 (82 : Nat),S nm,.slice a fs.length ca],Bo true]):=cx_rf
 refine bM [(0,_),(1,_),(2,_),(3,_)] Tryz.func117 kR Tryz.ntmps117 F F tU fun B hB hW=>?_
 repeat' (first | refine jR ?_ | (refine jo ?_;first | refine jL fun _=>?_ | refine jC F F F ?_ | refine aC F ?_ | refine jF fun _=>?_ | refine jV (iF F F (by (repeat (first | exact BL.nil | apply BL.lit rfl));done)) ?_ | refine jV (ay F F) ?_ | refine jO fun _=>?_ | refine ae F F F cx_rf F ?_) | refine ad F F ?_)
 rename_i y9 _ y11
 refine aW (ι:=Unit) (fun i=>True) (fun i=>[(0,Pt r 0),(1,u),(2,S kd),(3,I deep),(9,Pt y9 0),(11,Pt y11 0),(13,I 0)]) (fun _=>G) (fun i=>[.blk y11 (.cells (List.toArray [S kd,S [82],aK,aK]) od (0,0)),.blk y9 (.cells (List.toArray [U8 (82 : Nat),S nm,.slice a fs.length ca]) oR (0,0)),eW r code p dP]) (fun i=>0) () ?_ tU F sB (fun i Hi=>?_)
 ·trivial
 by_cases h0 : 0 < fs.length
 all_goals repeat' (first | refine jR ?_ | (refine jo ?_;first | refine aC F ?_ | refine jV (af F) ?_ | refine aP F ?_ | refine aE F ?_) | refine aF F F (aA oM) ?_ | refine aw F F (aH oM) ?_ | (refine ad F (by first | rfl | (refine decide_eq_false ?_;(omega))) ?_))
 all_goals
  refine Nx.sealC (b:=y11) fun G2 hG2 hsg=>?_
  exact aX (vs:=[_]) F ⟨F,trivial⟩ F sB ⟨hG2,.nd 82 [] 0 [],y11,p,F,.recd kd y11 ⟨82,nm,fs⟩ [] [] none none 0 0 ⟨href.symm,F⟩ hsg ⟨F,.inl ⟨F,F⟩⟩ ⟨F,.inl ⟨F,F⟩⟩ F (fun i hi=>absurd hi (by simp)) (fun i hi=>absurd hi (by simp)),by simp [bK,V.tots],by rw [V.out];simp [c7],rfl,oM,oM⟩
theorem aca (hr : fq vs kd = some ((a,ca),⟨82,nm,fs⟩)) (hvl : vs.length ≤ 1000000) (hk : fm kd = true) (hkl : kd.length ≤ 1000) (h8 : fs.length ≤ 8) (hw : SchW (ah vs)) (hcp : 0 ≤ cp ∧ cp ≤ 100000000) (hct : ct ≤ 100000000)
  (hD : ∀ d ∈ fs,fH u vs d.kind (deep - 1) cp ct) (hd : 0 < deep ∧ deep ≤ 1000) : qF u vs kd deep (8 * cp + 20) (8 * ct + 200):=by
 intro G r code p l hR hs hp
 have href:=fx vs kd
 rw [hr] at href
 have cx_rf:=jl (G:=G) (k:=kd) hR hvl hk oM
 rw [hr] at cx_rf
 have htm:=bj href.symm
 have cx_rf : a7 aek 136 [u,S kd] G (· = Tu [Ag [U8 (82 : Nat),S nm,.slice a fs.length ca],Bo true]):=cx_rf
 refine bM [(0,_),(1,_),(2,_),(3,_)] Tryz.func117 kR Tryz.ntmps117 F F tU fun B hB hW=>?_
 repeat' (first | refine jR ?_ | (refine jo ?_;first | refine jL fun _=>?_ | refine jC F F F ?_ | refine aC F ?_ | refine jF fun _=>?_ | refine jV (iF F F (by (repeat (first | exact BL.nil | apply BL.lit rfl));done)) ?_ | refine jV (ay F F) ?_ | refine jO fun _=>?_ | refine ae F F F cx_rf F ?_) | refine ad F F ?_)
 rename_i y9 _ y11
 refine Nx.addNil zv 1 (Nx.addNil zr 1 ?_)
 refine Nx.perm (((List.perm_append_comm (l₁:=[_,_,_]) (l₂:=[_])).cons _).cons _) ?_
 dsimp only [zA,fA]
 refine aW (ι:=List (Fld × V) × List Nat × Option Addr × Nat × Option Addr × Nat × Nat × Int × Gh) (fun j=>((j.2.1.length = j.1.length ∧ (∀ i,i < j.1.length → (ab j.1 i).1 ∈ fs) ∧ ∀ i,i < j.1.length → RepR j.2.2.2.2.2.2.2.2 (ah vs) (ab j.1 i).2 (ab j.1 i).1.kind (ab j.2.1 i)) ∧ Gh.le G j.2.2.2.2.2.2.2.2) ∧ (j.1.length ≤ j.2.2.2.2.2.2.1 ∧ j.2.2.2.2.2.2.1 ≤ fs.length) ∧ V.tots (iC j.1) ≤ (ct + 20) * j.1.length ∧ p ≤ j.2.2.2.2.2.2.2.1 ∧ j.2.2.2.2.2.2.2.1 ≤ p + (cp + 1) * ((j.2.2.2.2.2.2.1 : Nat) : Int)) (fun j=>[(0,Pt r 0),(1,u),(2,S kd),(3,I deep),(9,Pt y9 0),(11,Pt y11 0),(13,I ((j.2.2.2.2.2.2.1 : Nat) : Int))]) (fun j=>j.2.2.2.2.2.2.2.2) (fun j=>[.acc (.slice j.2.2.2.2.1 j.1.length j.2.2.2.2.2.1) zr 1 j.1.length (ag dH j.2.1),.acc (.slice j.2.2.1 j.1.length j.2.2.2.1) zv 1 j.1.length (ag cL (j.1.map fun p=>p.1.tag)),eW r code j.2.2.2.2.2.2.2.1 dP,.blk y11 (.cells (List.toArray [S kd,S [82],.slice j.2.2.1 j.1.length j.2.2.2.1,.slice j.2.2.2.2.1 j.1.length j.2.2.2.2.2.1]) od (0,0)),.blk y9 (.cells (List.toArray [U8 (82 : Nat),S nm,.slice a fs.length ca]) oR (0,0))]) (fun j=>fs.length - j.2.2.2.2.2.2.1) ([],[],none,0,none,0,0,p,G) ?_ tU F sB (fun j Hj=>?_)
 ·refine ⟨⟨⟨F,fun i hi=>absurd hi (by simp),fun i hi=>absurd hi (by simp)⟩,Gh.le.refl _⟩,?_,?_,?_,?_⟩
  ·exact ⟨Nat.le_refl _,Nat.zero_le _⟩
  ·simp [iC,V.tots]
  ·dsimp only;omega
  ·dsimp only;simp
 obtain ⟨gs,bs,a1,c1,a2,c2,i,q,Gq⟩:=j
 dsimp only at Hj ⊢
 obtain ⟨⟨⟨hbl,hfm,hreps⟩,hgq⟩,hil,htt,hq0,hq1⟩:=Hj
 have hcl : (cp + 1) * ((i : Nat) : Int) ≤ (cp + 1) * 8:=Int.mul_le_mul_of_nonneg_left oM oM
 have hcl0 : 0 ≤ (cp + 1) * ((i : Nat) : Int):=Int.mul_nonneg oM oM
 have htl : (ct + 20) * gs.length ≤ (ct + 20) * 8:=Nat.mul_le_mul_left _ oM
 by_cases hgo : i < fs.length
 ·have hcl3 : (cp + 1) * ((i : Nat) : Int) + (cp + 1) ≤ (cp + 1) * 8:=by
   have:=Int.mul_le_mul_of_nonneg_left (show ((i : Nat) : Int) + 1 ≤ 8 by omega) (show 0 ≤ cp + 1 by omega)
   rwa [Int.mul_add,Int.mul_one] at this
  obtain ⟨bf,of,cf,ef,hsf⟩:=(hR.fl _ (gz hr)).expl (by dsimp only;omega)
  simp only [gx,Value.slice.injEq] at ef
  obtain ⟨rfl,-,rfl⟩:=ef
  dsimp only at hsf
  have hdm : ab fs i ∈ fs:=bC hgo
  have hdk : ax (ah vs) (ab fs i).kind = true:=d6 hw htm (by simp) hdm
  have cx_dv:=fun {p : Int} (hp : 0 ≤ p ∧ p + cp ≤ 600000000000)=>hD (ab fs i) hdm Gq r code p l (hR.mono hgq) (hs.mono hgq) hp
  have hsf:=hsf.mono hgq
  repeat' (first | refine jM ?_ | (refine jo ?_;first | refine aC F ?_ | (refine jV (b9 F F aS ?_ F F) ?_;focus omega) | refine jV (af F) ?_ | refine jV (ak F F oM) ?_ | refine aP F ?_ | (refine eR F F F (cx_dv oM) F ?_;rintro _ G1 _ hle ⟨w1,b1,q1,rfl,hrep,htot,hone,rfl,hq1,hq2⟩;dsimp only [zA,fA];(try have hsf:=hsf.mono hle))) | refine aF F F (aA oM) ?_ | refine ac F (aA oM) ?_)
  have hgl:=hgq.trans hle
  have cx_pk3 : ∀ {p : Int},0 ≤ p ∧ p ≤ 1000000000000 → d9 aek 38 [Pt r 0,I 3] G1 [eW r code p dP] (fun v L'=>L' = [eW r code (p + 1) dP] ∧ (v = I 0 ∨ ∃ k,v = I k ∧ 0 < k)):=fun {p} hp=>(dN (b:=r) (p:=p) (n:=3) ⟨hp.1,hp.2,by decide⟩ (hs.mono hgl)).mono fun v G' L' ⟨h1,k,h2,h3,h4,h5⟩=>⟨h1,h3,by subst h2;rcases (show k = 0 ∨ 0 < k by omega) with rfl | h;exact .inl F;exact .inr ⟨k,F,h⟩⟩
  have cx_out:=gj hw hrep oM
  have cx_sta:=mC (f:=ab fs i) (hR.mono hgl) hw hdk
  have hms : (cp + 1) * ((i + 1 : Nat) : Int) = (cp + 1) * ((i : Nat) : Int) + (cp + 1):=by rw [Int.natCast_succ,Int.mul_add,Int.mul_one]
  by_cases heq : w1.out = bT (ah vs) (ab fs i)
  ·(refine an (ao (id:=18) [.blk y9 (.cells (List.toArray [U8 (82 : Nat),S nm,.slice (some ⟨bf,of,none⟩) fs.length ca]) oR (0,0))] (by intro y hy;simp only [List.mem_cons,List.not_mem_nil,or_false] at hy ⊢;simp [hy]) am ?_);refine jW 14 [0] (aa 15 1) ?_;refine b8 [1] kR dC ⟨?_,trivial⟩;(refine aO F F ?_;(refine aL F F F (cx_pk3 oM) F ?_;rintro _ _ ⟨rfl,rfl | ⟨k,rfl,hk0⟩⟩ <;> dsimp only [zA,fA])) <;> (refine jS (aa 15 3) ?_;refine jT 11 [2,3] (aa 15 15) ?_;(try (first | (refine Nx.re (d:=107) (v':=Bo true) F (congrArg Value.bool (aA ‹_›)) ?_) | refine Nx.re (d:=107) (v':=Bo false) F (congrArg Value.bool F) ?_));refine jT 7 [4,6,7,9] (aa 15 735) ?_;(first | refine jG (aa 15 991) 8 F (aV F F F) ?_ | refine jN (aa 15 991) 8 F ?_);(first | refine jG (aa 15 2015) 10 F (ak F F oM) ?_ | refine jN (aa 15 2015) 10 F ?_);(first | (refine jG (aa 15 4063) 11 F (dJ F F aS ?_) ?_;focus omega) | refine jN (aa 15 4063) 11 F ?_);(first | refine jN (aa 15 4095) 5 F ?_ | (refine jA 5 F ?_;(refine ae F F F cx_out F ?_);refine jS (aa 15 4095) ?_));(first | refine jN (aa 15 8191) 12 F ?_ | (refine jA 12 F ?_;(refine ae F F F cx_sta F ?_);refine jS (aa 15 8191) ?_));refine jT 1 [13] (aa 15 16383) ?_;(first | refine jG (aa 15 32767) 14 F (bR F F F) ?_ | refine jG (aa 15 32767) 14 F (bm F F F) ?_);refine jQ ?_))
   all_goals repeat' (first | refine jM ?_ | (refine ad F ?_ ?_;(focus ((first | rfl | (simp [*];done));done))))
   all_goals
    refine Nx.perm ((List.Perm.swap _ _ _).trans ((List.Perm.swap _ _ _).cons _)) ?_
    exact br (gs,bs,a1,c1,a2,c2,i + 1,q1 + 1,G1) ⟨⟨⟨hbl,hfm,fun i hi=>(hreps i hi).mono hle⟩,hgl⟩,⟨by dsimp only;omega,by dsimp only;omega⟩,htt,by dsimp only;omega,by dsimp only;rw [hms];omega⟩ (by dsimp only;omega) tU rfl bc
  ·(refine an (ao (id:=18) [.blk y9 (.cells (List.toArray [U8 (82 : Nat),S nm,.slice (some ⟨bf,of,none⟩) fs.length ca]) oR (0,0))] (by intro y hy;simp only [List.mem_cons,List.not_mem_nil,or_false] at hy ⊢;simp [hy]) am ?_);refine jW 14 [0] (aa 15 1) ?_;refine b8 [1] kR dC ⟨?_,trivial⟩;(refine aO F F ?_;(refine aL F F F (cx_pk3 oM) F ?_;rintro _ _ ⟨rfl,rfl | ⟨k,rfl,hk0⟩⟩ <;> dsimp only [zA,fA])) <;> (refine jS (aa 15 3) ?_;refine jT 11 [2,3] (aa 15 15) ?_;(try (first | (refine Nx.re (d:=107) (v':=Bo true) F (congrArg Value.bool (aA ‹_›)) ?_) | refine Nx.re (d:=107) (v':=Bo false) F (congrArg Value.bool F) ?_));refine jT 7 [4,6,7,9] (aa 15 735) ?_;(first | refine jG (aa 15 991) 8 F (aV F F F) ?_ | refine jN (aa 15 991) 8 F ?_);(first | refine jG (aa 15 2015) 10 F (ak F F oM) ?_ | refine jN (aa 15 2015) 10 F ?_);(first | (refine jG (aa 15 4063) 11 F (dJ F F aS ?_) ?_;focus omega) | refine jN (aa 15 4063) 11 F ?_);(first | refine jN (aa 15 4095) 5 F ?_ | (refine jA 5 F ?_;(refine ae F F F cx_out F ?_);refine jS (aa 15 4095) ?_));(first | refine jN (aa 15 8191) 12 F ?_ | (refine jA 12 F ?_;(refine ae F F F cx_sta F ?_);refine jS (aa 15 8191) ?_));refine jT 1 [13] (aa 15 16383) ?_;(first | refine jG (aa 15 32767) 14 F (bR F F F) ?_ | refine jG (aa 15 32767) 14 F (bm F F F) ?_);refine jQ ?_))
   ·repeat' (first | refine jM ?_ | refine ad F F ?_)
    refine Nx.perm ((List.Perm.swap _ _ _).trans ((List.Perm.swap _ _ _).cons _)) ?_
    exact br (gs,bs,a1,c1,a2,c2,i + 1,q1 + 1,G1) ⟨⟨⟨hbl,hfm,fun i hi=>(hreps i hi).mono hle⟩,hgl⟩,⟨by dsimp only;omega,by dsimp only;omega⟩,htt,by dsimp only;omega,by dsimp only;rw [hms];omega⟩ (by dsimp only;omega) tU rfl bc
   ·repeat' (first | refine jR ?_ | refine ac F (aA ‹_›) ?_)
    have hl' : (gs ++ [(ab fs i,w1)]).length = gs.length + 1:=by simp
    have hbl' : (bs ++ [b1]).length = (gs ++ [(ab fs i,w1)]).length:=by simp [hbl]
    have hnth : ∀ j,j < (gs ++ [(ab fs i,w1)]).length → (j < gs.length ∧ ab (gs ++ [(ab fs i,w1)]) j = ab gs j ∧ ab (bs ++ [b1]) j = ab bs j) ∨ (ab (gs ++ [(ab fs i,w1)]) j = (ab fs i,w1) ∧ ab (bs ++ [b1]) j = b1):=fun j hj=>by
     by_cases h1 : j < gs.length
     ·exact .inl ⟨h1,by rw [aI hj,aI h1,List.getElem_append_left h1],by rw [aI oM,aI oM,List.getElem_append_left oM]⟩
     ·have h2 : j = gs.length:=oM
      exact .inr ⟨by rw [aI hj];simp [h2],by rw [aI oM];simp [h2,hbl]⟩
    have hfm' : ∀ j,j < (gs ++ [(ab fs i,w1)]).length → (ab (gs ++ [(ab fs i,w1)]) j).1 ∈ fs:=fun j hj=>by
     rcases hnth j hj with ⟨h1,h2,_⟩ | ⟨h2,_⟩
     ·rw [h2];exact hfm j h1
     ·rw [h2];exact hdm
    have hreps' : ∀ j,j < (gs ++ [(ab fs i,w1)]).length → RepR G1 (ah vs) (ab (gs ++ [(ab fs i,w1)]) j).2 (ab (gs ++ [(ab fs i,w1)]) j).1.kind (ab (bs ++ [b1]) j):=fun j hj=>by
     rcases hnth j hj with ⟨h1,h2,h3⟩ | ⟨h2,h3⟩
     ·rw [h2,h3];exact (hreps j h1).mono hle
     ·rw [h2,h3];exact hrep
    have hrow1 : ag cL (gs.map fun p=>p.1.tag) ++ [I (ab fs i).tag] = ag cL ((gs ++ [(ab fs i,w1)]).map fun p=>p.1.tag):=by rw [List.map_append];exact (bX cL _ (ab fs i).tag).symm
    have hrow2 : ag dH bs ++ [Pt b1 0] = ag dH (bs ++ [b1]):=(bX dH bs b1).symm
    have hnd : V.tots (iC (gs ++ [(ab fs i,w1)])) = V.tots (iC gs) + (20 + w1.tot):=by simp [iC,fI,V.tots,bK]
    have hmt : (ct + 20) * (gs.length + 1) = (ct + 20) * gs.length + (ct + 20):=Nat.mul_succ _ _
    (refine an (ao (id:=19) [.blk y9 (.cells (List.toArray [U8 (82 : Nat),S nm,.slice (some ⟨bf,of,none⟩) fs.length ca]) oR (0,0))] (by intro y hy;simp only [List.mem_cons,List.not_mem_nil,or_false] at hy ⊢;simp [hy]) am ?_);refine jW 10 [0,1,2,3,5,7] (aa 16 175) ?_;(refine jG (aa 16 239) 6 F (aV F F F) ?_);((refine jG (aa 16 495) 8 F (ak F F ?_) ?_;focus omega));refine jW 7 [9] (aa 16 1007) ?_;((refine jG (aa 16 2031) 10 F (b9 F F aS ?_ F F) ?_;focus omega));refine b8 [4,11] kR dC ⟨?_,?_,trivial⟩;(focus (refine aO F F ?_;(refine aC F ?_);refine jK (aa 16 2047) ?_;refine jA 11 F ?_;(refine jF fun _=>?_);refine jK (aa 16 4095) ?_;refine jA 12 F ?_;((refine bG F F F F F F F F F ?_ fun _ _=>?_;focus omega));refine jK (aa 16 8191) ?_;refine jW 1 [13,14] (aa 16 32767) ?_;refine jA 15 F ?_;(refine jD F F F ?_);refine jK (aa 16 65535) ?_;refine jQ ?_));rotate_left 1;(focus (refine aO F F ?_;(refine jF fun _=>?_);refine jK (aa 16 4079) ?_;refine jA 4 F ?_;(refine aC F ?_);refine jK (aa 16 4095) ?_;refine jA 12 F ?_;((refine bG F F F F F F F F F ?_ fun _ _=>?_;focus omega));refine jK (aa 16 8191) ?_;refine jW 1 [13,14] (aa 16 32767) ?_;refine jA 15 F ?_;(refine jD F F F ?_);refine jK (aa 16 65535) ?_;refine jQ ?_));rotate_left 1)
    all_goals repeat' (first | refine jM ?_ | (refine jo ?_;first | refine jD F F F ?_ | refine aC F ?_ | refine jF fun _=>?_ | refine bG F F F F F F F F F oM fun _ _=>?_))
    all_goals
     rename_i _ y1 yc1 _ y2 yc2
     rw [hrow1,hrow2]
     exact br (gs ++ [(ab fs i,w1)],bs ++ [b1],some ⟨y1,0,none⟩,yc1,some ⟨y2,0,none⟩,yc2,i + 1,q1 + 1,G1) ⟨⟨⟨hbl',hfm',hreps'⟩,hgl⟩,⟨by dsimp only;rw [hl'];omega,by dsimp only;omega⟩,by dsimp only;rw [hl',hmt,hnd];omega,by dsimp only;omega,by dsimp only;rw [hms];omega⟩ (by dsimp only;omega) tU rfl (by rw [hl'];repeat (first | exact List.Sublist.refl _ | apply List.Sublist.cons_cons | apply List.Sublist.cons))
 ·repeat' (first | refine jR ?_ | (refine jo ?_;first | refine aC F ?_ | refine jV (af F) ?_ | refine aE F ?_) | refine aw F F (aH oM) ?_ | refine ad F F ?_)
  refine Nx.sealS (v:=.slice a2 gs.length c2) fun G2 hG2 hs1=>?_
  refine Nx.sealS (v:=.slice a1 gs.length c1) fun G3 hG3 hs2=>?_
  refine Nx.sealC (b:=y11) fun G4 hG4 hsg=>?_
  exact aX (vs:=[_]) F ⟨F,trivial⟩ F sB ⟨hgq.trans ((hG2.trans hG3).trans hG4),.nd 82 [] 0 (iC gs),y11,q,F,.recd kd y11 ⟨82,nm,fs⟩ gs bs a1 a2 c1 c2 ⟨href.symm,F⟩ hsg (hs2.mono hG4) (hs1.mono (hG3.trans hG4)) hbl hfm (fun i hi=>(hreps i hi).mono ((hG2.trans hG3).trans hG4)),by rw [bK];simp only [List.length_nil];omega,by rw [V.out];simp [c7],rfl,oM,oM⟩
end
theorem o4 {ts : List Ty} {k : ael} (h : ax ts k = true) : ∃ c r,k = c :: r:=by
 cases k with
 | nil=>unfold ax b7 fm at h;simp at h
 | cons c r=>exact ⟨c,r,F⟩
def oC : Nat → Int
 | 0=>105
 | d + 1=>8 * oC d + 40
def nJ : Nat → Nat
 | 0=>480
 | d + 1=>8 * nJ d + 400
theorem xB : ∀ d,d ≤ 4 → 0 ≤ oC d ∧ oC d ≤ 500000 ∧ nJ d ≤ 3000000 ∧ 105 ≤ oC d ∧ 480 ≤ nJ d:=by decide
theorem adh {u : Value} {vs : List cG} (hw : SchW (ah vs)) (hu : u.oneCell' = true) : ∀ (n : Nat) {k : ael} {deep : Int},n ≤ 9 → deep ≤ 0 → (n : Int) - 900 ≤ deep → ax (ah vs) k = true → (∀ t,aZ (ah vs) k = some t → cq (ah vs) n t = true) → fH u vs k deep (15 + 10 * n) (300 + 20 * n):=by
 have hvl : vs.length ≤ 8:=by have:=hw.len;unfold ah at this;simpa using this
 intro n
 induction n with
 | zero =>
  intro k deep _ hd hd2 hk he
  obtain ⟨c,r,rfl⟩:=o4 hk
  have hkk:=dz (dR hk)
  simp only [List.length_cons] at hkk
  by_cases h1 : c.toNat = 91
  ·obtain rfl:=bY h1 dC
   exact (qZ (cp:=0) (ct:=0) oM oM (fun h=>absurd h oM) hu oM oM).le oM oM
  by_cases h2 : c.toNat = 63
  ·obtain rfl:=bY h2 dC
   exact (t3 (cp:=0) (ct:=0) oM oM (fun h=>absurd h oM) hu oM oM).le oM oM
  have h91 : ¬ (c.toNat = 91 ∨ c.toNat = 63):=fun h=>by rcases h with h | h <;> omega
  cases hr : aZ (ah vs) (c :: r) with
  | some t=>have:=he t hr;simp [cq] at this
  | none =>
   rcases eg hk h91 hr with e1 | e1 | e1
   ·rw [e1];exact t5.le oM oM
   ·rw [e1];exact tZ.le oM oM
   ·rw [e1];exact q8.le oM oM
 | succ n ih =>
  intro k deep hn hd hd2 hk he
  obtain ⟨c,r,rfl⟩:=o4 hk
  have hkk:=dz (dR hk)
  have hkk1:=hkk.1
  simp only [List.length_cons] at hkk
  by_cases h1 : c.toNat = 91
  ·obtain rfl:=bY h1 dC
   exact (qZ (cp:=0) (ct:=0) oM oM (fun h=>absurd h oM) hu oM oM).le oM oM
  by_cases h2 : c.toNat = 63
  ·obtain rfl:=bY h2 dC
   exact (t3 (cp:=0) (ct:=0) oM oM (fun h=>absurd h oM) hu oM oM).le oM oM
  have h91 : ¬ (c.toNat = 91 ∨ c.toNat = 63):=fun h=>by rcases h with h | h <;> omega
  cases hr : aZ (ah vs) (c :: r) with
  | none =>
   rcases eg hk h91 hr with e1 | e1 | e1
   ·rw [e1];exact t5.le oM oM
   ·rw [e1];exact tZ.le oM oM
   ·rw [e1];exact q8.le oM oM
  | some t =>
   obtain ⟨r',e⟩:=d5 hr
   simp only [List.cons.injEq] at e
   obtain ⟨rfl,rfl⟩:=e
   have href:=fx vs (64 :: r)
   rw [hr] at href
   rcases hrv : fq vs (64 :: r) with _ | ⟨⟨a,ca⟩,⟨so,nm,fs⟩⟩
   ·rw [hrv] at href;cases href
   rw [hrv] at href
   obtain rfl:=(Option.some.inj href).symm
   dsimp only at hr he
   have hTW:=hw.ty _ (bj hr)
   have h8 : fs.length ≤ 8:=hTW.len
   refine tY ?_ oM
   rcases hTW.sort with h3 | h3 | h3 <;> dsimp only at h3 <;> subst h3
   ·exact fun G r code p l g1 g2 g3=>((aaC hrv oM hkk1 (by simp only [List.length_cons];omega) h8 oM) G r code p l g1 g2 ⟨g3.1,oM⟩).mono fun _ _ _ ⟨h6,w,b,q,h7,h8,h9,h10,h11,h12,h13⟩=>⟨h6,w,b,q,h7,h8,oM,h10,h11,h12,oM⟩
   ·have h0 : 0 < fs.length:=List.length_pos_iff.2 (hTW.ne (by simp))
    refine fun G r code p l g1 g2 g3=>((xv (cp:=15 + 10 * n) (ct:=300 + 20 * n) hrv oM hkk1 (by simp only [List.length_cons];omega) h0 h8 hw oM oM (fun d hdm hc=>?_) oM) G r code p l g1 g2 ⟨g3.1,oM⟩).mono fun _ _ _ ⟨h6,w,b,q,h7,h8,h9,h10,h11,h12,h13⟩=>⟨h6,w,b,q,h7,h8,oM,h10,h11,h12,oM⟩
    rcases hc with hc | rfl
    ·omega
    refine ih oM oM oM (d6 hw (bj hr) (by simp) hdm) fun t' ht'=>?_
    have:=he _ hr
    rw [cq,if_neg (by simp),jt] at this
    dsimp only at this
    rw [ht'] at this
    exact this
   ·have h0 : 0 < fs.length:=List.length_pos_iff.2 (hTW.ne (by simp))
    exact fun G r code p l g1 g2 g3=>((xw hrv oM hkk1 (by simp only [List.length_cons];omega) h0 h8 hw) G r code p l g1 g2 ⟨g3.1,oM⟩).mono fun _ _ _ ⟨h6,w,b,q,h7,h8,h9,h10,h11,h12,h13⟩=>⟨h6,w,b,q,h7,h8,oM,h10,h11,h12,oM⟩
theorem t6 {u : Value} {vs : List cG} (hw : SchW (ah vs)) (hu : u.oneCell' = true) : ∀ (m : Nat) {k : ael} {deep : Int},m ≤ 4 → deep ≤ m → -800 ≤ deep → ax (ah vs) k = true → fH u vs k deep (oC m) (nJ m):=by
 have hvl : vs.length ≤ 8:=by have:=hw.len;unfold ah at this;simpa using this
 have hz : ∀ {k : ael} {deep : Int},deep ≤ 0 → -800 ≤ deep → ax (ah vs) k = true → fH u vs k deep 105 480:=fun {k deep} h1 h2 h3=>(adh hw hu ((ah vs).length + 1) (by have:=hw.len;omega) h1 (by have:=hw.len;omega) h3 (fun t ht=>qY hw t ht)).le (by have:=hw.len;omega) (by have:=hw.len;omega)
 intro m
 induction m with
 | zero=>intro k deep _ hd hd2 hk;exact hz hd hd2 hk
 | succ m ih =>
  intro k deep hm hd hd2 hk
  have hcm:=xB m oM
  have e1 : oC (m + 1) = 8 * oC m + 40:=rfl
  have e2 : nJ (m + 1) = 8 * nJ m + 400:=rfl
  by_cases hd0 : deep ≤ 0
  ·exact (hz hd0 hd2 hk).le oM oM
  have hD : ∀ {k : ael},ax (ah vs) k = true → fH u vs k (deep - 1) (oC m) (nJ m):=fun {k} hk=>ih oM oM oM hk
  obtain ⟨c,r,rfl⟩:=o4 hk
  have hkk:=dz (dR hk)
  have hkk1:=hkk.1
  simp only [List.length_cons] at hkk
  by_cases h1 : c.toNat = 91
  ·obtain rfl:=bY h1 dC
   exact (qZ oM oM (fun _=>hD (fM (.inl F) hk)) hu oM oM).le oM oM
  by_cases h2 : c.toNat = 63
  ·obtain rfl:=bY h2 dC
   exact (t3 oM oM (fun _=>hD (fM (.inr F) hk)) hu oM oM).le oM oM
  have h91 : ¬ (c.toNat = 91 ∨ c.toNat = 63):=fun h=>by rcases h with h | h <;> omega
  cases hr : aZ (ah vs) (c :: r) with
  | none =>
   rcases eg hk h91 hr with e1 | e1 | e1
   ·rw [e1];exact t5.le oM oM
   ·rw [e1];exact tZ.le oM oM
   ·rw [e1];exact q8.le oM oM
  | some t =>
   obtain ⟨r',e⟩:=d5 hr
   simp only [List.cons.injEq] at e
   obtain ⟨rfl,rfl⟩:=e
   have href:=fx vs (64 :: r)
   rw [hr] at href
   rcases hrv : fq vs (64 :: r) with _ | ⟨⟨a,ca⟩,⟨so,nm,fs⟩⟩
   ·rw [hrv] at href;cases href
   rw [hrv] at href
   obtain rfl:=(Option.some.inj href).symm
   dsimp only at hr
   have hTW:=hw.ty _ (bj hr)
   have h8 : fs.length ≤ 8:=hTW.len
   refine tY ?_ oM
   rcases hTW.sort with h3 | h3 | h3 <;> dsimp only at h3 <;> subst h3
   ·exact fun G r code p l g1 g2 g3=>((aca hrv oM hkk1 (by simp only [List.length_cons];omega) h8 hw oM oM (fun d hdm=>hD (d6 hw (bj hr) (by simp) hdm)) oM) G r code p l g1 g2 ⟨g3.1,oM⟩).mono fun _ _ _ ⟨h6,w,b,q,h7,h8,h9,h10,h11,h12,h13⟩=>⟨h6,w,b,q,h7,h8,oM,h10,h11,h12,oM⟩
   ·have h0 : 0 < fs.length:=List.length_pos_iff.2 (hTW.ne (by simp))
    exact fun G r code p l g1 g2 g3=>((xv hrv oM hkk1 (by simp only [List.length_cons];omega) h0 h8 hw oM oM (fun d hdm _=>hD (d6 hw (bj hr) (by simp) hdm)) oM) G r code p l g1 g2 ⟨g3.1,oM⟩).mono fun _ _ _ ⟨h6,w,b,q,h7,h8,h9,h10,h11,h12,h13⟩=>⟨h6,w,b,q,h7,h8,oM,h10,h11,h12,oM⟩
   ·have h0 : 0 < fs.length:=List.length_pos_iff.2 (hTW.ne (by simp))
    exact fun G r code p l g1 g2 g3=>((xw hrv oM hkk1 (by simp only [List.length_cons];omega) h0 h8 hw) G r code p l g1 g2 ⟨g3.1,oM⟩).mono fun _ _ _ ⟨h6,w,b,q,h7,h8,h9,h10,h11,h12,h13⟩=>⟨h6,w,b,q,h7,h8,oM,h10,h11,h12,oM⟩
theorem uR {r : Nat} {code : Value} {p : Int} {l : ael} (hp : 0 ≤ p ∧ p ≤ 600000000000) (hs : aN G code 1 l.length (cy l)) :
  d9 aek 30 [Pt r 0] G [eW r code p dP] (fun v L'=>∃ x q,v = S x ∧ x.length ≤ 20000 ∧ L' = [eW r code q dP] ∧ p ≤ q ∧ q ≤ p + 700):=by
 refine jH [(0,_)] Tryz.func30 Tryz.ntmps30 fun B hB hW=>?_
 repeat' (first | refine jX ?_ | (refine jo ?_;first | refine jF fun _=>?_ | refine jV (aT F F oM) ?_ | (refine gK 64 F F F ?_ F (fun xs hxs=>?_);(focus ((simp only [List.length_append,List.length_cons,List.length_nil,List.length_take];omega);done))) | refine aP F ?_ | refine aE F ?_ | (refine aL F F F (xM ?_ (by (repeat (assumption));done) ?_ ?_) rfl ?_;(focus omega);(focus ((first | assumption | (simp;done));done));(focus ((simp;done);done));rintro _ _ ⟨ty,q1,rfl,hty,hty1,rfl,hq1,hq2⟩;dsimp only [zA,fA]) | (refine aL F F F (dN ?_ (by (repeat (assumption));done)) rfl ?_;(focus ((first | omega | (simp;omega));done));rintro _ _ ⟨k,rfl,rfl,hk0,hk1⟩;dsimp only [zA,fA]) | (refine ae F F F (uS ?_) F ?_;(focus ((simp;omega);done)))) | refine me F F (fun _=>?_) (fun _=>?_) | refine ad F F ?_ | refine eG F (fun _=>?_) (fun _=>?_))
 all_goals (first | exact aX (vs:=[_]) F ⟨F,trivial⟩ F sB ⟨F,_,_,F,by (simp only [List.length_append,List.length_cons,List.length_nil,List.length_take,List.length_drop];omega),rfl,oM,oM⟩ | skip)
 all_goals simp only [List.length_append,List.length_cons,List.length_nil] at hk1
 all_goals (refine an (ao (id:=6) [] (fun _ h=>absurd h (by simp)) am ?_);refine jW 7 [0,1,2,4,9,10,11,12] (aa 15 7703) ?_;refine b8 [3,5] kR dC ⟨?_,?_,trivial⟩;(focus (refine aO F F ?_;(refine jF fun _=>?_);refine jK (aa 15 7711) ?_;refine jA 5 F ?_;((refine aL F F F (dN ?_ (by (repeat (assumption));done)) rfl ?_;(focus omega);rintro _ _ ⟨k,rfl,rfl,hk0,hk1⟩;dsimp only [zA,fA]));refine jK (aa 15 7743) ?_;((refine jG (aa 15 7807) 6 F (aT F F ?_) ?_;focus omega));refine jA 7 F ?_;((refine gK 64 F F F ?_ F (fun xs hxs=>?_);(focus ((simp only [List.length_append,List.length_cons,List.length_nil,List.length_take];omega);done))));refine jK (aa 15 7935) ?_;refine jW 0 [8,13,14] (aa 15 32767) ?_;refine jQ ?_));rotate_left 1;(focus (refine aO F F ?_;((refine aL F F F (dN ?_ (by (repeat (assumption));done)) rfl ?_;(focus omega);rintro _ _ ⟨k,rfl,rfl,hk0,hk1⟩;dsimp only [zA,fA]));refine jK (aa 15 7735) ?_;refine jA 3 F ?_;(refine jF fun _=>?_);refine jK (aa 15 7743) ?_;((refine jG (aa 15 7807) 6 F (aT F F ?_) ?_;focus omega));refine jA 7 F ?_;((refine gK 64 F F F ?_ F (fun xs hxs=>?_);(focus ((simp only [List.length_append,List.length_cons,List.length_nil,List.length_take];omega);done))));refine jK (aa 15 7935) ?_;refine jW 0 [8,13,14] (aa 15 32767) ?_;refine jQ ?_));rotate_left 1)
 all_goals repeat' (refine jR ?_)
 all_goals exact aX (vs:=[_]) F ⟨F,trivial⟩ F sB ⟨F,_,_,F,by (simp only [List.length_append,List.length_cons,List.length_nil,List.length_take,List.length_drop];omega),rfl,oM,oM⟩
theorem xP {r : Nat} {code : Value} {p : Int} {l s : ael} (hp : 0 ≤ p ∧ p ≤ 600000000000) (hs : aN G code 1 l.length (cy l)) (hsl : s.length ≤ 10000000) :
  d9 aek 31 [Pt r 0,S s] G [eW r code p dP] (fun v L'=>∃ x q,v = S x ∧ x.length ≤ 400 ∧ L' = [eW r code q dP] ∧ p ≤ q ∧ q ≤ p + 20):=by
 have cx_lkg : ∀ {k : ael} (G : Gh),k.length ≤ 1000 → bJ aek 49 [S s,S k] G (fun v _=>∃ u b,v = Tu [u,Bo b]):=fun {k} G h=>(ik (G:=G) (s:=s) (k:=k) oM oM).mono fun v G' L' ⟨h1,h2,u,vs,h3,_⟩=>⟨h1,h2,u,_,h3⟩
 refine jB (Post:=fun v G' L'=>G' = G ∧ _) [(0,_),(1,_)] Tryz.func31 Tryz.ntmps31 fun B hok hB hW=>?_
 repeat' (first | refine jR ?_ | (refine jo ?_;first | refine jF fun _=>?_ | refine jV (aT F F oM) ?_ | (refine gK 64 F F F ?_ F (fun xs hxs=>?_);(focus ((simp only [List.length_append,List.length_cons,List.length_nil,List.length_take];omega);done))) | (refine aL F F F (dN ?_ (by (repeat (assumption));done)) rfl ?_;(focus omega);rintro _ _ ⟨k,rfl,rfl,hk0,hk1⟩;dsimp only [zA,fA]) | (refine aL F F F (se ?_ (by (repeat (assumption));done)) rfl ?_;(focus omega);rintro _ _ ⟨kd,q1,rfl,hkd,rfl,hq1,hq2⟩;dsimp only [zA,fA]) | (refine ar F F F ((cx_lkg _) oM) F ?_;rintro _ G hle ⟨u1,b1,rfl⟩;skip)) | refine eG F (fun _=>?_) (fun _=>?_) | refine o5 F (fun _=>?_) (fun _=>?_))
 all_goals refine Nx.base hok hB ?_
 all_goals exact aX (vs:=[_]) F ⟨F,trivial⟩ F sB ⟨F,_,_,F,by (first | omega | (simp only [List.length_append,List.length_cons,List.length_nil,List.length_take,List.length_drop];omega)),rfl,oM,oM⟩
theorem aaW {r : Nat} {code : Value} {p : Int} {l s k : ael} (hp : 0 ≤ p ∧ p ≤ 500000000000) (hs : aN G code 1 l.length (cy l)) (hsl : s.length ≤ 10000000) (hkl : k.length ≤ 1000) :
  d9 aek 32 [Pt r 0,S s,S k] G [eW r code p dP] (fun v L'=>∃ x q,v = S x ∧ x.length ≤ 20000 ∧ L' = [eW r code q dP] ∧ p ≤ q ∧ q ≤ p + 3000000):=by
 by_cases hk : dE s k = true
 case neg =>
  have hk2 : dE s k = false:=by simpa using hk
  have cx_lk1 : ∀ G,bJ aek 49 [S s,S k] G (fun v _=>∃ u,v = Tu [u,Bo false]):=fun G=>by
   refine (ik (G:=G) (s:=s) (k:=k) oM oM).mono ?_
   rintro v G' L' ⟨h1,h2,u,vs,rfl,_⟩
   exact ⟨h1,h2,u,by rw [hk2]⟩
  refine jB (Post:=fun v G' L'=>G' = G ∧ _) [(0,_),(1,_),(2,_)] Tryz.func32 Tryz.ntmps32 fun B hok hB hW=>?_
  repeat' (first | refine jR ?_ | (refine jo ?_;(refine ar F F F (cx_lk1 _) F ?_;rintro _ G hle ⟨u1,rfl⟩;skip)) | refine ac F F ?_)
  all_goals refine Nx.base hok hB ?_
  all_goals exact aX (vs:=[_]) F ⟨F,trivial⟩ F bc ⟨F,_,_,F,by (simp only [List.length_append,List.length_cons,List.length_nil,List.length_take,List.length_drop];omega),rfl,oM,oM⟩
 obtain ⟨ts,hsc,hki,hw⟩:=lm hk
 have cx_lka : ∀ G,bJ aek 49 [S s,S k] G (fun v G'=>∃ a c vs,v = Tu [.slice a vs.length c,Bo true] ∧ SchR G' (.slice a vs.length c) vs ∧ ah vs = ts):=fun G=>by
  refine (ik (G:=G) (s:=s) (k:=k) oM oM).mono ?_
  rintro v G' L' ⟨h1,h2,u,vs,rfl,h4,_,h6⟩
  obtain ⟨_,⟨rfl,h0⟩ | ⟨b,o,cap,rfl,_,_⟩⟩:=h4.sl
  ·exact ⟨h1,h2,none,0,vs,by rw [hk,h0],by rw [h0];exact h4,h6 ts hsc hki⟩
  ·exact ⟨h1,h2,_,cap,vs,by rw [hk],h4,h6 ts hsc hki⟩
 refine jB (Post:=fun v G' L'=>G' = G ∧ _) [(0,_),(1,_),(2,_)] Tryz.func32 Tryz.ntmps32 fun B hok hB hW=>?_
 repeat' (first | refine jR ?_ | (refine jo ?_;(refine ar F F F (cx_lka _) F ?_;rintro _ G hle ⟨av1,cv1,vs1,rfl,hR1,hT1⟩;skip)) | refine ad F F ?_)
 subst hT1
 have hg0:=hle
 have hu1:=hR1.sl.one
 have cx_dv:=fun {p : Int} (hp : 0 ≤ p ∧ p + oC 4 ≤ 600000000000)=>t6 hw hu1 4 (k:=k) (deep:=4) oM oM oM hki G r code p l hR1 (hs.mono hle) hp
 have hc4 : oC 4 = 453480:=by decide
 have ht4 : nJ 4 = 2200080:=by decide
 rw [hc4,ht4] at cx_dv
 repeat' ((refine jo ?_;(refine eR F F F (cx_dv oM) F ?_;rintro _ G1 _ hle ⟨w1,b1,q1,rfl,hrep,htot,hone,rfl,hq1,hq2⟩;dsimp only [zA,fA];skip)))
 have hg1:=hle
 have hob:=l8 hw hrep
 unfold iP at hob
 have cx_out:=gj hw hrep oM
 repeat' (first | refine jR ?_ | (refine jo ?_;refine ae F F F cx_out F ?_))
 refine aW (ι:=ael × Int × Int × Gh) (fun j=>Gh.le G1 j.2.2.2 ∧ (0 ≤ j.2.1 ∧ j.2.1 ≤ 3) ∧ (1 ≤ j.1.length ∧ j.1.length ≤ 2 * nJ (j.2.1.toNat + 1)) ∧ p ≤ j.2.2.1 ∧ j.2.2.1 ≤ p + 500000 * (4 - j.2.1)) (fun j=>[(0,Pt r 0),(2,S k),(7,.slice av1 vs1.length cv1),(9,S j.1),(10,I j.2.1)]) (fun j=>j.2.2.2) (fun j=>[eW r code j.2.2.1 dP]) (fun j=>j.2.1.toNat) (w1.out,3,q1,G1) ?_ tU F bc (fun j Hj=>?_)
 ·refine ⟨Gh.le.refl _,by dsimp only;omega,⟨hone,?_⟩,by dsimp only;omega,by dsimp only;omega⟩
  show w1.out.length ≤ 2 * nJ 4
  omega
 obtain ⟨t,d,q,Gq⟩:=j
 dsimp only at Hj ⊢
 obtain ⟨hgq,hd,⟨ht1,ht2⟩,hq3,hq4⟩:=Hj
 have hs2:=hs.mono ((hg0.trans hg1).trans hgq)
 clear cx_dv cx_out hrep
 by_cases hgo : 150 < t.length ∧ 0 < d
 ·obtain ⟨hgo1,hgo2⟩:=hgo
  have hcm:=xB d.toNat oM
  have cx_dv:=fun {p : Int} (hp : 0 ≤ p ∧ p + 500000 ≤ 600000000000)=>((t6 hw hu1 d.toNat (k:=k) (deep:=d) oM oM oM hki).le hcm.2.1 (Nat.le_refl _)) Gq r code p l (hR1.mono (hg1.trans hgq)) hs2 hp
  repeat' (first | refine jR ?_ | (refine jo ?_;first | refine aP F ?_ | (refine eR F F F (cx_dv oM) F ?_;rintro _ G1 _ hle ⟨w1,b1,q1,rfl,hrep,htot,hone,rfl,hq1,hq2⟩;dsimp only [zA,fA];skip)) | refine aF F F (aA oM) ?_ | refine ac F (aA ‹_›) ?_)
  have hob:=l8 hw hrep
  unfold iP at hob
  have cx_out:=gj hw hrep oM
  have e : (d - 1).toNat + 1 = d.toNat:=oM
  repeat' (first | refine jM ?_ | (refine jo ?_;refine ae F F F cx_out F ?_))
  exact br (w1.out,d - 1,q1,G1) ⟨hgq.trans hle,by dsimp only;omega,⟨hone,by dsimp only;rw [e];omega⟩,by dsimp only;omega,by dsimp only;omega⟩ (by dsimp only;omega) tU rfl bc
 ·have hx : t.length ≤ 150 ∨ d ≤ 0:=oM
  have hl : t.length ≤ 8480:=by
   rcases hx with hx | hx
   ·omega
   ·have e : d = 0:=oM
    subst e
    have : nJ (Int.toNat 0 + 1) = 4240:=by decide
    omega
  repeat' (first | refine jR ?_ | (refine jo ?_;first | refine aP F ?_ | refine aE F ?_ | (refine aL F F F (dN ?_ (by (repeat (assumption));done)) rfl ?_;(focus omega);rintro _ _ ⟨k,rfl,rfl,hk0,hk1⟩;dsimp only [zA,fA])) | refine ff F F (fun _=>?_) (fun _=>?_) | (refine ad F (by first | rfl | (refine decide_eq_false ?_;(omega))) ?_) | refine eG F (fun _=>?_) (fun _=>?_))
  all_goals refine Nx.base hok hB ?_
  all_goals (first | exact aX (vs:=[_]) F ⟨F,trivial⟩ F bc ⟨F,_,_,F,by (omega),F,oM,oM⟩ | skip)
  all_goals (refine an (ao (id:=11) [] (fun _ h=>absurd h (by simp)) am ?_);refine jW 7 [0,1,2,4,9,10,11,12] (aa 15 7703) ?_;refine b8 [3,5] kR dC ⟨?_,?_,trivial⟩;(focus (refine aO F F ?_;(refine jF fun _=>?_);refine jK (aa 15 7711) ?_;refine jA 5 F ?_;((refine aL F F F (dN ?_ (by (repeat (assumption));done)) rfl ?_;(focus omega);rintro _ _ ⟨k,rfl,rfl,hk0,hk1⟩;dsimp only [zA,fA]));refine jK (aa 15 7743) ?_;((refine jG (aa 15 7807) 6 F (aT F F ?_) ?_;focus omega));refine jA 7 F ?_;((refine gK 64 F F F ?_ F (fun xs hxs=>?_);(focus ((simp only [List.length_append,List.length_cons,List.length_nil,List.length_take];omega);done))));refine jK (aa 15 7935) ?_;refine jW 0 [8,13,14] (aa 15 32767) ?_;refine jQ ?_));rotate_left 1;(focus (refine aO F F ?_;((refine aL F F F (dN ?_ (by (repeat (assumption));done)) rfl ?_;(focus omega);rintro _ _ ⟨k,rfl,rfl,hk0,hk1⟩;dsimp only [zA,fA]));refine jK (aa 15 7735) ?_;refine jA 3 F ?_;(refine jF fun _=>?_);refine jK (aa 15 7743) ?_;((refine jG (aa 15 7807) 6 F (aT F F ?_) ?_;focus omega));refine jA 7 F ?_;((refine gK 64 F F F ?_ F (fun xs hxs=>?_);(focus ((simp only [List.length_append,List.length_cons,List.length_nil,List.length_take];omega);done))));refine jK (aa 15 7935) ?_;refine jW 0 [8,13,14] (aa 15 32767) ?_;refine jQ ?_));rotate_left 1)
  all_goals repeat' (refine jR ?_)
  all_goals exact aX (vs:=[_]) F ⟨F,trivial⟩ F sB ⟨F,_,_,F,by (simp only [List.length_append,List.length_cons,List.length_nil,List.length_take,List.length_drop];omega),rfl,oM,oM⟩
section
variable {P : Program} {n : Nat} {D : List Deferred} {E : bQ} {B : Base} {G : Gh} {L : List Own} {K : Act → World → Prop} {Q : Exit → Act → World → Prop} {ty : TypeId} {pos : String} {aft : Array Edge}
theorem sE {fo : Operand} {l : List Operand} {ah : Array TypeId} {d : Nat} {g : Option (Nat × Bool)} {f : FuncId} {fi ca az vs : List Value} {Post : Value → Gh → List Own → Prop}
  (hf : ev E fo = some (.func (.func f) fi.toArray ca.toArray)) (ha : evs E l = some az) (hv : fi ++ az ++ ca = vs) (hc : fp P f vs G [] Post) (hlt : Nat.blt d n = true)
  (k : ∀ v G' L',Gh.le G G' → Post v G' L' → Nx n D ((d,v) :: E) B G' (L' ++ L) K) : Nx n D E B G L (ow P ⟨some d,.call ⟨.value fo,l.toArray,ah⟩,ty,pos,aft,g⟩ Q K) :=
 iL (Lp:=[]) hf ha hv hc (List.Perm.refl _) hlt fun v G' L' h=>k v G' L' h.1 h.2
end
variable {G : Gh}
theorem aN.pre {p : Option Addr} {n c sz m : Nat} {xs : List Value} (h : aN G (.slice p n c) sz n xs) (hm : m ≤ n) : aN G (.slice p m c) sz m (xs.take (m * sz)):=by
 obtain ⟨h1,⟨h2,h3⟩ | ⟨b',o',cap',e,hc,hs⟩⟩:=h
 ·simp only [Value.slice.injEq] at h2
  obtain ⟨rfl,rfl,rfl⟩:=h2
  obtain rfl : m = 0:=oM
  exact ⟨by simp [h3],.inl ⟨F,by simp [h3]⟩⟩
 ·simp only [Value.slice.injEq] at e
  obtain ⟨rfl,-,rfl⟩:=e
  refine ⟨by rw [List.length_take,h1];exact Nat.min_eq_left (Nat.mul_le_mul_right _ hm),.inr ⟨b',o',_,F,oM,?_⟩⟩
  obtain ⟨cs,h3,h4⟩:=hs
  refine ⟨cs,h3,fun i v hv=>h4 i v ?_⟩
  rw [List.getElem?_take] at hv
  split at hv
  ·exact hv
  ·cases hv
theorem yU (l : List Ch) (m : Nat) : ag dk (l.take m) = (ag dk l).take (m * 2):=by
 induction l generalizing m with
 | nil=>simp [ag]
 | cons c l ih =>
  cases m with
  | zero=>simp [ag]
  | succ m =>
   rw [List.take_succ_cons,fC,fC,ih,Nat.succ_mul]
   rfl
theorem yV (l : List Ch) (m : Nat) : ag dk (l.drop m) = (ag dk l).drop (m * 2):=by
 induction l generalizing m with
 | nil=>simp [ag]
 | cons c l ih =>
  cases m with
  | zero=>simp [ag]
  | succ m =>
   rw [List.drop_succ_cons,fC,ih,Nat.succ_mul]
   rfl
theorem aaF {p : Option Addr} {c m : Nat} {l : List Ch} (h : aN G (.slice p l.length c) 2 l.length (ag dk l)) (hm : m ≤ l.length) : aN G (.slice p m c) 2 (l.take m).length (ag dk (l.take m)) ∧ (l.take m).length = m:=by
 have e : (l.take m).length = m:=by rw [List.length_take];omega
 rw [e,yU]
 exact ⟨h.pre hm,F⟩
abbrev ChM (c : Ch) : Prop:=c.1.length ≤ 1000 ∧ c.2.length ≤ 1000
theorem ChM.all {l : List Ch} (h : ∀ x ∈ l,ChM x) : ∀ x ∈ l,mR x:=fun x hx=>by have:=h x hx;exact ⟨oM,oM⟩
theorem qz {v : Value} {l : ael} (hs : aN G v 1 l.length (cy l)) : a7 aek 12 [v] G (fun r=>∃ s k x y,r = Tu [S s,S k,S x,S y] ∧ s.length ≤ 1048576 ∧ k.length ≤ 1048576 ∧ x.length ≤ 1048576 ∧ y.length ≤ 1048576):=by
 refine jE [(0,_)] Tryz.func12 Tryz.ntmps12 fun B hB=>?_
 repeat' (first | refine jR ?_ | (refine jo ?_;first | (refine fP F F F (zf (by (repeat (assumption));done)) rfl ?_;rintro _ _ ⟨b,code,l,rfl,rfl,hcd,hcl⟩;dsimp only [zA,fA]) | (refine aL F F F (uR ?_ (by (repeat (assumption));done)) rfl ?_;(focus omega);rintro _ _ ⟨sc,q1,rfl,hsc,rfl,hq1,hq2⟩;dsimp only [zA,fA]) | (refine aL F F F (xP ?_ (by (repeat (assumption));done) ?_) rfl ?_;(focus omega);(focus omega);rintro _ _ ⟨kd,q1,rfl,hkd,rfl,hq1,hq2⟩;dsimp only [zA,fA]) | (refine aL F F F (aaW ?_ (by (repeat (assumption));done) ?_ ?_) rfl ?_;(focus omega);(focus omega);(focus omega);rintro _ _ ⟨tx,q1,rfl,htx,rfl,hq1,hq2⟩;dsimp only [zA,fA])))
 exact jZ (vs:=[_,_,_,_]) F ⟨F,F,F,F,trivial⟩ F ⟨F,F,_,_,_,_,F,oM,oM,oM,oM⟩
theorem kO : ∀ cs : List Ch,ed (ag dk cs) = true
 | []=>rfl
 | c :: cs=>by rw [fC,oI,kO cs];rfl
section
variable {P : Program} {n : Nat} {D : List Deferred} {E : bQ} {M : World → Prop} {d : Option Nat} {ty : TypeId} {pos : String} {aft : Array Edge} {gd : Option (Nat × Bool)}
theorem ac3 {T el : TypeId} {x lo : Operand} {desc' : TypeDesc} {size bytes size' bytes' : Nat} {zero zero' : Value} {k : IntKind} {m : Int} [TI P T (.slice el) size bytes zero] [TI P el desc' size' bytes' zero']
  (hx : ev E x = some (.slice none 0 0)) (hl : ev E lo = some (.int k m)) (h0 : m = 0) :
  Gives P n D E M ⟨d,.slice T x (some lo) none none,ty,pos,aft,gd⟩ (.slice none 0 0):=Gives.mk fun a w hs _=>by
 subst h0
 simp only [execOp,hs.ev hx,Option.map_some,Option.map_none,hs.ev hl,Instr.sliceAt,Instr.slice,Sem.run_bind,cE (desc:=.slice el) (size:=size) (bytes:=bytes) (zero:=zero),Result.andThen_ok,Instr.sliceBounds,Sem.run_pure,
  dp (P:=P) (m:=0) (y:=0) ⟨Int.le_refl _,Int.le_refl _⟩,dI (desc:=desc') (size:=size') (bytes:=bytes') (zero:=zero')]
 simp
end
section
variable {P : Program} {n : Nat} {D : List Deferred} {E : bQ} {B : Base} {G : Gh} {L : List Own} {K : Act → World → Prop} {Q : Exit → Act → World → Prop} {ty : TypeId} {pos : String} {aft : Array Edge} {gd : Option (Nat × Bool)} {d : Nat}
theorem adm {T el : TypeId} {x lo : Operand} {desc' : TypeDesc} {size bytes size' bytes' : Nat} {zero zero' : Value} {k : IntKind} {m : Int} {p : Option Addr} {len cap : Nat} {xs : List Value} [TI P T (.slice el) size bytes zero] [TI P el desc' size' bytes' zero']
  (hx : ev E x = some (.slice p len cap)) (hl : ev E lo = some (.int k m)) (h0 : 0 ≤ m ∧ m ≤ len) (hs : aN G (.slice p len cap) size' len xs) (hlt : Nat.blt d n = true)
  (kk : ∀ p',aN G (.slice p' (len - m.toNat) (cap - m.toNat)) size' (len - m.toNat) (xs.drop (m.toNat * size')) → Nx n D ((d,.slice p' (len - m.toNat) (cap - m.toNat)) :: E) B G L K) :
  Nx n D E B G L (ow P ⟨some d,.slice T x (some lo) none none,ty,pos,aft,gd⟩ Q K):=by
 obtain ⟨h1,⟨h2,h3⟩ | ⟨b',o',cap',e,hc,hsg⟩⟩:=id hs
 ·simp only [Value.slice.injEq] at h2
  obtain ⟨rfl,rfl,rfl⟩:=h2
  obtain rfl : m = 0:=oM
  obtain rfl : xs = []:=List.length_eq_zero_iff.1 (by rw [h1];simp)
  exact jx (ac3 hx hl F) F hlt (kk none ⟨by simp,.inl ⟨F,by simp⟩⟩)
 ·simp only [Value.slice.injEq] at e
  obtain ⟨rfl,-,rfl⟩:=e
  exact jx (nZ hx hl h0) F hlt (kk _ (hs.cutAt oM))
end
variable {G : Gh}
theorem aaE {p : Option Addr} {c m : Nat} {l : List Ch} (h : aN G (.slice p (l.length - m) c) 2 (l.length - m) ((ag dk l).drop (m * 2))) : aN G (.slice p (l.drop m).length c) 2 (l.drop m).length (ag dk (l.drop m)):=by
 rw [List.length_drop,yV]
 exact h
theorem sU {p : Option Addr} {n c sz : Nat} {xs : List Value} (h : aN G (.slice p n c) sz n xs) : n ≤ c:=by
 obtain ⟨_,⟨e,_⟩ | ⟨b,o,c',e,hc,_⟩⟩:=h
 ·simp only [Value.slice.injEq] at e;omega
 ·simp only [Value.slice.injEq] at e;omega
--?fin
--?s0
open Go.Proofs
section
variable {P : Program} {n : Nat} {D : List Deferred} {E : bQ} {M : World → Prop} {d : Option Nat} {ty : TypeId} {pos : String} {aft : Array Edge} {gd : Option (Nat × Bool)}
theorem eF {T : TypeId} {x : Operand} {desc : TypeDesc} {size bytes : Nat} {zero : Value} {b o : Nat} {v : Value} {G0 : Gh} {L0 : List Own} {cs : List Value} [TI P T desc size bytes zero] [Kn M G0 L0] (hx : ev E x = some (Pt b o)) (ha : dQ desc = false) (hs : bU G0 b o cs) (hc : cs[0]? = some v) :
  Gives P n D E M ⟨d,.load T x,ty,pos,aft,gd⟩ v:=gh hx ha (by have:=(eN (S:=M) hs).go 0 v hc;simpa using this)
theorem db {T : TypeId} {x : Operand} {desc : TypeDesc} {size bytes : Nat} {zero : Value} {b o : Nat} {vs : List Value} {G0 : Gh} {L0 : List Own} {cs : List Value} [TI P T desc size bytes zero] [Kn M G0 L0] (hx : ev E x = some (Pt b o)) (ha : dQ desc = true) (hs : bU G0 b o cs) (hc : lS cs 0 size = some vs) (hl : Nat.beq vs.length size = true) :
  Gives P n D E M ⟨d,.load T x,ty,pos,aft,gd⟩ (Ag vs):=kg hx ha (Nat.eq_of_beq_eq_true hl) (by have:=(eN (S:=M) hs).take hc;simpa using this)
end
variable {G : Gh}
theorem mH {i : Int} {b n pc : Nat} {pa : Option Addr} {q : List Int} (hb : bU G b 0 [.slice pa n pc]) (hn : n = q.length) (hs : aN G (.slice pa n pc) 1 n (ag dc (q.map bi))) (hi : 0 ≤ i ∧ i ≤ 999999) (hq : n ≤ 100000) :
  bJ aek 61 [I i,Pt b 0] G (fun v G'=>∃ pa' pc',v = .slice pa' (n + 1) pc' ∧ aN G' (.slice pa' (n + 1) pc') 1 (n + 1) (ag dc ((q ++ [i]).map bi))):=by
 have hpc:=sU hs
 have hrow : ag dc ((q ++ [i]).map bi) = ag dc (q.map bi) ++ [S (bi i)]:=by rw [List.map_append];exact bX dc (q.map bi) (bi i)
 rw [hrow]
 refine jB [(0,_),(1,_)] Tryz.func61 Tryz.ntmps61 fun B hok hB hW=>?_
 repeat' (first | refine jR ?_ | (refine an (ao (id:=1) _ (fun _ h=>h) am ?_);refine jT 10 [6] (aa 11 64) ?_;(refine jG (aa 11 65) 0 F (eF F F aS F) ?_);(refine jG (aa 11 67) 1 F (eF F F aS F) ?_);(refine jG (aa 11 71) 2 F (af F) ?_);(refine jG (aa 11 79) 3 F (eF F F aS F) ?_);(refine jG (aa 11 95) 4 F (af F) ?_);(refine jG (aa 11 127) 5 F (ac5 F F F oM) ?_);refine jA 7 F ?_;(refine ae F F F (iK oM) F ?_);refine jS (aa 11 255) ?_;refine jA 8 F ?_;(refine jF fun _=>?_);refine jS (aa 11 511) ?_;refine jA 9 F ?_;((refine adB F F aS F F F F F F F F ?_ fun _ _ G2 hG2 hpth=>?_;focus omega));refine jS (aa 11 1023) ?_;refine jT 0 [10] (aa 11 2047) ?_;refine jQ ?_))
 all_goals refine jZ (vs:=[_]) F ⟨F,trivial⟩ F ⟨(by (assumption)),F,?_⟩
 all_goals exact ⟨_,_,F,hpth⟩
theorem acm {c : VC} {b bf of j : Nat} {fs : List Fld} (hb : bU G b 0 [Pt bf (of + j * 6)]) (hsf : bU G bf of (ag gG fs)) (hj : j < fs.length) :
  a7 aek 65 [Ag (be c),Pt b 0] G (· = Bo (decide (c.tag = (ab fs j).tag))):=by
 obtain ⟨w,tx,tg,a,mm,kc⟩:=c
 have e0 : be ⟨w,tx,tg,a,mm,kc⟩ = [U8 (w : Nat),S tx,I tg,.slice a mm kc]:=rfl
 rw [e0]
 have hxj : ab fs j = ab fs j:=rfl
 refine jE [(0,_),(1,_)] Tryz.func65 Tryz.ntmps65 fun B hB=>?_
 repeat' (first | refine jR ?_ | (refine jo ?_;refine jO fun _=>?_) | (refine an (ao (id:=1) _ (fun _ h=>h) am ?_);refine jT 7 [0] (aa 8 1) ?_;(refine jG (aa 8 3) 1 F (aV F F F) ?_);(refine jG (aa 8 7) 2 F (eF F F aS F) ?_);refine jT 3 [3,4] (aa 8 31) ?_;((refine jG (aa 8 63) 5 F (fS F F aS ?_ aS F F) ?_;focus omega));refine jT 0 [6,7] (aa 8 255) ?_;refine jQ ?_))
 all_goals refine jY (vs:=[_]) ?_
 all_goals rfl
abbrev fIx : FuncId:=109
def g8 (f : Fld) (cs : List VC) : Bool:=cs.any fun c=>decide (c.tag = f.tag)
theorem vZ {f : Fld} {cs : List VC} {i : Nat} (hi : i < cs.length) : g8 f (cs.drop i) = (decide ((ab cs i).tag = f.tag) || g8 f (cs.drop (i + 1))):=by
 rw [fN hi];rfl
theorem zj {a : Option Addr} {m kc b bf of j : Nat} {cs : List VC} {fs : List Fld} (hb : bU G b 0 [Pt bf (of + j * 6)]) (hsf : bU G bf of (ag gG fs)) (hj : j < fs.length) (hm : m = cs.length) (hs : aN G (.slice a m kc) 4 m (ag be cs)) (hl : m ≤ 1000000) :
  a7 aek fIx [.slice a m kc,.func (.func 65) (List.toArray []) (List.toArray [Pt b 0])] G (fun v=>∃ r : Int,v = I r ∧ (g8 (ab fs j) cs = true → 0 ≤ r) ∧ (g8 (ab fs j) cs = false → r = -1)):=by
 subst hm
 refine jE [(0,_),(1,_)] Tryz.func109 Tryz.ntmps109 fun B hB=>?_
 repeat' (first | refine jR ?_ | (refine jo ?_;refine jV (af F) ?_))
 refine aW (ι:=Nat) (fun i=>i ≤ cs.length ∧ g8 (ab fs j) cs = g8 (ab fs j) (cs.drop i)) (fun i=>[(0,.slice a cs.length kc),(1,.func (.func 65) (List.toArray []) (List.toArray [Pt b 0])),(7,I cs.length),(8,I i)]) (fun _=>G) (fun i=>[]) (fun i=>cs.length - i) 0 ?_ tU F bc (fun i Hi=>?_)
 ·exact ⟨Nat.zero_le _,F⟩
 obtain ⟨hi0,hi1⟩:=Hi
 by_cases hi : i < cs.length
 ·obtain ⟨xb,xo,xc,e,hsx⟩:=hs.expl oM
  simp only [Value.slice.injEq] at e
  obtain ⟨rfl,-,rfl⟩:=e
  have hxi : ab cs i = ab cs i:=rfl
  rw [vZ hi] at hi1
  repeat' (first | refine jR ?_ | (refine jo ?_;first | refine jV (ak F F oM) ?_ | (refine jV (gY F F aS ?_ aS) ?_;focus omega)) | refine ac F (aA oM) ?_)
  have htl:=acm (G:=G) (c:=ab cs i) hb hsf hj
  by_cases ht : (ab cs i).tag = (ab fs j).tag
  ·rw [decide_eq_true ht] at htl hi1
   rw [Bool.true_or] at hi1
   refine jo ?_
   refine ae F F F htl F ?_
   repeat' (first | refine jR ?_ | refine ac F F ?_)
   refine jY (vs:=[_]) ?_
   exact ⟨(i : Nat),F,fun _=>by omega,fun h=>by rw [hi1] at h;cases h⟩
  ·rw [decide_eq_false ht] at htl hi1
   rw [Bool.false_or] at hi1
   refine jo ?_
   refine ae F F F htl F ?_
   repeat' (first | refine jM ?_ | refine ad F F ?_)
   exact br (i + 1) ⟨oM,hi1⟩ oM tU F bc
 ·have e : i = cs.length:=oM
  rw [e,List.drop_length] at hi1
  repeat' (first | refine jR ?_ | refine ad F (aH oM) ?_)
  refine jY (vs:=[_]) ?_
  refine ⟨-1,F,fun h=>?_,fun _=>rfl⟩
  rw [hi1] at h
  cases h
theorem qv {a : Option Addr} {m kc b bf of j : Nat} {cs : List VC} {fs : List Fld} (hb : bU G b 0 [Pt bf (of + j * 6)]) (hsf : bU G bf of (ag gG fs)) (hj : j < fs.length) (hm : m = cs.length) (hs : aN G (.slice a m kc) 4 m (ag be cs)) (hl : m ≤ 1000000) :
  a7 aek 66 [.slice a m kc,.func (.func 65) (List.toArray []) (List.toArray [Pt b 0])] G (· = Bo (g8 (ab fs j) cs)):=by
 have hix:=zj hb hsf hj hm hs hl
 refine jE [(0,_),(1,_)] Tryz.func66 Tryz.ntmps66 fun B hB=>?_
 repeat' (refine jR ?_)
 refine jo ?_
 refine eE F F F hix F ?_
 rintro _ ⟨r,rfl,h1,h2⟩
 cases h : g8 (ab fs j) cs with
 | true =>
  have h3:=h1 h
  repeat' (refine jR ?_)
  refine jY (vs:=[_]) ?_
  rw [aM]
  exact congrArg Value.bool (decide_eq_true oM)
 | false =>
  obtain rfl:=h2 h
  repeat' (refine jR ?_)
  refine jY (vs:=[_]) ?_
  rfl
--?fin
--?s0
open Go.Proofs
variable {G : Gh}
abbrev g9 : TypeId:=55
abbrev ad1 : TypeId:=22
abbrev zE (b : Nat) (v : Value) : Own:=.blk b (.cells (List.toArray [v]) ad1 (0,0))
theorem p7 : ∀ {q : List Int},(∀ n ∈ q,0 ≤ n ∧ n ≤ 999999) → dw (q.map bi) ≤ 6 * q.length
 | [],_=>by simp [dw]
 | n :: q,h=>by
  have h1:=kF (h n (by simp)).2
  have h2:=p7 (q:=q) fun x hx=>h x (by simp [hx])
  simp only [List.map_cons,dw,List.length_cons,List.sum_cons] at h2 ⊢
  omega
def mS (b : Nat) (qs : List c8) (n : Nat) (k : ael) (a w : V) : Prop:=∀ (G : Gh) (ca cw : VC) (q : List Int) (m0 : Nat) (pa : Option Addr) (pc bu : Nat) (p : Option Addr) (m cap : Nat) (out : List Ch),ScI G b qs → V.rep G a ca → V.rep G w cw → m0 = q.length → aN G (.slice pa m0 pc) 1 m0 (ag dc (q.map bi)) → (∀ n ∈ q,0 ≤ n ∧ n ≤ 999999) → q.length + n ≤ 1000 → m = out.length → m + (bB (al qs) n k a w q).length ≤ 1000000 →
 fp aek 26 [Pt b 0,Ag (cT k),Ag (be ca),Ag (be cw),.slice pa m0 pc,Pt bu 0] G [.acc (.slice p m cap) g9 2 m (ag dk out),zE bu (.slice p m cap)]
  (fun _ _ L'=>∃ p' cap',L' = [.acc (.slice p' (m + (bB (al qs) n k a w q).length) cap') g9 2 (m + (bB (al qs) n k a w q).length) (ag dk (out ++ (bB (al qs) n k a w q).map c6)),zE bu (.slice p' (m + (bB (al qs) n k a w q).length) cap')])
theorem aa8 {b n : Nat} {qs : List c8} {k : ael} {a w : V} (hw : SchW (al qs)) (ta : a.tot ≤ 1000000) (tw : w.tot ≤ 1000000) (ho : a.out = w.out) : mS b qs (n + 1) k a w:=by
 intro G ca cw q m0 pa pc bu p m cap out hS hra hrw hm0 hsp hq hql hm hmx
 have e : bB (al qs) (n + 1) k a w q = []:=by rw [bB,if_pos ho]
 rw [e]
 simp only [List.length_nil,Nat.add_zero,List.map_nil,List.append_nil]
 obtain ⟨w1,x1,t1,ks1⟩:=a
 obtain ⟨w2,x2,t2,ks2⟩:=w
 obtain ⟨ka,kc,cs,rfl,_⟩:=cU hra
 obtain ⟨ka2,kc2,cs2,rfl,_⟩:=cU hrw
 have e1 : be ⟨w1,x1,t1,ka,ks1.length,kc⟩ = [U8 (w1 : Nat),S x1,I t1,.slice ka ks1.length kc]:=rfl
 have e2 : be ⟨w2,x2,t2,ka2,ks2.length,kc2⟩ = [U8 (w2 : Nat),S x2,I t2,.slice ka2 ks2.length kc2]:=rfl
 rw [e1,e2]
 rw [show cT k = [S (sg k),S (bs k),S (nm k)] from rfl]
 refine bM [(0,_),(1,_),(2,_),(3,_),(4,_),(5,_)] Tryz.func26 kR Tryz.ntmps26 F F tU fun B hB hW=>?_
 repeat' (first | refine jR ?_ | (refine jo ?_;refine jO fun _=>?_))
 rename_i x7 x8 x9 x10
 refine Nx.sealC (b:=x7) fun G1 h1 s7=>?_
 refine Nx.sealC (b:=x8) fun G2 h2 s8=>?_
 refine Nx.sealC (b:=x9) fun G3 h3 s9=>?_
 refine Nx.sealC (b:=x10) fun G4 h4 s10=>?_
 have s7:=((s7.mono h2).mono h3).mono h4
 have s8:=(s8.mono h3).mono h4
 have s9:=s9.mono h4
 have hG:=((h1.trans h2).trans h3).trans h4
 have cx_pr:=ew (G:=G4) _ (Nat.le_refl _) ta (aD hG hra)
 have cx_pr2:=ew (G:=G4) _ (Nat.le_refl _) tw (aD hG hrw)
 rw [e1] at cx_pr
 rw [e2] at cx_pr2
 repeat' (first | refine jR ?_ | refine ac F (aA ‹_›) ?_ | (refine an (ao (id:=1) _ (fun _ h=>h) am ?_);(refine jG (aa 5 1) 0 F (db F F aS F F) ?_);(refine jG (aa 5 5) 2 F (db F F aS F F) ?_);refine jA 1 F ?_;(refine ae F F F cx_pr F ?_);refine jS (aa 5 7) ?_;refine jA 3 F ?_;(refine ae F F F cx_pr2 F ?_);refine jS (aa 5 15) ?_;refine jT 0 [4] (aa 5 31) ?_;refine jQ ?_))
 exact aX (vs:=[]) F trivial F bc ⟨hG,_,_,F⟩
theorem zl {b n : Nat} {qs : List c8} {k : ael} {a w : V} (hw : SchW (al qs)) (oa : OfK (al qs) k a) (ow : OfK (al qs) k w) (ta : a.tot ≤ 1000000) (tw : w.tot ≤ 1000000) (ho : ¬ a.out = w.out) (hd : ¬ bZ a w = true) : mS b qs (n + 1) k a w:=by
 intro G ca cw q m0 pa pc bu p m cap out hS hra hrw hm0 hsp hq hql hm hmx
 have e : bB (al qs) (n + 1) k a w q = [(q,w)]:=by rw [bB,if_neg ho,if_neg hd]
 rw [e]
 simp only [List.length_singleton,List.map_cons,List.map_nil]
 have hwh:=pC oa ow
 have hrow : ag dk (out ++ [c6 (q,w)]) = ag dk out ++ [S (bN q),S w.out]:=bX dk out (c6 (q,w))
 rw [hrow]
 have hmm : m ≤ 1000000:=oM
 have hcs : (a.what = 91 ∧ a.kids.length ≠ w.kids.length) ∨ (a.what = 63 ∧ a.kids.length ≠ 1) ∨ (a.what = 63 ∧ a.kids.length = 1 ∧ w.kids.length ≠ 1) ∨ (a.what = 85 ∧ a.tag ≠ w.tag) ∨ (a.what ≠ 91 ∧ a.what ≠ 63 ∧ a.what ≠ 85 ∧ a.what ≠ 82):=by
  by_cases h82 : a.what = 82
  ·exact absurd (by unfold bZ;rw [if_pos h82]) hd
  by_cases h85 : a.what = 85
  ·refine .inr (.inr (.inr (.inl ⟨h85,fun h=>hd ?_⟩)))
   unfold bZ
   rw [if_neg h82,if_pos h85]
   exact decide_eq_true h
  by_cases h91 : a.what = 91
  ·refine .inl ⟨h91,fun h=>?_⟩
   by_cases h0 : 0 < a.kids.length
   ·refine hd ?_
    unfold bZ
    rw [if_neg h82,if_neg h85,if_pos (.inl h91)]
    exact decide_eq_true ⟨h,h0⟩
   ·have ha0:=List.length_eq_zero_iff.1 (show a.kids.length = 0 by omega)
    have hw0:=List.length_eq_zero_iff.1 (show w.kids.length = 0 by omega)
    refine ho ?_
    have h91w : w.what = 91:=hwh ▸ h91
    clear e hrow hd
    cases oa <;> first | (rw [V.what] at h91;omega) | skip
    cases ow <;> first | (rw [V.what] at h91w;omega) | skip
    rw [V.kids] at ha0 hw0
    rw [ha0,hw0]
  by_cases h63 : a.what = 63
  ·by_cases h1 : a.kids.length = 1
   ·refine .inr (.inr (.inl ⟨h63,h1,fun h=>hd ?_⟩))
    unfold bZ
    rw [if_neg h82,if_neg h85,if_pos (.inr h63)]
    exact decide_eq_true ⟨oM,oM⟩
   ·exact .inr (.inl ⟨h63,h1⟩)
  exact .inr (.inr (.inr (.inr ⟨h91,h63,h85,h82⟩)))
 have hle0:=p7 hq
 have hml : m0 = (q.map bi).length:=by simp [hm0]
 obtain ⟨w1,x1,t1,ks1⟩:=a
 obtain ⟨w2,x2,t2,ks2⟩:=w
 simp only [V.what,V.kids,V.tag] at hcs
 obtain ⟨ka,kc,cs,rfl,_⟩:=cU hra
 obtain ⟨ka2,kc2,cs2,rfl,_⟩:=cU hrw
 have e1 : be ⟨w1,x1,t1,ka,ks1.length,kc⟩ = [U8 (w1 : Nat),S x1,I t1,.slice ka ks1.length kc]:=rfl
 have e2 : be ⟨w2,x2,t2,ka2,ks2.length,kc2⟩ = [U8 (w2 : Nat),S x2,I t2,.slice ka2 ks2.length kc2]:=rfl
 rw [e1,e2]
 rw [show cT k = [S (sg k),S (bs k),S (nm k)] from rfl]
 have go : ∀ G4,Gh.le G G4 → a7 aek 68 [.slice pa m0 pc,S [47]] G4 (· = S (bN q)):=fun G4 h4=>by
  have hs2 : aN G4 (.slice pa m0 pc) 1 (q.map bi).length (ag dc (q.map bi)):=by rw [← hml];exact hsp.mono h4
  exact xZ (c:=47) hs2 oM
 clear hle0 hml
 rcases hcs with ⟨rfl,hc1⟩ | ⟨rfl,hc1⟩ | ⟨rfl,hc1,hc2⟩ | ⟨rfl,hc1⟩ | ⟨hc1,hc2,hc3,hc4⟩
 all_goals
  refine bM [(0,_),(1,_),(2,_),(3,_),(4,_),(5,_)] Tryz.func26 kR Tryz.ntmps26 F F tU fun B hB hW=>?_
  repeat' (first | refine jR ?_ | (refine jo ?_;refine jO fun _=>?_))
  rename_i x7 x8 x9 x10
  refine Nx.sealC (b:=x7) fun G1 h1 s7=>?_
  refine Nx.sealC (b:=x8) fun G2 h2 s8=>?_
  refine Nx.sealC (b:=x9) fun G3 h3 s9=>?_
  refine Nx.sealC (b:=x10) fun G4 h4 s10=>?_
  have s7:=((s7.mono h2).mono h3).mono h4
  have s8:=(s8.mono h3).mono h4
  have s9:=s9.mono h4
  have hG:=((h1.trans h2).trans h3).trans h4
  have cx_pr:=ew (G:=G4) _ (Nat.le_refl _) ta (aD hG hra)
  have cx_pr2:=ew (G:=G4) _ (Nat.le_refl _) tw (aD hG hrw)
  have cx_join:=go G4 hG
  rw [e1] at cx_pr
  rw [e2] at cx_pr2
  (refine an (ao (id:=1) _ (fun _ h=>h) am ?_);(refine jG (aa 5 1) 0 F (db F F aS F F) ?_);(refine jG (aa 5 5) 2 F (db F F aS F F) ?_);refine jA 1 F ?_;(refine ae F F F cx_pr F ?_);refine jS (aa 5 7) ?_;refine jA 3 F ?_;(refine ae F F F cx_pr2 F ?_);refine jS (aa 5 15) ?_;refine jT 0 [4] (aa 5 31) ?_;refine jQ ?_)
  repeat' (first | refine jR ?_ | (refine jo ?_;first | refine jV (eF F F aS F) ?_ | refine jV (aj F F aS F F) ?_ | refine jV (ml F F) ?_ | refine jV (af F) ?_ | refine aP F ?_ | refine aE F ?_) | (refine aF F F (by first | rfl | (refine decide_eq_true ?_;(omega))) ?_) | (refine aw F F (by first | rfl | (refine decide_eq_false ?_;(omega))) ?_) | (refine ad F (by first | rfl | (refine decide_eq_false ?_;first | assumption | omega)) ?_))
  (refine an (ao (id:=23) [] (fun _ h=>absurd h (by simp)) am ?_);refine jW 10 [0,1,2] (aa 13 7) ?_;(refine jG (aa 13 23) 4 F (eF F F aS F) ?_);(refine jG (aa 13 87) 6 F (db F F aS F F) ?_);refine b8 [3,5] kR dC ⟨?_,?_,trivial⟩;(focus (refine aO F F ?_;(refine aC F ?_);refine jK (aa 13 95) ?_;refine jA 5 F ?_;(refine ae F F F cx_join F ?_);refine jK (aa 13 127) ?_;refine jA 7 F ?_;(refine ae F F F cx_pr2 F ?_);refine jK (aa 13 255) ?_;(refine jG (aa 13 511) 8 F (ay F F) ?_);refine jA 9 F ?_;(refine jF fun _=>?_);refine jK (aa 13 1023) ?_;refine jA 10 F ?_;((refine bG F F F F F F F F F ?_ fun _ _=>?_;focus omega));refine jK (aa 13 2047) ?_;refine jW 1 [11] (aa 13 4095) ?_;refine jA 12 F ?_;(refine jD F F F ?_);refine jK (aa 13 8191) ?_;refine jQ ?_));rotate_left 1;(focus (refine aO F F ?_;(refine ae F F F cx_join F ?_);refine jK (aa 13 119) ?_;refine b8 [3,7] kR dC ⟨?_,?_,trivial⟩;(focus (refine aO F F ?_;(refine aC F ?_);refine jK (aa 13 127) ?_;refine jA 7 F ?_;(refine ae F F F cx_pr2 F ?_);refine jK (aa 13 255) ?_;(refine jG (aa 13 511) 8 F (ay F F) ?_);refine jA 9 F ?_;(refine jF fun _=>?_);refine jK (aa 13 1023) ?_;refine jA 10 F ?_;((refine bG F F F F F F F F F ?_ fun _ _=>?_;focus omega));refine jK (aa 13 2047) ?_;refine jW 1 [11] (aa 13 4095) ?_;refine jA 12 F ?_;(refine jD F F F ?_);refine jK (aa 13 8191) ?_;refine jQ ?_));rotate_left 1;(focus (refine aO F F ?_;(refine ae F F F cx_pr2 F ?_);refine jK (aa 13 247) ?_;(refine jG (aa 13 503) 8 F (ay F F) ?_);refine b8 [3,9] kR dC ⟨?_,?_,trivial⟩;(focus (refine aO F F ?_;(refine aC F ?_);refine jK (aa 13 511) ?_;refine jA 9 F ?_;(refine jF fun _=>?_);refine jK (aa 13 1023) ?_;refine jA 10 F ?_;((refine bG F F F F F F F F F ?_ fun _ _=>?_;focus omega));refine jK (aa 13 2047) ?_;refine jW 1 [11] (aa 13 4095) ?_;refine jA 12 F ?_;(refine jD F F F ?_);refine jK (aa 13 8191) ?_;refine jQ ?_));rotate_left 1;(focus (refine aO F F ?_;(refine jF fun _=>?_);refine jK (aa 13 1015) ?_;refine jA 3 F ?_;(refine aC F ?_);refine jK (aa 13 1023) ?_;refine jA 10 F ?_;((refine bG F F F F F F F F F ?_ fun _ _=>?_;focus omega));refine jK (aa 13 2047) ?_;refine jW 1 [11] (aa 13 4095) ?_;refine jA 12 F ?_;(refine jD F F F ?_);refine jK (aa 13 8191) ?_;refine jQ ?_));rotate_left 1));rotate_left 2));rotate_left 3)
  all_goals repeat' (fail)
  all_goals exact kC (vs:=[]) F trivial F sB ⟨hG,_,_,F⟩
--?fin
--?s0
open Go.Proofs
section
variable {P : Program} {n : Nat} {D : List Deferred} {E : bQ} {B : Base} {G : Gh} {L : List Own} {K : Act → World → Prop} {Q : Exit → Act → World → Prop} {ty : TypeId} {pos : String} {aft : Array Edge}
theorem lI {fo : Operand} {l : List Operand} {ah : Array TypeId} {g : Option (Nat × Bool)} {f : FuncId} {fi ca az vs : List Value} {b1 : Nat} {cs1 xs : List Value} {T1 el : TypeId} {u : Value} {sz m : Nat} {R1 R : List Own} {Post : Value → Gh → List Own → Prop} {d : Nat}
  [hd : DelB L b1 cs1 T1 R1] [ha2 : AccI R1 u el sz m xs R] (hf : ev E fo = some (.func (.func f) fi.toArray ca.toArray)) (ha : evs E l = some az) (hv : fi ++ az ++ ca = vs) (hc : fp P f vs G [.acc u el sz m xs,.blk b1 (.cells cs1.toArray T1 (0,0))] Post) (hlt : Nat.blt d n = true)
  (k : ∀ v G' L',Gh.le G G' → Post v G' L' → Nx n D ((d,v) :: E) B G' (L' ++ R) K) : Nx n D E B G L (ow P ⟨some d,.call ⟨.value fo,l.toArray,ah⟩,ty,pos,aft,g⟩ Q K) :=
 iL (Lp:=[.acc u el sz m xs,.blk b1 (.cells cs1.toArray T1 (0,0))]) hf ha hv hc ((hd.del.perm.trans (ha2.del.perm.cons _)).trans (List.Perm.swap _ _ _)) hlt fun v G' L' h=>k v G' L' h.1 h.2
end
variable {G : Gh}
abbrev fDp : FuncId:=61
theorem aa9 {b n : Nat} {qs : List c8} {k : ael} {ks1 ks2 : List V} (hw : SchW (al qs)) (oa : OfK (al qs) (91 :: k) (.nd 91 [] 0 ks1)) (ow : OfK (al qs) (91 :: k) (.nd 91 [] 0 ks2)) (hk : ax (al qs) (91 :: k) = true) (ta : (V.nd 91 [] 0 ks1).tot ≤ 1000000) (tw : (V.nd 91 [] 0 ks2).tot ≤ 1000000)
  (ho : ¬ (V.nd 91 [] 0 ks1).out = (V.nd 91 [] 0 ks2).out) (hd : bZ (.nd 91 [] 0 ks1) (.nd 91 [] 0 ks2) = true) (ih : ∀ i ∈ aU (.nd 91 [] 0 ks1) (.nd 91 [] 0 ks2),∀ k1 y z,aB (al qs) (91 :: k) (.nd 91 [] 0 ks1) i = some (k1,y) → aB (al qs) (91 :: k) (.nd 91 [] 0 ks2) i = some (k1,z) → mS b qs n k1 y z) :
  mS b qs (n + 1) (91 :: k) (.nd 91 [] 0 ks1) (.nd 91 [] 0 ks2):=by
 intro G ca cw q m0 pa pc bu p m cap out hS hra hrw hm0 hsp hq hql hm hmx
 have e:=vl (ts:=al qs) (n:=n) (k:=91 :: k) (q:=q) ho hd
 rw [e] at hmx ⊢
 have hl : ks1.length = ks2.length:=by
  unfold bZ at hd
  rw [V.what,if_neg dC,if_neg dC,if_pos (.inl rfl)] at hd
  exact (of_decide_eq_true hd).1
 have hstl:=rp (b:=.nd 91 [] 0 ks2) oa
 have hsv : aU (.nd 91 [] 0 ks1) (.nd 91 [] 0 ks2) = mO ks1.length:=by unfold aU;rw [V.what,if_pos (.inl rfl)];rfl
 have hsl : (aU (.nd 91 [] 0 ks1) (.nd 91 [] 0 ks2)).length = ks1.length:=by rw [hsv,qJ]
 have hsn : ∀ i,i < ks1.length → ab (aU (.nd 91 [] 0 ks1) (.nd 91 [] 0 ks2)) i = (i : Int):=fun i hi=>by
  rw [hsv,aI (by rw [qJ];exact hi)]
  unfold mO
  simp
 rw [hsl] at hmx hstl ⊢
 obtain ⟨ka,kc,cs,rfl,_,_,_,hcl,hsk,hrs⟩:=cU hra
 obtain ⟨ka2,kc2,cs2,rfl,_,_,_,hcl2,hsk2,hrs2⟩:=cU hrw
 obtain ⟨f1,f2,f3,_⟩:=ic (c:=91) (k:=k) (.inl rfl)
 have e1 : be ⟨91,[],0,ka,ks1.length,kc⟩ = [U8 (91 : Nat),S [],I 0,.slice ka ks1.length kc]:=rfl
 have e2 : be ⟨91,[],0,ka2,ks2.length,kc2⟩ = [U8 (91 : Nat),S [],I 0,.slice ka2 ks2.length kc2]:=rfl
 rw [e1,e2]
 rw [show cT (91 :: k) = [S (91 :: sg k),S (bs k),S (nm k)] by unfold cT;rw [f1,f2,f3]]
 refine bM [(0,_),(1,_),(2,_),(3,_),(4,_),(5,_)] Tryz.func26 kR Tryz.ntmps26 F F tU fun B hB hW=>?_
 repeat' (first | refine jR ?_ | (refine jo ?_;refine jO fun _=>?_))
 rename_i x7 x8 x9 x10
 refine Nx.sealC (b:=x7) fun G1 h1 s7=>?_
 refine Nx.sealC (b:=x8) fun G2 h2 s8=>?_
 refine Nx.sealC (b:=x9) fun G3 h3 s9=>?_
 refine Nx.sealC (b:=x10) fun G4 h4 s10=>?_
 have s7:=((s7.mono h2).mono h3).mono h4
 have s8:=(s8.mono h3).mono h4
 have s9:=s9.mono h4
 have hG:=((h1.trans h2).trans h3).trans h4
 have cx_pr:=ew (G:=G4) _ (Nat.le_refl _) ta (aD hG hra)
 have cx_pr2:=ew (G:=G4) _ (Nat.le_refl _) tw (aD hG hrw)
 rw [e1] at cx_pr
 rw [e2] at cx_pr2
 (refine an (ao (id:=1) _ (fun _ h=>h) am ?_);(refine jG (aa 5 1) 0 F (db F F aS F F) ?_);(refine jG (aa 5 5) 2 F (db F F aS F F) ?_);refine jA 1 F ?_;(refine ae F F F cx_pr F ?_);refine jS (aa 5 7) ?_;refine jA 3 F ?_;(refine ae F F F cx_pr2 F ?_);refine jS (aa 5 15) ?_;refine jT 0 [4] (aa 5 31) ?_;refine jQ ?_)
 repeat' (first | refine jR ?_ | (refine jo ?_;first | refine jV (eF F F aS F) ?_ | refine jV (aj F F aS F F) ?_ | refine jV (ml F F) ?_ | refine jV (af F) ?_ | refine aP F ?_) | refine aF F F F ?_ | refine ac F (aA oM) ?_ | refine ad F (aH ‹_›) ?_)
 rw [show ag dk out = ag dk (out ++ (dt (al qs) n (91 :: k) (.nd 91 [] 0 ks1) (.nd 91 [] 0 ks2) q 0).map c6) by rw [show dt (al qs) n (91 :: k) (.nd 91 [] 0 ks1) (.nd 91 [] 0 ks2) q 0 = [] from rfl,List.map_nil,List.append_nil]]
 refine aW (ι:=Nat × Option Addr × Nat × Gh) (fun i=>i.1 ≤ ks1.length ∧ Gh.le G4 i.2.2.2) (fun i=>[(0,Pt b 0),(5,Pt bu 0),(7,Pt x7 0),(8,Pt x8 0),(9,Pt x9 0),(12,.func (.func fDp) (List.toArray []) (List.toArray [Pt x10 0])),(39,I ks1.length),(40,I i.1)]) (fun i=>i.2.2.2) (fun i=>[.acc (.slice i.2.1 (m + (dt (al qs) n (91 :: k) (.nd 91 [] 0 ks1) (.nd 91 [] 0 ks2) q i.1).length) i.2.2.1) g9 2 (m + (dt (al qs) n (91 :: k) (.nd 91 [] 0 ks1) (.nd 91 [] 0 ks2) q i.1).length) (ag dk (out ++ (dt (al qs) n (91 :: k) (.nd 91 [] 0 ks1) (.nd 91 [] 0 ks2) q i.1).map c6)),zE bu (.slice i.2.1 (m + (dt (al qs) n (91 :: k) (.nd 91 [] 0 ks1) (.nd 91 [] 0 ks2) q i.1).length) i.2.2.1)]) (fun i=>ks1.length - i.1) (0,p,cap,G4) ?_ tU F bc (fun i Hi=>?_)
 ·exact ⟨Nat.zero_le _,Gh.le.refl _⟩
 obtain ⟨i,p,cap,Gq⟩:=i
 dsimp only at Hi ⊢
 obtain ⟨hi0,hgq⟩:=Hi
 by_cases hi : i < ks1.length
 ·have hin : (i : Int) ∈ aU (.nd 91 [] 0 ks1) (.nd 91 [] 0 ks2):=by rw [← hsn i hi];exact bC oM
  have st1 : aB (al qs) (91 :: k) (.nd 91 [] 0 ks1) (i : Int) = some (k,ab ks1 i):=by
   rw [dZ (.inl rfl),V.kids,if_pos oM];rfl
  have st2 : aB (al qs) (91 :: k) (.nd 91 [] 0 ks2) (i : Int) = some (k,ab ks2 i):=by
   rw [dZ (.inl rfl),V.kids,if_pos oM];rfl
  have hps:=tA (ts:=al qs) (k:=91 :: k) (a:=.nd 91 [] 0 ks1) (b:=.nd 91 [] 0 ks2) (n:=n) (q:=q) (i:=i) (by rw [hsl];exact hi) (by rw [hsn i hi];exact st1) (by rw [hsn i hi];exact st2)
  rw [hsn i hi] at hps
  have hpe:=xd (ts:=al qs) (n:=n) (k:=91 :: k) (a:=.nd 91 [] 0 ks1) (b:=.nd 91 [] 0 ks2) (q:=q) (i + 1)
  rw [hsl] at hpe
  have hbt:=ih _ hin _ _ _ st1 st2
  generalize hPi : dt (al qs) n (91 :: k) (.nd 91 [] 0 ks1) (.nd 91 [] 0 ks2) q i = Di at *
  have hN1 : m + (dt (al qs) n (91 :: k) (.nd 91 [] 0 ks1) (.nd 91 [] 0 ks2) q (i + 1)).length = m + Di.length + (bB (al qs) n k (ab ks1 i) (ab ks2 i) (q ++ [(i : Int)])).length:=by rw [hps,List.length_append,Nat.add_assoc]
  have hN2 : out ++ (dt (al qs) n (91 :: k) (.nd 91 [] 0 ks1) (.nd 91 [] 0 ks2) q (i + 1)).map c6 = out ++ Di.map c6 ++ (bB (al qs) n k (ab ks1 i) (ab ks2 i) (q ++ [(i : Int)])).map c6:=by rw [hps,List.map_append,List.append_assoc]
  have hmo : m + Di.length = (out ++ Di.map c6).length:=by rw [List.length_append,List.length_map,hm]
  have hq2 : ∀ n ∈ q ++ [(i : Int)],0 ≤ n ∧ n ≤ 999999:=lr hq ⟨oM,oM⟩
  have s7:=s7.mono hgq
  have s8:=s8.mono hgq
  have s9:=s9.mono hgq
  have s10:=s10.mono hgq
  have hGq:=hG.trans hgq
  have hrc:=fZ (cO hGq hrs) i hi
  have hrc2:=fZ (cO hGq hrs2) i oM
  obtain ⟨xb,xo,xc,ee,hsx⟩:=(hsk.mono hGq).expl oM
  simp only [Value.slice.injEq] at ee
  obtain ⟨rfl,-,rfl⟩:=ee
  obtain ⟨yb,yo,yc,ee,hsy⟩:=(hsk2.mono hGq).expl oM
  simp only [Value.slice.injEq] at ee
  obtain ⟨rfl,-,rfl⟩:=ee
  have hxi : ab cs i = ab cs i:=rfl
  have hyi : ab cs2 i = ab cs2 i:=rfl
  have cx_pt:=@lG Gq 91 (sg k) (bs k) (nm k)
  have cx_dp:=mH (G:=Gq) (i:=(i : Int)) s10 hm0 (hsp.mono hGq) ⟨oM,oM⟩ oM
  have cx_bt:=fun (G5 : Gh) (h5 : Gh.le Gq G5) (pa2 : Option Addr) (pc2 : Nat) (hs5 : aN G5 (.slice pa2 (m0 + 1) pc2) 1 (m0 + 1) (ag dc ((q ++ [(i : Int)]).map bi))) =>
   hbt G5 (ab cs i) (ab cs2 i) (q ++ [(i : Int)]) (m0 + 1) pa2 pc2 bu p (m + Di.length) cap (out ++ Di.map c6) (hS.mono (hGq.trans h5)) (aD h5 hrc) (aD h5 hrc2) (by rw [List.length_append,hm0];rfl) hs5 hq2 (by rw [List.length_append,List.length_singleton];omega) hmo oM
  unfold cT at cx_bt
  repeat' (first | refine jR ?_ | refine ac F (aA oM) ?_)
  (refine an (ao (id:=7) [] (fun _ h=>absurd h (by simp)) am ?_);refine jW 10 [0,3,5,8,10,13,14,16] (aa 18 91433) ?_;(refine jG (aa 18 91435) 1 F (db F F aS F F) ?_);(refine jG (aa 18 91451) 4 F (aj F F aS F F) ?_);((refine jG (aa 18 91515) 6 F (ak F F ?_) ?_;focus omega));((refine jG (aa 18 91643) 7 F (gY F F aS ?_ aS) ?_;focus omega));(refine jG (aa 18 92155) 9 F (aj F F aS F F) ?_);((refine jG (aa 18 94203) 11 F (ak F F ?_) ?_;focus omega));((refine jG (aa 18 98299) 12 F (gY F F aS ?_ aS) ?_;focus omega));refine jA 2 F ?_;(refine ae F F F cx_pt F ?_);refine jK (aa 18 98303) ?_;refine jA 15 F ?_;(refine ar F F F cx_dp F ?_;rintro _ G5 hle5 ⟨pa2,pc2,rfl,hs5⟩);refine jK (aa 18 131071) ?_;refine jA 17 F ?_;(refine lI F F F (cx_bt _ hle5 _ _ hs5) F ?_;rintro _ G6 _ hle6 ⟨av,cv,rfl⟩;dsimp only [zA,fA];(have hle6:=Gh.le.trans hle5 hle6));refine jK (aa 18 262143) ?_;refine jQ ?_)
  all_goals repeat' (refine jM ?_)
  all_goals exact br (i + 1,av,cv,G6) ⟨by dsimp only;omega,hgq.trans hle6⟩ (by dsimp only;omega) tU rfl (by dsimp only;rw [hN1,hN2];repeat (exact List.Sublist.refl _))
 ·obtain rfl : i = ks1.length:=oM
  repeat' (first | refine jR ?_ | refine ad F (aH oM) ?_)
  exact aX (vs:=[]) F trivial F bc ⟨hG.trans hgq,_,_,F⟩
--?fin
--?s0
open Go.Proofs
variable {G : Gh}
theorem t9 {ts : List Ty} {n : Nat} {k k1 : ael} {a w y z : V} {q : List Int} {i : Int} (ho : ¬ a.out = w.out) (hd : bZ a w = true) (hs : aU a w = [i]) (e1 : aB ts k a i = some (k1,y)) (e2 : aB ts k w i = some (k1,z)) : bB ts (n + 1) k a w q = bB ts n k1 y z (q ++ [i]):=by
 rw [bB,if_neg ho,if_pos hd,hs,List.flatMap_singleton,e1,e2]
theorem acG {b n : Nat} {qs : List c8} {k : ael} {v1 v2 : V} (hw : SchW (al qs)) (ta : (V.nd 63 [] 0 [v1]).tot ≤ 1000000) (tw : (V.nd 63 [] 0 [v2]).tot ≤ 1000000)
  (ho : ¬ (V.nd 63 [] 0 [v1]).out = (V.nd 63 [] 0 [v2]).out) (ih : mS b qs n k v1 v2) : mS b qs (n + 1) (63 :: k) (.nd 63 [] 0 [v1]) (.nd 63 [] 0 [v2]):=by
 intro G ca cw q m0 pa pc bu p m cap out hS hra hrw hm0 hsp hq hql hm hmx
 have hd : bZ (.nd 63 [] 0 [v1]) (.nd 63 [] 0 [v2]) = true:=rfl
 have e:=t9 (ts:=al qs) (n:=n) (k:=63 :: k) (k1:=k) (y:=v1) (z:=v2) (q:=q) (i:=0) ho hd rfl (by rw [dZ (.inr rfl)];rfl) (by rw [dZ (.inr rfl)];rfl)
 rw [e] at hmx ⊢
 obtain ⟨ka,kc,cs,rfl,_,_,_,hcl,hsk,hrs⟩:=cU hra
 obtain ⟨ka2,kc2,cs2,rfl,_,_,_,hcl2,hsk2,hrs2⟩:=cU hrw
 obtain ⟨f1,f2,f3,_⟩:=ic (c:=63) (k:=k) (.inr rfl)
 have e1 : be ⟨63,[],0,ka,([v1] : List V).length,kc⟩ = [U8 (63 : Nat),S [],I 0,.slice ka 1 kc]:=rfl
 have e2 : be ⟨63,[],0,ka2,([v2] : List V).length,kc2⟩ = [U8 (63 : Nat),S [],I 0,.slice ka2 1 kc2]:=rfl
 rw [e1,e2]
 rw [show cT (63 :: k) = [S (63 :: sg k),S (bs k),S (nm k)] by unfold cT;rw [f1,f2,f3]]
 rw [V.reps] at hrs hrs2
 obtain ⟨c1,cs1,rfl,hr1,hr1'⟩:=hrs
 obtain ⟨c2,cs3,rfl,hr2,hr2'⟩:=hrs2
 rw [V.reps] at hr1' hr2'
 subst hr1' hr2'
 have hsk : aN G (.slice ka 1 kc) 4 ([c1] : List VC).length (ag be [c1]):=hsk
 have hsk2 : aN G (.slice ka2 1 kc2) 4 ([c2] : List VC).length (ag be [c2]):=hsk2
 have hq2 : ∀ n ∈ q ++ [(0 : Int)],0 ≤ n ∧ n ≤ 999999:=lr hq ⟨oM,oM⟩
 have cx_pr0:=ta
 refine bM [(0,_),(1,_),(2,_),(3,_),(4,_),(5,_)] Tryz.func26 kR Tryz.ntmps26 F F tU fun B hB hW=>?_
 repeat' (first | refine jR ?_ | (refine jo ?_;refine jO fun _=>?_))
 rename_i x7 x8 x9 x10
 refine Nx.sealC (b:=x7) fun G1 h1 s7=>?_
 refine Nx.sealC (b:=x8) fun G2 h2 s8=>?_
 refine Nx.sealC (b:=x9) fun G3 h3 s9=>?_
 refine Nx.sealC (b:=x10) fun G4 h4 s10=>?_
 have s7:=((s7.mono h2).mono h3).mono h4
 have s8:=(s8.mono h3).mono h4
 have s9:=s9.mono h4
 have hG:=((h1.trans h2).trans h3).trans h4
 have cx_pr:=ew (G:=G4) _ (Nat.le_refl _) ta (aD hG hra)
 have cx_pr2:=ew (G:=G4) _ (Nat.le_refl _) tw (aD hG hrw)
 rw [e1] at cx_pr
 rw [e2] at cx_pr2
 (refine an (ao (id:=1) _ (fun _ h=>h) am ?_);(refine jG (aa 5 1) 0 F (db F F aS F F) ?_);(refine jG (aa 5 5) 2 F (db F F aS F F) ?_);refine jA 1 F ?_;(refine ae F F F cx_pr F ?_);refine jS (aa 5 7) ?_;refine jA 3 F ?_;(refine ae F F F cx_pr2 F ?_);refine jS (aa 5 15) ?_;refine jT 0 [4] (aa 5 31) ?_;refine jQ ?_)
 obtain ⟨xb,xo,xc,ee,hsx⟩:=(hsk.mono hG).expl (by simp)
 simp only [Value.slice.injEq] at ee
 obtain ⟨rfl,-,rfl⟩:=ee
 obtain ⟨yb,yo,yc,ee,hsy⟩:=(hsk2.mono hG).expl (by simp)
 simp only [Value.slice.injEq] at ee
 obtain ⟨rfl,-,rfl⟩:=ee
 have hxi : ab [c1] (Int.toNat 0) = c1:=rfl
 have hyi : ab [c2] (Int.toNat 0) = c2:=rfl
 have cx_pt:=@lG G4 63 (sg k) (bs k) (nm k)
 have cx_dp:=mH (G:=G4) (i:=0) s10 hm0 (hsp.mono hG) ⟨oM,oM⟩ oM
 have cx_bt:=fun (G5 : Gh) (h5 : Gh.le G4 G5) (pa2 : Option Addr) (pc2 : Nat) (hs5 : aN G5 (.slice pa2 (m0 + 1) pc2) 1 (m0 + 1) (ag dc ((q ++ [(0 : Int)]).map bi))) =>
  ih G5 c1 c2 (q ++ [(0 : Int)]) (m0 + 1) pa2 pc2 bu p m cap out (hS.mono (hG.trans h5)) (aD (hG.trans h5) hr1) (aD (hG.trans h5) hr2) (by rw [List.length_append,hm0];rfl) hs5 hq2 (by rw [List.length_append,List.length_singleton];omega) hm hmx
 unfold cT at cx_bt
 repeat' (first | refine jR ?_ | (refine jo ?_;first | refine jV (eF F F aS F) ?_ | refine jV (aj F F aS F F) ?_ | refine jV (ml F F) ?_ | refine jV (af F) ?_ | refine aP F ?_ | refine aE F ?_) | refine aF F F F ?_ | refine aw F F F ?_ | refine ac F F ?_ | (refine ad F (by first | rfl | (refine decide_eq_false ?_;(assumption))) ?_))
 (refine an (ao (id:=10) [] (fun _ h=>absurd h (by simp)) am ?_);refine jW 10 [0,3,7,11,13] (aa 15 10377) ?_;(refine jG (aa 15 10379) 1 F (db F F aS F F) ?_);(refine jG (aa 15 10395) 4 F (aj F F aS F F) ?_);((refine jG (aa 15 10427) 5 F (aT F F ?_) ?_;focus omega));(refine jG (aa 15 10491) 6 F (db F F aS F F) ?_);(refine jG (aa 15 10747) 8 F (aj F F aS F F) ?_);((refine jG (aa 15 11259) 9 F (aT F F ?_) ?_;focus omega));(refine jG (aa 15 12283) 10 F (db F F aS F F) ?_);refine jA 2 F ?_;(refine ae F F F cx_pt F ?_);refine jK (aa 15 12287) ?_;refine jA 12 F ?_;(refine ar F F F cx_dp F ?_;rintro _ G5 hle5 ⟨pa2,pc2,rfl,hs5⟩);refine jK (aa 15 16383) ?_;refine jA 14 F ?_;(refine lI F F F (cx_bt _ hle5 _ _ hs5) F ?_;rintro _ G6 _ hle6 ⟨av,cv,rfl⟩;dsimp only [zA,fA];(have hle6:=Gh.le.trans hle5 hle6));refine jK (aa 15 32767) ?_;refine jQ ?_)
 all_goals repeat' (refine jR ?_)
 all_goals exact aX (vs:=[]) F trivial F bc ⟨hG.trans hle6,_,_,F⟩
theorem acE {b n : Nat} {qs : List c8} {k : ael} {t : Ty} {d : Fld} {v1 v2 : V} (hw : SchW (al qs)) (hki : ax (al qs) k = true) (hrf : aZ (al qs) k = some t) (hs82 : t.sort ≠ 82) (hs69 : t.sort ≠ 69) (hdm : d ∈ t.fields) (ta : (V.nd 85 [] d.tag [v1]).tot ≤ 1000000) (tw : (V.nd 85 [] d.tag [v2]).tot ≤ 1000000)
  (ho : ¬ (V.nd 85 [] d.tag [v1]).out = (V.nd 85 [] d.tag [v2]).out) (hst : aU (.nd 85 [] d.tag [v1]) (.nd 85 [] d.tag [v2]) = [d.tag]) (ih : mS b qs n d.kind v1 v2) : mS b qs (n + 1) k (.nd 85 [] d.tag [v1]) (.nd 85 [] d.tag [v2]):=by
 intro G ca cw q m0 pa pc bu p m cap out hS hra hrw hm0 hsp hq hql hm hmx
 have hTW:=hw.ty t (bj hrf)
 have hdt:=(hTW.fld d hdm).tag
 have hfd : cm t.fields d.tag = some d:=by
  cases h : cm t.fields d.tag with
  | none =>
   have:=List.find?_eq_none.1 h d hdm
   simp at this
  | some f =>
   have h1:=List.mem_of_find?_eq_some h
   have h2 : f.tag = d.tag:=by have:=List.find?_some h;simpa using this
   rw [fe hTW h1 hdm h2]
 have hd : bZ (.nd 85 [] d.tag [v1]) (.nd 85 [] d.tag [v2]) = true:=by unfold bZ;rw [V.what,if_neg dC,if_pos rfl];exact decide_eq_true F
 have e:=t9 (ts:=al qs) (n:=n) (k:=k) (k1:=d.kind) (y:=v1) (z:=v2) (q:=q) (i:=d.tag) ho hd hst
  (by rw [eB hrf,hfd];dsimp only;rw [if_neg hs69,if_neg hs82,if_pos (show V.tag (.nd 85 [] d.tag [v1]) = d.tag from rfl)];rfl) (by rw [eB hrf,hfd];dsimp only;rw [if_neg hs69,if_neg hs82,if_pos (show V.tag (.nd 85 [] d.tag [v2]) = d.tag from rfl)];rfl)
 rw [e] at hmx ⊢
 obtain ⟨hkd,pt,hfq,hqm⟩:=mc hki hrf
 obtain ⟨fv,ln,hsg,hfv⟩:=hS.ty _ hqm
 dsimp only at hsg hfv
 have hkv:=f7 qs (nm k)
 rw [hfq] at hkv
 dsimp only [Option.map_some] at hkv
 obtain ⟨u,mm,g1,g2,g3⟩:=hS.at'
 have hfl:=hTW.len
 obtain ⟨j,hj,hjf,hjn,hjx⟩:=gF hfd
 obtain ⟨bf,of,cf,rfl,hsf⟩:=hfv.expl oM
 rw [hkd]
 obtain ⟨ka,kc,cs,rfl,_,_,_,hcl,hsk,hrs⟩:=cU hra
 obtain ⟨ka2,kc2,cs2,rfl,_,_,_,hcl2,hsk2,hrs2⟩:=cU hrw
 have e1 : be ⟨85,[],d.tag,ka,([v1] : List V).length,kc⟩ = [U8 (85 : Nat),S [],I d.tag,.slice ka 1 kc]:=rfl
 have e2 : be ⟨85,[],d.tag,ka2,([v2] : List V).length,kc2⟩ = [U8 (85 : Nat),S [],I d.tag,.slice ka2 1 kc2]:=rfl
 rw [e1,e2]
 rw [V.reps] at hrs hrs2
 obtain ⟨c1,cs1,rfl,hr1,hr1'⟩:=hrs
 obtain ⟨c2,cs3,rfl,hr2,hr2'⟩:=hrs2
 rw [V.reps] at hr1' hr2'
 subst hr1' hr2'
 have hsk : aN G (.slice ka 1 kc) 4 ([c1] : List VC).length (ag be [c1]):=hsk
 have hsk2 : aN G (.slice ka2 1 kc2) 4 ([c2] : List VC).length (ag be [c2]):=hsk2
 have hq2 : ∀ n ∈ q ++ [d.tag],0 ≤ n ∧ n ≤ 999999:=lr hq ⟨oM,oM⟩
 refine bM [(0,_),(1,_),(2,_),(3,_),(4,_),(5,_)] Tryz.func26 kR Tryz.ntmps26 F F tU fun B hB hW=>?_
 repeat' (first | refine jR ?_ | (refine jo ?_;refine jO fun _=>?_))
 rename_i x7 x8 x9 x10
 refine Nx.sealC (b:=x7) fun G1 h1 s7=>?_
 refine Nx.sealC (b:=x8) fun G2 h2 s8=>?_
 refine Nx.sealC (b:=x9) fun G3 h3 s9=>?_
 refine Nx.sealC (b:=x10) fun G4 h4 s10=>?_
 have s7:=((s7.mono h2).mono h3).mono h4
 have s8:=(s8.mono h3).mono h4
 have s9:=s9.mono h4
 have hG:=((h1.trans h2).trans h3).trans h4
 have cx_pr:=ew (G:=G4) _ (Nat.le_refl _) ta (aD hG hra)
 have cx_pr2:=ew (G:=G4) _ (Nat.le_refl _) tw (aD hG hrw)
 rw [e1] at cx_pr
 rw [e2] at cx_pr2
 (refine an (ao (id:=1) _ (fun _ h=>h) am ?_);(refine jG (aa 5 1) 0 F (db F F aS F F) ?_);(refine jG (aa 5 5) 2 F (db F F aS F F) ?_);refine jA 1 F ?_;(refine ae F F F cx_pr F ?_);refine jS (aa 5 7) ?_;refine jA 3 F ?_;(refine ae F F F cx_pr2 F ?_);refine jS (aa 5 15) ?_;refine jT 0 [4] (aa 5 31) ?_;refine jQ ?_)
 obtain ⟨xb,xo,xc,ee,hsx⟩:=(hsk.mono hG).expl (by simp)
 simp only [Value.slice.injEq] at ee
 obtain ⟨rfl,-,rfl⟩:=ee
 obtain ⟨yb,yo,yc,ee,hsy⟩:=(hsk2.mono hG).expl (by simp)
 simp only [Value.slice.injEq] at ee
 obtain ⟨rfl,-,rfl⟩:=ee
 have hxi : ab [c1] (Int.toNat 0) = c1:=rfl
 have hyi : ab [c2] (Int.toNat 0) = c2:=rfl
 have hsg:=hsg.mono hG
 have hsf:=hsf.mono hG
 have g1:=g1.mono hG
 have g3:=hG _ _ g3
 have cx_fld:=gM hsg hsf oM hj hjf hjn
 have cx_dp:=mH (G:=G4) (i:=d.tag) s10 hm0 (hsp.mono hG) ⟨oM,oM⟩ oM
 have cx_bt:=fun (G5 : Gh) (h5 : Gh.le G4 G5) (pa2 : Option Addr) (pc2 : Nat) (hs5 : aN G5 (.slice pa2 (m0 + 1) pc2) 1 (m0 + 1) (ag dc ((q ++ [d.tag]).map bi))) =>
  ih G5 c1 c2 (q ++ [d.tag]) (m0 + 1) pa2 pc2 bu p m cap out (hS.mono (hG.trans h5)) (aD (hG.trans h5) hr1) (aD (hG.trans h5) hr2) (by rw [List.length_append,hm0];rfl) hs5 hq2 (by rw [List.length_append,List.length_singleton];omega) hm hmx
 unfold cT at cx_bt
 rw [show sg d.kind = sg (ab t.fields j).kind by rw [hjx],show bs d.kind = bs (ab t.fields j).kind by rw [hjx],show nm d.kind = nm (ab t.fields j).kind by rw [hjx]] at cx_bt
 repeat' (first | refine jR ?_ | (refine jo ?_;first | refine jV (eF F F aS F) ?_ | refine jV (aj F F aS F F) ?_ | refine jV (ml F F) ?_ | refine aP F ?_ | refine aE F ?_) | refine aF F F F ?_ | refine aw F F F ?_ | refine ac F ‹_› ?_ | (refine ad F (by first | rfl | (refine decide_eq_false ?_;(assumption))) ?_))
 (refine an (ao (id:=12) [] (fun _ h=>absurd h (by simp)) am ?_);refine jW 17 [0,1,2,3,5,8,14,18,22,23,26] (aa 28 79970607) ?_;(refine jG (aa 28 79970623) 4 F (aj F F aS F F) ?_);(refine jG (aa 28 79970687) 6 F (aj F F aS F F) ?_);((refine jG (aa 28 79970815) 7 F (dh F F (f6 aS) aS F) ?_));(refine jG (aa 28 79971327) 9 F (aj F F aS F F) ?_);(refine jG (aa 28 80004095) 15 F (aj F F aS F F) ?_);((refine jG (aa 28 80069631) 16 F (aT F F ?_) ?_;focus omega));(refine jG (aa 28 80200703) 17 F (db F F aS F F) ?_);(refine jG (aa 28 80724991) 19 F (aj F F aS F F) ?_);((refine jG (aa 28 81773567) 20 F (aT F F ?_) ?_;focus omega));(refine jG (aa 28 83870719) 21 F (db F F aS F F) ?_);(refine jG (aa 28 100647935) 24 F (aj F F aS F F) ?_);refine jA 10 F ?_;(refine ae F F F cx_fld F ?_);refine jK (aa 28 100648959) ?_;refine jW 3 [11,12] (aa 28 100655103) ?_;((refine jG (aa 28 100663295) 13 F (gi F F aS ?_ F F) ?_;focus omega));refine jA 25 F ?_;(refine ar F F F cx_dp F ?_;rintro _ G5 hle5 ⟨pa2,pc2,rfl,hs5⟩);refine jK (aa 28 134217727) ?_;refine jA 27 F ?_;(refine lI F F F (cx_bt _ hle5 _ _ hs5) F ?_;rintro _ G6 _ hle6 ⟨av,cv,rfl⟩;dsimp only [zA,fA];(have hle6:=Gh.le.trans hle5 hle6));refine jK (aa 28 268435455) ?_;refine jQ ?_)
 all_goals repeat' (refine jR ?_)
 all_goals exact aX (vs:=[]) F trivial F bc ⟨hG.trans hle6,_,_,F⟩
--?fin
--?s0
open Go.Proofs
variable {G : Gh}
theorem sT : ∀ {a b : List Int},a.Pairwise (· < ·) → b.Pairwise (· < ·) → (∀ x,x ∈ a ↔ x ∈ b) → a = b
 | [],[],_,_,_=>rfl
 | [],y :: b,_,_,h=>by have:=(h y).2 (by simp);cases this
 | x :: a,[],_,_,h=>by have:=(h x).1 (by simp);cases this
 | x :: a,y :: b,ha,hb,h=>by
  replace ha:=List.pairwise_cons.1 ha
  replace hb:=List.pairwise_cons.1 hb
  have e : x = y:=by
   rcases List.mem_cons.1 ((h x).1 (by simp)) with e | h1
   ·exact e
   ·rcases List.mem_cons.1 ((h y).2 (by simp)) with e | h2
    ·exact e.symm
    ·have:=hb.1 x h1
     have:=ha.1 y h2
     omega
  subst e
  rw [sT ha.2 hb.2 fun z=>⟨fun hz=>?_,fun hz=>?_⟩]
  ·rcases List.mem_cons.1 ((h z).1 (by simp [hz])) with e | h1
   ·have:=ha.1 z hz;omega
   ·exact h1
  ·rcases List.mem_cons.1 ((h z).2 (by simp [hz])) with e | h1
   ·have:=hb.1 z hz;omega
   ·exact h1
def jy (a w : V) (f : Fld) : Bool:=(cM a).contains f.tag || (cM w).contains f.tag
def pZ (ts : List Ty) (n : Nat) (k : ael) (a w : V) (q : List Int) (f : Fld) : List (List Int × V):=if jy a w f = true then uZ ts n k a w q f.tag else []
def jq (ts : List Ty) (n : Nat) (k : ael) (a w : V) (q : List Int) (fs : List Fld) (j : Nat) : List (List Int × V):=(fs.take j).flatMap (pZ ts n k a w q)
theorem yA {ts : List Ty} {n : Nat} {k : ael} {a w : V} {q : List Int} {fs : List Fld} {j : Nat} (hj : j < fs.length) : jq ts n k a w q fs (j + 1) = jq ts n k a w q fs j ++ pZ ts n k a w q (ab fs j):=by
 unfold jq
 rw [dO hj,List.flatMap_append,List.flatMap_singleton]
theorem abA {ts : List Ty} {n : Nat} {k : ael} {a w : V} {q : List Int} {fs : List Fld} (j : Nat) : (jq ts n k a w q fs j).length ≤ (jq ts n k a w q fs fs.length).length:=by
 unfold jq
 rw [List.take_length]
 conv=>rhs;rw [← List.take_append_drop j fs,List.flatMap_append,List.length_append]
 omega
theorem rS (ts : List Ty) (n : Nat) (k : ael) (a w : V) (q : List Int) : ∀ fs : List Fld,fs.flatMap (pZ ts n k a w q) = ((fs.filter (jy a w)).map Fld.tag).flatMap (uZ ts n k a w q)
 | []=>rfl
 | f :: fs=>by
  rw [List.flatMap_cons,rS ts n k a w q fs]
  by_cases h : jy a w f = true
  ·rw [List.filter_cons_of_pos h,List.map_cons,List.flatMap_cons,pZ,if_pos h]
  ·rw [List.filter_cons_of_neg h,pZ,if_neg h,List.nil_append]
theorem aag {ts : List Ty} (hw : SchW ts) {n : Nat} {k : ael} {t : Ty} (hr : aZ ts k = some t) {fs gs : List (Fld × V)} (hf : ∀ p ∈ fs,p.1 ∈ t.fields) (hg : ∀ p ∈ gs,p.1 ∈ t.fields) {q : List Int} (ho : ¬ (V.nd 82 [] 0 (fs.map aq)).out = (V.nd 82 [] 0 (gs.map aq)).out) :
  bB ts (n + 1) k (.nd 82 [] 0 (fs.map aq)) (.nd 82 [] 0 (gs.map aq)) q = jq ts n k (.nd 82 [] 0 (fs.map aq)) (.nd 82 [] 0 (gs.map aq)) q t.fields t.fields.length:=by
 have hTW:=hw.ty t (bj hr)
 have hd : bZ (.nd 82 [] 0 (fs.map aq)) (.nd 82 [] 0 (gs.map aq)) = true:=by unfold bZ;rw [V.what,if_pos rfl]
 rw [bB,if_neg ho,if_pos hd]
 unfold jq
 rw [List.take_length,rS]
 have hna : ¬ ((V.nd 82 [] 0 (fs.map aq)).what = 91 ∨ (V.nd 82 [] 0 (fs.map aq)).what = 63):=by rw [V.what];omega
 have e : aU (.nd 82 [] 0 (fs.map aq)) (.nd 82 [] 0 (gs.map aq)) = (t.fields.filter (jy (.nd 82 [] 0 (fs.map aq)) (.nd 82 [] 0 (gs.map aq)))).map Fld.tag:=by
  refine sT (gv _ _) ?_ fun x=>⟨fun h=>?_,fun h=>?_⟩
  ·exact List.pairwise_map.2 ((hTW.asc.imp fun h=>h.1).filter _)
  ·have hx : ∃ f ∈ t.fields,f.tag = x:=by
    rcases ia hna h with h | h
    ·obtain ⟨p,hp,e⟩:=hY.1 h;exact ⟨p.1,hf p hp,e⟩
    ·obtain ⟨p,hp,e⟩:=hY.1 h;exact ⟨p.1,hg p hp,e⟩
   obtain ⟨f,hf1,rfl⟩:=hx
   refine List.mem_map.2 ⟨f,List.mem_filter.2 ⟨hf1,?_⟩,F⟩
   unfold jy
   rw [Bool.or_eq_true,List.contains_iff_mem,List.contains_iff_mem]
   exact ia hna h
  ·obtain ⟨f,hf1,rfl⟩:=List.mem_map.1 h
   obtain ⟨hf2,hf3⟩:=List.mem_filter.1 hf1
   unfold jy at hf3
   rw [Bool.or_eq_true,List.contains_iff_mem,List.contains_iff_mem] at hf3
   exact im hna (hTW.fld f hf2).tag hf3
 rw [e]
 rfl
theorem mT {f : Fld} : ∀ {ks : List V} {cs : List VC},V.reps G ks cs → g8 f cs = (ks.map V.tag).contains f.tag
 | [],cs,h=>by rw [V.reps] at h;subst h;rfl
 | v :: ks,cs,h=>by
  rw [V.reps] at h
  obtain ⟨c,cs',rfl,h1,h2⟩:=h
  obtain ⟨w,x,t,vs⟩:=v
  obtain ⟨a,k,c',rfl,_⟩:=cU h1
  have ih:=mT (f:=f) h2
  unfold g8 at ih ⊢
  rw [List.any_cons,ih,List.map_cons,List.contains_cons]
  congr 1
  show decide (t = f.tag) = (f.tag == t)
  by_cases e : t = f.tag
  ·subst e;simp
  ·rw [decide_eq_false e];symm;simpa using fun h=>e h.symm
theorem qV {t : Ty} (hTW : TyW t) {f : Fld} (hf : f ∈ t.fields) : cm t.fields f.tag = some f:=by
 cases h : cm t.fields f.tag with
 | none =>
  have:=List.find?_eq_none.1 h f hf
  simp at this
 | some g =>
  have h1:=List.mem_of_find?_eq_some h
  have h2 : g.tag = f.tag:=by have:=List.find?_some h;simpa using this
  rw [fe hTW h1 hf h2]
theorem acF {b n : Nat} {qs : List c8} {k : ael} {t : Ty} {fs gs : List (Fld × V)} (hw : SchW (al qs)) (hki : ax (al qs) k = true) (hrf : aZ (al qs) k = some t) (hso : t.sort = 82) (hfm : ∀ p ∈ fs,p.1 ∈ t.fields) (hgm : ∀ p ∈ gs,p.1 ∈ t.fields) (ta : (V.nd 82 [] 0 (fs.map aq)).tot ≤ 1000000) (tw : (V.nd 82 [] 0 (gs.map aq)).tot ≤ 1000000)
  (ho : ¬ (V.nd 82 [] 0 (fs.map aq)).out = (V.nd 82 [] 0 (gs.map aq)).out) (ih : ∀ f ∈ t.fields,jy (.nd 82 [] 0 (fs.map aq)) (.nd 82 [] 0 (gs.map aq)) f = true → mS b qs n f.kind (cZ (al qs) (.nd 82 [] 0 (fs.map aq)) f) (cZ (al qs) (.nd 82 [] 0 (gs.map aq)) f)) :
  mS b qs (n + 1) k (.nd 82 [] 0 (fs.map aq)) (.nd 82 [] 0 (gs.map aq)):=by
 intro G ca cw q m0 pa pc bu p m cap out hS hra hrw hm0 hsp hq hql hm hmx
 have hTW:=hw.ty t (bj hrf)
 have e:=aag (n:=n) (q:=q) hw hrf hfm hgm ho
 rw [e] at hmx ⊢
 clear e
 obtain ⟨hkd,pt,hfq,hqm⟩:=mc hki hrf
 obtain ⟨fv,ln,hsg,hfv⟩:=hS.ty _ hqm
 dsimp only at hsg hfv
 have hkv:=f7 qs (nm k)
 rw [hfq] at hkv
 dsimp only [Option.map_some] at hkv
 obtain ⟨u,mm,g1,g2,g3⟩:=hS.at'
 have hfl:=hTW.len
 have htm:=bj hrf
 rw [hkd]
 have hll : fs.length ≤ 1000000:=by
  have h7:=dq (fs.map aq)
  rw [bK] at ta
  have e1 : (fs.map aq).length = fs.length:=by simp
  omega
 have hlg : gs.length ≤ 1000000:=by
  have h7:=dq (gs.map aq)
  rw [bK] at tw
  have e1 : (gs.map aq).length = gs.length:=by simp
  omega
 obtain ⟨ka,kc,cs,rfl,_,_,_,hcl,hsk,hrs⟩:=cU hra
 obtain ⟨ka2,kc2,cs2,rfl,_,_,_,hcl2,hsk2,hrs2⟩:=cU hrw
 have hml : (fs.map aq).length = fs.length:=by simp
 have hml2 : (gs.map aq).length = gs.length:=by simp
 have e1 : be ⟨82,[],0,ka,(fs.map aq).length,kc⟩ = [U8 (82 : Nat),S [],I 0,.slice ka fs.length kc]:=by rw [← hml];rfl
 have e2 : be ⟨82,[],0,ka2,(gs.map aq).length,kc2⟩ = [U8 (82 : Nat),S [],I 0,.slice ka2 gs.length kc2]:=by rw [← hml2];rfl
 rw [e1,e2]
 have hsk : aN G (.slice ka fs.length kc) 4 fs.length (ag be cs):=by have h:=hsk;rw [hcl,hml] at h;exact h
 have hsk2 : aN G (.slice ka2 gs.length kc2) 4 gs.length (ag be cs2):=by have h:=hsk2;rw [hcl2,hml2] at h;exact h
 have hcl : fs.length = cs.length:=oM
 have hcl2 : gs.length = cs2.length:=oM
 have ht1 : ∀ f,g8 f cs = (cM (.nd 82 [] 0 (fs.map aq))).contains f.tag:=fun f=>by rw [mT hrs];unfold cM;rw [V.what,if_pos rfl,V.kids]
 have ht2 : ∀ f,g8 f cs2 = (cM (.nd 82 [] 0 (gs.map aq))).contains f.tag:=fun f=>by rw [mT hrs2];unfold cM;rw [V.what,if_pos rfl,V.kids]
 have hg1:=fun (G5 : Gh) (h5 : Gh.le G G5) (i bf of : Nat) (hi : i < t.fields.length) (hsf : bU G5 bf of (ag gG t.fields))=>uo (G:=G5) (hS.mono h5) hw htm hso hsf hi (aD h5 hra) hll
 have hg2:=fun (G5 : Gh) (h5 : Gh.le G G5) (i bf of : Nat) (hi : i < t.fields.length) (hsf : bU G5 bf of (ag gG t.fields))=>uo (G:=G5) (hS.mono h5) hw htm hso hsf hi (aD h5 hrw) hlg
 rw [e1] at hg1
 rw [e2] at hg2
 have hstD : ∀ f ∈ t.fields,uZ (al qs) n k (.nd 82 [] 0 (fs.map aq)) (.nd 82 [] 0 (gs.map aq)) q f.tag = bB (al qs) n f.kind (cZ (al qs) (.nd 82 [] 0 (fs.map aq)) f) (cZ (al qs) (.nd 82 [] 0 (gs.map aq)) f) (q ++ [f.tag]):=fun f hf=>by
  have hfd:=qV hTW hf
  have hv : ∀ v : V,aB (al qs) k v f.tag = some (f.kind,cZ (al qs) v f):=fun v=>by
   rw [eB hrf,hfd]
   dsimp only
   rw [if_neg oM,if_pos hso]
  unfold uZ
  rw [hv,hv]
 generalize hA : V.nd 82 [] 0 (fs.map aq) = A at *
 generalize hW : V.nd 82 [] 0 (gs.map aq) = W at *
 refine bM [(0,_),(1,_),(2,_),(3,_),(4,_),(5,_)] Tryz.func26 kR Tryz.ntmps26 F F tU fun B hB hW=>?_
 repeat' (first | refine jR ?_ | (refine jo ?_;refine jO fun _=>?_))
 rename_i x7 x8 x9 x10
 refine Nx.sealC (b:=x7) fun G1 h1 s7=>?_
 refine Nx.sealC (b:=x8) fun G2 h2 s8=>?_
 refine Nx.sealC (b:=x9) fun G3 h3 s9=>?_
 refine Nx.sealC (b:=x10) fun G4 h4 s10=>?_
 have s7:=((s7.mono h2).mono h3).mono h4
 have s8:=(s8.mono h3).mono h4
 have s9:=s9.mono h4
 have hG:=((h1.trans h2).trans h3).trans h4
 have cx_pr:=ew (G:=G4) _ (Nat.le_refl _) ta (aD hG hra)
 have cx_pr2:=ew (G:=G4) _ (Nat.le_refl _) tw (aD hG hrw)
 rw [e1] at cx_pr
 rw [e2] at cx_pr2
 (refine an (ao (id:=1) _ (fun _ h=>h) am ?_);(refine jG (aa 5 1) 0 F (db F F aS F F) ?_);(refine jG (aa 5 5) 2 F (db F F aS F F) ?_);refine jA 1 F ?_;(refine ae F F F cx_pr F ?_);refine jS (aa 5 7) ?_;refine jA 3 F ?_;(refine ae F F F cx_pr2 F ?_);refine jS (aa 5 15) ?_;refine jT 0 [4] (aa 5 31) ?_;refine jQ ?_)
 have hsg:=hsg.mono hG
 have g1:=g1.mono hG
 have g3:=hG _ _ g3
 repeat' (first | refine jR ?_ | (refine jo ?_;first | refine jV (eF F F aS F) ?_ | refine jV (ml F F) ?_ | refine aE F ?_) | refine aw F F F ?_ | refine ac F F ?_ | (refine ad F (by first | rfl | (refine decide_eq_false ?_;(assumption))) ?_))
 (refine an (ao (id:=14) _ (fun _ h=>h) am ?_);refine jT 4 [0,1,2,4] (aa 8 23) ?_;(refine jG (aa 8 31) 3 F (aj F F aS F F) ?_);(refine jG (aa 8 63) 5 F (aj F F aS F F) ?_);((refine jG (aa 8 127) 6 F (dh F F (f6 aS) aS F) ?_));refine jT 0 [7] (aa 8 255) ?_;refine jQ ?_)
 repeat' (first | refine jR ?_ | (refine jo ?_;first | refine jV (aj F F aS F F) ?_ | refine jV (eL F aS) ?_))
 rw [show ag dk out = ag dk (out ++ (jq (al qs) n k A W q t.fields 0).map c6) by rw [show jq (al qs) n k A W q t.fields 0 = [] from rfl,List.map_nil,List.append_nil]]
 refine aW (ι:=Nat × Option Addr × Nat × Gh) (fun i=>i.1 ≤ t.fields.length ∧ Gh.le G4 i.2.2.2) (fun i=>[(0,Pt b 0),(5,Pt bu 0),(7,Pt x7 0),(8,Pt x8 0),(9,Pt x9 0),(12,.func (.func fDp) (List.toArray []) (List.toArray [Pt x10 0])),(14,Pt pt 0),(147,I t.fields.length),(148,I i.1)]) (fun i=>i.2.2.2) (fun i=>[.acc (.slice i.2.1 (m + (jq (al qs) n k A W q t.fields i.1).length) i.2.2.1) g9 2 (m + (jq (al qs) n k A W q t.fields i.1).length) (ag dk (out ++ (jq (al qs) n k A W q t.fields i.1).map c6)),zE bu (.slice i.2.1 (m + (jq (al qs) n k A W q t.fields i.1).length) i.2.2.1)]) (fun i=>t.fields.length - i.1) (0,p,cap,G4) ?_ tU F bc (fun i Hi=>?_)
 ·exact ⟨Nat.zero_le _,Gh.le.refl _⟩
 obtain ⟨i,p,cap,Gq⟩:=i
 dsimp only at Hi ⊢
 obtain ⟨hi0,hgq⟩:=Hi
 by_cases hi : i < t.fields.length
 ·have hfm:=bC hi
  have hft:=(hTW.fld _ hfm).tag
  have hGq:=hG.trans hgq
  obtain ⟨bf,of,cf,rfl,hsf⟩:=(hfv.mono hGq).expl oM
  have hsg:=hsg.mono hgq
  have s8:=s8.mono hgq
  have s9:=s9.mono hgq
  repeat' (first | refine jR ?_ | (refine jo ?_;first | refine jV (aj F F aS F F) ?_ | refine jV (ml F F) ?_ | refine jV (ak F F oM) ?_ | refine jL fun _=>?_ | refine jD F F F ?_) | refine ac F (aA oM) ?_)
  rename_i x16
  refine Nx.sealC (b:=x16) fun Gs hs s16=>?_
  have hGs:=hGq.trans hs
  have hsf:=hsf.mono hs
  have cx_ct1:=qv (G:=Gs) s16 hsf hi hcl (hsk.mono hGs) hll
  have cx_ct2:=qv (G:=Gs) s16 hsf hi hcl2 (hsk2.mono hGs) hlg
  rw [ht1] at cx_ct1
  rw [ht2] at cx_ct2
  have s8:=s8.mono hs
  have s9:=s9.mono hs
  have s10:=(s10.mono hgq).mono hs
  have hps:=yA (ts:=al qs) (n:=n) (k:=k) (a:=A) (w:=W) (q:=q) hi
  have hpe:=abA (ts:=al qs) (n:=n) (k:=k) (a:=A) (w:=W) (q:=q) (fs:=t.fields) (i + 1)
  by_cases hT : jy A W (ab t.fields i) = true
  ·have hpc : pZ (al qs) n k A W q (ab t.fields i) = bB (al qs) n (ab t.fields i).kind (cZ (al qs) A (ab t.fields i)) (cZ (al qs) W (ab t.fields i)) (q ++ [(ab t.fields i).tag]):=by
    rw [pZ,if_pos hT]
    exact hstD _ hfm
   rw [hpc] at hps
   have hbt:=ih _ hfm hT
   generalize hPi : jq (al qs) n k A W q t.fields i = Di at *
   have hN1 : m + (jq (al qs) n k A W q t.fields (i + 1)).length = m + Di.length + (bB (al qs) n (ab t.fields i).kind (cZ (al qs) A (ab t.fields i)) (cZ (al qs) W (ab t.fields i)) (q ++ [(ab t.fields i).tag])).length:=by rw [hps,List.length_append,Nat.add_assoc]
   have hN2 : out ++ (jq (al qs) n k A W q t.fields (i + 1)).map c6 = out ++ Di.map c6 ++ (bB (al qs) n (ab t.fields i).kind (cZ (al qs) A (ab t.fields i)) (cZ (al qs) W (ab t.fields i)) (q ++ [(ab t.fields i).tag])).map c6:=by rw [hps,List.map_append,List.append_assoc]
   have hmo : m + Di.length = (out ++ Di.map c6).length:=by rw [List.length_append,List.length_map,hm]
   have hq2 : ∀ n ∈ q ++ [(ab t.fields i).tag],0 ≤ n ∧ n ≤ 999999:=lr hq ⟨oM,oM⟩
   have cx_g1:=hg1 Gs hGs i bf of hi hsf
   have cx_g2:=fun (G5 : Gh) (h5 : Gh.le Gs G5)=>hg2 G5 (hGs.trans h5) i bf of hi (hsf.mono h5)
   have cx_dp:=fun (G5 : Gh) (h5 : Gh.le Gs G5)=>mH (G:=G5) (i:=(ab t.fields i).tag) (s10.mono h5) hm0 (hsp.mono (hGs.trans h5)) ⟨oM,oM⟩ oM
   have cx_bt:=fun (G5 : Gh) (h5 : Gh.le Gs G5) (d1 d2 : VC) (hd1 : V.rep G5 (cZ (al qs) A (ab t.fields i)) d1) (hd2 : V.rep G5 (cZ (al qs) W (ab t.fields i)) d2) (pa2 : Option Addr) (pc2 : Nat) (hs5 : aN G5 (.slice pa2 (m0 + 1) pc2) 1 (m0 + 1) (ag dc ((q ++ [(ab t.fields i).tag]).map bi))) =>
    hbt G5 d1 d2 (q ++ [(ab t.fields i).tag]) (m0 + 1) pa2 pc2 bu p (m + Di.length) cap (out ++ Di.map c6) (hS.mono (hGs.trans h5)) hd1 hd2 (by rw [List.length_append,hm0];rfl) hs5 hq2 (by rw [List.length_append,List.length_singleton];omega) hmo oM
   unfold cT at cx_bt
   have hor : (cM A).contains (ab t.fields i).tag = true ∨ ((cM A).contains (ab t.fields i).tag = false ∧ (cM W).contains (ab t.fields i).tag = true):=by
    unfold jy at hT
    cases h1 : (cM A).contains (ab t.fields i).tag with
    | true=>exact .inl F
    | false=>rw [h1,Bool.false_or] at hT;exact .inr ⟨F,hT⟩
   rcases hor with h1 | ⟨h1,h2⟩
   ·rw [h1] at cx_ct1
    repeat' (first | refine jR ?_ | (refine jo ?_;first | refine aP F ?_ | refine ae F F F cx_ct1 F ?_) | refine aF F F F ?_ | refine ac F F ?_)
    (refine an (ao (id:=21) [] (fun _ h=>absurd h (by simp)) am ?_);refine jW 16 [0,5,9,13,19] (aa 21 533025) ?_;(refine jG (aa 21 533027) 1 F (eF F F aS F) ?_);refine jW 13 [2,3] (aa 21 533039) ?_;((refine jG (aa 21 533055) 4 F (gi F F aS ?_ F F) ?_;focus omega));(refine jG (aa 21 533119) 6 F (db F F aS F F) ?_);(refine jG (aa 21 533247) 7 F (eF F F aS F) ?_);(refine jG (aa 21 534271) 10 F (db F F aS F F) ?_);(refine jG (aa 21 536319) 11 F (eF F F aS F) ?_);(refine jG (aa 21 552703) 14 F (eF F F aS F) ?_);refine jW 5 [15,16] (aa 21 651007) ?_;((refine jG (aa 21 782079) 17 F (b9 F F aS ?_ F F) ?_;focus omega));refine jA 8 F ?_;(refine ar F F F cx_g1 F ?_;rintro _ Ga ha ⟨cv1,rfl,hr1⟩);refine jK (aa 21 782335) ?_;refine jA 12 F ?_;(refine ar F F F (cx_g2 _ ha) F ?_;rintro _ Gb hb0 ⟨cv2,rfl,hr2⟩;have hr1:=aD hb0 hr1;have hb:=ha.trans hb0);refine jK (aa 21 786431) ?_;refine jA 18 F ?_;(refine ar F F F (cx_dp _ hb) F ?_;rintro _ Gc hc0 ⟨pa2,pc2,rfl,hs5⟩;have hr1:=aD hc0 hr1;have hr2:=aD hc0 hr2;have hc:=hb.trans hc0);refine jK (aa 21 1048575) ?_;refine jA 20 F ?_;(refine lI F F F (cx_bt _ hc _ _ hr1 hr2 _ _ hs5) F ?_;rintro _ G6 _ hc6 ⟨av,cv,rfl⟩;dsimp only [zA,fA];have hle6:=hc.trans hc6);refine jK (aa 21 2097151) ?_;refine jQ ?_)
    all_goals repeat' (refine jM ?_)
    all_goals exact br (i + 1,av,cv,G6) ⟨by dsimp only;omega,(hgq.trans hs).trans hle6⟩ (by dsimp only;omega) tU rfl (by dsimp only;rw [hN1,hN2];repeat (exact List.Sublist.refl _))
   ·rw [h1] at cx_ct1
    rw [h2] at cx_ct2
    repeat' (first | refine jR ?_ | (refine jo ?_;first | refine jV (aj F F aS F F) ?_ | refine aE F ?_ | refine ae F F F cx_ct1 F ?_ | refine ae F F F cx_ct2 F ?_) | refine aw F F F ?_ | refine ac F F ?_)
    (refine an (ao (id:=21) [] (fun _ h=>absurd h (by simp)) am ?_);refine jW 16 [0,5,9,13,19] (aa 21 533025) ?_;(refine jG (aa 21 533027) 1 F (eF F F aS F) ?_);refine jW 13 [2,3] (aa 21 533039) ?_;((refine jG (aa 21 533055) 4 F (gi F F aS ?_ F F) ?_;focus omega));(refine jG (aa 21 533119) 6 F (db F F aS F F) ?_);(refine jG (aa 21 533247) 7 F (eF F F aS F) ?_);(refine jG (aa 21 534271) 10 F (db F F aS F F) ?_);(refine jG (aa 21 536319) 11 F (eF F F aS F) ?_);(refine jG (aa 21 552703) 14 F (eF F F aS F) ?_);refine jW 5 [15,16] (aa 21 651007) ?_;((refine jG (aa 21 782079) 17 F (b9 F F aS ?_ F F) ?_;focus omega));refine jA 8 F ?_;(refine ar F F F cx_g1 F ?_;rintro _ Ga ha ⟨cv1,rfl,hr1⟩);refine jK (aa 21 782335) ?_;refine jA 12 F ?_;(refine ar F F F (cx_g2 _ ha) F ?_;rintro _ Gb hb0 ⟨cv2,rfl,hr2⟩;have hr1:=aD hb0 hr1;have hb:=ha.trans hb0);refine jK (aa 21 786431) ?_;refine jA 18 F ?_;(refine ar F F F (cx_dp _ hb) F ?_;rintro _ Gc hc0 ⟨pa2,pc2,rfl,hs5⟩;have hr1:=aD hc0 hr1;have hr2:=aD hc0 hr2;have hc:=hb.trans hc0);refine jK (aa 21 1048575) ?_;refine jA 20 F ?_;(refine lI F F F (cx_bt _ hc _ _ hr1 hr2 _ _ hs5) F ?_;rintro _ G6 _ hc6 ⟨av,cv,rfl⟩;dsimp only [zA,fA];have hle6:=hc.trans hc6);refine jK (aa 21 2097151) ?_;refine jQ ?_)
    all_goals repeat' (refine jM ?_)
    all_goals exact br (i + 1,av,cv,G6) ⟨by dsimp only;omega,(hgq.trans hs).trans hle6⟩ (by dsimp only;omega) tU rfl (by dsimp only;rw [hN1,hN2];repeat (exact List.Sublist.refl _))
  ·have hpc : pZ (al qs) n k A W q (ab t.fields i) = []:=by rw [pZ,if_neg hT]
   rw [hpc,List.append_nil] at hps
   have h1 : (cM A).contains (ab t.fields i).tag = false:=by
    unfold jy at hT
    cases h1 : (cM A).contains (ab t.fields i).tag with
    | true=>rw [h1] at hT;exact absurd F hT
    | false=>rfl
   have h2 : (cM W).contains (ab t.fields i).tag = false:=by
    unfold jy at hT
    cases h2 : (cM W).contains (ab t.fields i).tag with
    | true=>rw [h2,Bool.or_true] at hT;exact absurd F hT
    | false=>rfl
   rw [h1] at cx_ct1
   rw [h2] at cx_ct2
   repeat' (first | refine jM ?_ | (refine jo ?_;first | refine jV (aj F F aS F F) ?_ | refine aE F ?_ | refine ae F F F cx_ct1 F ?_ | refine ae F F F cx_ct2 F ?_) | refine aw F F F ?_ | refine ad F F ?_)
   exact br (i + 1,p,cap,Gs) ⟨by dsimp only;omega,hgq.trans hs⟩ (by dsimp only;omega) tU rfl (by dsimp only;rw [hps];repeat (exact List.Sublist.refl _))
 ·obtain rfl : i = t.fields.length:=oM
  repeat' (first | refine jR ?_ | refine ad F (aH oM) ?_)
  exact aX (vs:=[]) F trivial F bc ⟨hG.trans hgq,_,_,F⟩
theorem w5 {a w : V} {i : Int} (ha : a.what = 85) (hw : w.what = 85) (h1 : a.tag = i) (h2 : w.tag = i) (hi : 1 ≤ i ∧ i ≤ 200) : aU a w = [i]:=by
 have hna : ¬ (a.what = 91 ∨ a.what = 63):=oM
 refine sT (gv a w) (List.pairwise_singleton _ _) fun x=>⟨fun h=>?_,fun h=>?_⟩
 ·rcases ia hna h with h | h
  ·unfold cM at h
   rw [if_neg oM,h1] at h
   exact h
  ·unfold cM at h
   rw [if_neg oM,h2] at h
   exact h
 ·rw [List.mem_singleton.1 h]
  refine im hna hi (.inl ?_)
  unfold cM
  rw [if_neg oM,h1]
  simp
theorem nr {ts : List Ty} {c : UInt8} {r : ael} {a : V} (hr : aZ ts (c :: r) = none) (h : OfK ts (c :: r) a) : (c = 91 ∧ ∃ ks,a = .nd 91 [] 0 ks) ∨ (c = 63 ∧ (a = .nd 63 [] 0 [] ∨ ∃ v,a = .nd 63 [] 0 [v])) ∨ (a.what ≠ 91 ∧ a.what ≠ 63 ∧ a.what ≠ 82 ∧ a.what ≠ 85):=by
 generalize hkk : c :: r = k' at h hr
 cases h with
 | num=>exact .inr (.inr ⟨by rw [V.what];decide,by rw [V.what];decide,by rw [V.what];decide,by rw [V.what];decide⟩)
 | txt=>exact .inr (.inr ⟨by rw [V.what];decide,by rw [V.what];decide,by rw [V.what];decide,by rw [V.what];decide⟩)
 | flg=>exact .inr (.inr ⟨by rw [V.what];decide,by rw [V.what];decide,by rw [V.what];decide,by rw [V.what];decide⟩)
 | lst k ks=>injection hkk with e1 e2;exact .inl ⟨e1,ks,F⟩
 | non k=>injection hkk with e1 e2;exact .inr (.inl ⟨e1,.inl F⟩)
 | opt k v=>injection hkk with e1 e2;exact .inr (.inl ⟨e1,.inr ⟨v,F⟩⟩)
 | recd _ t' fs g1=>rw [hr] at g1;cases g1
 | enm _ t' d g1=>rw [hr] at g1;cases g1
 | uni _ t' d v g1=>rw [hr] at g1;cases g1
theorem acH {b : Nat} {qs : List c8} (hw : SchW (al qs)) : ∀ (n : Nat) {k : ael} {a w : V},OfK (al qs) k a → OfK (al qs) k w → ax (al qs) k = true → (a.deep ≤ 12 ∧ a.out.length ≤ 400) → (w.deep ≤ 12 ∧ w.out.length ≤ 400) → jr (al qs) n k a w → mS b qs n k a w:=by
 intro n
 induction n with
 | zero=>intro k a w _ _ _ _ _ h;exact h.elim
 | succ n ih =>
  intro k a w oa ow hk fa fw hl
  have ta : a.tot ≤ 1000000:=by have:=n0 hw oa fa;omega
  have tw : w.tot ≤ 1000000:=by have:=n0 hw ow fw;omega
  by_cases ho : a.out = w.out
  ·exact aa8 hw ta tw ho
  by_cases hd : bZ a w = true
  case neg=>exact zl hw oa ow ta tw ho hd
  have hls : ∀ i ∈ aU a w,∀ y z,aB (al qs) k a i = some y → aB (al qs) k w i = some z → jr (al qs) n y.1 y.2 z.2:=by
   rcases hl with h | h | h
   ·exact absurd h ho
   ·rw [hd] at h;cases h
   ·exact h
  have hrec : ∀ i ∈ aU a w,∀ k1 y z,aB (al qs) k a i = some (k1,y) → aB (al qs) k w i = some (k1,z) → mS b qs n k1 y z:=fun i hi k1 y z e1 e2=>by
   have hi0:=(kQ oa hi).1
   obtain ⟨y1,y2⟩:=cJ hw oa hk hi0 e1
   obtain ⟨z1,_⟩:=cJ hw ow hk hi0 e2
   exact ih y1 z1 y2 (gN hw oa hk hi0 e1 fa.1 fa.2) (gN hw ow hk hi0 e2 fw.1 fw.2) (hls i hi _ _ e1 e2)
  have hwh:=pC oa ow
  obtain ⟨c,r,rfl⟩:=dT hk
  cases hrf : aZ (al qs) (c :: r) with
  | none =>
   rcases nr hrf oa with ⟨rfl,ks,rfl⟩ | ⟨rfl,rfl | ⟨v,rfl⟩⟩ | h
   ·rcases nr hrf ow with ⟨_,ks2,rfl⟩ | ⟨h,_⟩ | h
    ·exact aa9 hw oa ow hk ta tw ho hd hrec
    ·exact absurd h dC
    ·rw [V.what] at hwh;omega
   ·exfalso
    unfold bZ at hd
    rw [V.what,if_neg dC,if_neg dC,if_pos (.inr rfl)] at hd
    have:=(of_decide_eq_true hd).2
    rw [V.kids] at this
    exact absurd this dC
   ·rcases nr hrf ow with ⟨h,_⟩ | ⟨_,rfl | ⟨v2,rfl⟩⟩ | h
    ·exact absurd h dC
    ·exfalso
     unfold bZ at hd
     rw [V.what,if_neg dC,if_neg dC,if_pos (.inr rfl)] at hd
     have:=(of_decide_eq_true hd).1
     simp [V.kids] at this
    ·exact acG hw ta tw ho (hrec 0 (show (0 : Int) ∈ [0] from List.mem_singleton.2 F) r v v2 (by rw [dZ (.inr F)];rfl) (by rw [dZ (.inr rfl)];rfl))
    ·rw [V.what] at hwh;omega
   ·exfalso
    unfold bZ at hd
    rw [if_neg oM,if_neg oM,if_neg oM] at hd
    cases hd
  | some t =>
   have htm:=bj hrf
   have hTW:=hw.ty t htm
   rcases bE oa hrf with ⟨a1,fs,rfl,a3,_,_,_⟩ | ⟨a1,d,rfl,_⟩ | ⟨a1,a2,d,v,rfl,a4,a5⟩
   ·rcases bE ow hrf with ⟨b1,gs,rfl,b3,_,_,_⟩ | ⟨b1,_⟩ | ⟨b1,_⟩
    ·refine acF hw hk hrf a1 a3 b3 ta tw ho fun f hf hT=>?_
     have hna : ¬ ((V.nd 82 [] 0 (fs.map aq)).what = 91 ∨ (V.nd 82 [] 0 (fs.map aq)).what = 63):=by rw [V.what];omega
     have hfd:=qV hTW hf
     have hv : ∀ v : V,aB (al qs) (c :: r) v f.tag = some (f.kind,cZ (al qs) v f):=fun v=>by
      rw [eB hrf,hfd]
      dsimp only
      rw [if_neg oM,if_pos a1]
     unfold jy at hT
     rw [Bool.or_eq_true,List.contains_iff_mem,List.contains_iff_mem] at hT
     exact hrec f.tag (im hna (hTW.fld f hf).tag hT) _ _ _ (hv _) (hv _)
    ·omega
    ·omega
   ·exfalso
    unfold bZ at hd
    rw [V.what,if_neg dC,if_neg dC,if_neg dC] at hd
    cases hd
   ·rcases bE ow hrf with ⟨b1,_⟩ | ⟨b1,_⟩ | ⟨b1,b2,e,v2,rfl,b4,b5⟩
    ·omega
    ·omega
    ·have hde : d.tag = e.tag:=by
      unfold bZ at hd
      rw [V.what,if_neg dC,if_pos rfl] at hd
      exact of_decide_eq_true hd
     obtain rfl:=fe hTW a4 b4 hde
     have hst:=w5 (a:=.nd 85 [] d.tag [v]) (w:=.nd 85 [] d.tag [v2]) (i:=d.tag) rfl rfl rfl rfl (hTW.fld d a4).tag
     have hfd:=qV hTW a4
     refine acE hw hk hrf a1 a2 a4 ta tw ho hst (hrec d.tag (by rw [hst];simp) _ _ _ ?_ ?_)
     ·rw [eB hrf,hfd];dsimp only;rw [if_neg a2,if_neg a1,if_pos (show V.tag (.nd 85 [] d.tag [v]) = d.tag from rfl)];rfl
     ·rw [eB hrf,hfd];dsimp only;rw [if_neg a2,if_neg a1,if_pos (show V.tag (.nd 85 [] d.tag [v2]) = d.tag from rfl)];rfl
--?fin
open Go.Proofs
variable {G : Gh}
set_option maxHeartbeats 8000000 in
theorem uD {s k w t : ael} (h : s.length ≤ 1048576 ∧ k.length ≤ 1048576 ∧ w.length ≤ 1048576 ∧ t.length ≤ 1048576) :
  fp aek 8 [S s,S k,S w,S t] G [] (fun v _ L'=>∃ p c,v = Tu [.slice p ((cD s k w t).getD []).length c,Bo (cD s k w t).isSome] ∧ L' = [.acc (.slice p ((cD s k w t).getD []).length c) g9 2 ((cD s k w t).getD []).length (ag dk ((cD s k w t).getD []))]):=by
 have hgo:=Gh.le.refl G
 have h1 : s.length ≤ 1048576 ∧ k.length ≤ 1048576 ∧ w.length ≤ 1048576:=oM
 have h2 : s.length ≤ 1048576 ∧ k.length ≤ 1048576 ∧ t.length ≤ 1048576:=oM
 cases ha : cY s k w with
 | none =>
  have cx_ga0:=fun G=>kL (G:=G) h1 ha
  rw [qn (.inl ha)]
  cases hb : cY s k t with
  | none =>
   have cx_gb0:=fun G=>kL (G:=G) h2 hb
   refine bM [(0,_),(1,_),(2,_),(3,_)] Tryz.func8 kR Tryz.ntmps8 F F tU fun B hB hW=>?_
   repeat' (first | refine jR ?_ | (refine jo ?_;first | refine jL fun _=>?_ | refine jC F F F ?_ | refine aP F ?_ | (refine ar F F F (cx_ga0 _) F ?_;rintro _ G hle ⟨p1,a1,b1,c1,rfl⟩;(have hgo:=Gh.le.trans hgo hle);(try have hRg:=ScI.mono hRg hle);(try have hrv:=aD hle hrv)) | (refine ar F F F (cx_gb0 _) F ?_;rintro _ G hle ⟨p2,a2,b2,c2,rfl⟩;(have hgo:=Gh.le.trans hgo hle);(try have hRg:=ScI.mono hRg hle);(try have hrv:=aD hle hrv))) | refine aF F F F ?_ | refine ac F F ?_)
   refine Nx.addNil g9 2 ?_
   refine aX (vs:=[_,_]) F ⟨F,F,trivial⟩ F sB ⟨hgo,_,_,F,F⟩
  | some b =>
   obtain ⟨ts,hs,hki,hvb,htb,_⟩:=cQ hb
   have cx_gb1:=fun G=>kK (G:=G) h2 hs hki hvb
   refine bM [(0,_),(1,_),(2,_),(3,_)] Tryz.func8 kR Tryz.ntmps8 F F tU fun B hB hW=>?_
   repeat' (first | refine jR ?_ | (refine jo ?_;first | refine jL fun _=>?_ | refine jC F F F ?_ | refine aP F ?_ | (refine ar F F F (cx_ga0 _) F ?_;rintro _ G hle ⟨p1,a1,b1,c1,rfl⟩;(have hgo:=Gh.le.trans hgo hle);(try have hRg:=ScI.mono hRg hle);(try have hrv:=aD hle hrv)) | (refine ar F F F (cx_gb1 _) F ?_;rintro _ G hle ⟨bh,qh,cw,rfl,hTh,hRh,hrw⟩;(have hgo:=Gh.le.trans hgo hle);(try have hRg:=ScI.mono hRg hle);(try have hrv:=aD hle hrv))) | refine aF F F F ?_ | refine ac F F ?_)
   refine Nx.addNil g9 2 ?_
   refine aX (vs:=[_,_]) F ⟨F,F,trivial⟩ F sB ⟨hgo,_,_,F,F⟩
 | some a =>
  obtain ⟨ts,hs,hki,hvo,hto,hwf⟩:=cQ ha
  have cx_ga1:=fun G=>kK (G:=G) h1 hs hki hvo
  cases hb : cY s k t with
  | none =>
   have cx_gb0:=fun G=>kL (G:=G) h2 hb
   rw [qn (.inr hb)]
   refine bM [(0,_),(1,_),(2,_),(3,_)] Tryz.func8 kR Tryz.ntmps8 F F tU fun B hB hW=>?_
   repeat' (first | refine jR ?_ | (refine jo ?_;first | refine jL fun _=>?_ | refine jC F F F ?_ | refine aE F ?_ | (refine ar F F F (cx_ga1 _) F ?_;rintro _ G hle ⟨bg,qg,cv,rfl,hTg,hRg,hrv⟩;(have hgo:=Gh.le.trans hgo hle);(try have hRg:=ScI.mono hRg hle);(try have hrv:=aD hle hrv)) | (refine ar F F F (cx_gb0 _) F ?_;rintro _ G hle ⟨p2,a2,b2,c2,rfl⟩;(have hgo:=Gh.le.trans hgo hle);(try have hRg:=ScI.mono hRg hle);(try have hrv:=aD hle hrv))) | refine aw F F F ?_ | refine ac F F ?_)
   refine Nx.addNil g9 2 ?_
   refine aX (vs:=[_,_]) F ⟨F,F,trivial⟩ F sB ⟨hgo,_,_,F,F⟩
  | some b =>
   obtain ⟨ts',i1,_,hvb,htb,_⟩:=cQ hb
   obtain rfl : ts = ts':=Option.some.inj (hs.symm.trans i1)
   have cx_gb1:=fun G=>kK (G:=G) h2 hs hki hvb
   have hw:=dV hs
   have oa:=c9 hvo
   have ob:=c9 hvb
   obtain ⟨a1,a2,a3⟩:=eA hvo
   obtain ⟨b1,b2,b3⟩:=eA hvb
   have fa : a.deep ≤ 12 ∧ a.out.length ≤ 400:=⟨a3,by rw [a1];exact a2⟩
   have fb : b.deep ≤ 12 ∧ b.out.length ≤ 400:=⟨b3,by rw [b1];exact b2⟩
   have hlst:=sC hw 12 oa ob hki (Or.inl a3) (Or.inl b3)
   have hdl:=pd (n:=13) (q:=[]) (wa:=40000) (wb:=40000) hw oa ob hki (Or.inl hto) (Or.inl htb) oM
   have hin:=kj (n:=13) (q:=[]) hw oa ob hki fa fb (fun m hm=>by cases hm)
   have hcv : cD s k w t = if (dK ts k a b).length ≤ 30 ∧ (gZ s k w (dK ts k a b)).isSome = true then some (dK ts k a b) else none:=by
    unfold cD
    rw [hs,ha,hb]
   refine bM [(0,_),(1,_),(2,_),(3,_)] Tryz.func8 kR Tryz.ntmps8 F F tU fun B hB hW=>?_
   repeat' (first | refine jR ?_ | (refine jo ?_;first | refine jL fun _=>?_ | refine jC F F F ?_ | refine aE F ?_ | refine bO F ?_ | (refine ar F F F (cx_ga1 _) F ?_;rintro _ G hle ⟨bg,qg,cv,rfl,hTg,hRg,hrv⟩;(have hgo:=Gh.le.trans hgo hle);(try have hRg:=ScI.mono hRg hle);(try have hrv:=aD hle hrv)) | (refine ar F F F (cx_gb1 _) F ?_;rintro _ G hle ⟨bh,qh,cw,rfl,hTh,hRh,hrw⟩;(have hgo:=Gh.le.trans hgo hle);(try have hRg:=ScI.mono hRg hle);(try have hrv:=aD hle hrv))) | refine aw F F F ?_ | refine ad F F ?_)
   rename_i x18
   refine Nx.addNil g9 2 ?_
   subst hTg
   have hbt:=acH hw 13 oa ob hki fa fb hlst G cv cw [] 0 none 0 x18 none 0 0 [] hRg hrv hrw rfl aN.nil0 (fun n hn=>by cases hn) (by simp) rfl oM
   unfold cT at hbt
   refine jo ?_
   refine lI F F F hbt F ?_
   rintro _ G3 _ hle3 ⟨av,cv2,rfl⟩
   clear hbt hlst hRg hrv hrw cx_ga1 cx_gb1
   dsimp only [zA,fA]
   rw [Nat.zero_add,← List.length_map (f:=c6)]
   have hgo:=hgo.trans hle3
   have hCh : ∀ x ∈ dK (al qg) k a b,mR x:=fun x hx=>by
    obtain ⟨c,hc,rfl⟩:=List.mem_map.1 hx
    have h1:=hin c hc
    have h2:=gC h1.1
    have h3:=h1.2.1
    simp only [List.length_nil,Nat.zero_add] at h3
    exact ⟨by unfold c6;dsimp only;omega,by unfold c6;dsimp only;omega⟩
   have hml : (dK (al qg) k a b).length = (bB (al qg) 13 k a b []).length:=by unfold dK;simp
   rw [show (bB (al qg) 13 k a b []).map c6 = dK (al qg) k a b from rfl]
   generalize hls : dK (al qg) k a b = l at *
   have hll : l.length ≤ 1048576:=oM
   have cx_cdi:=sw (G:=G3) (p:=av) (c:=cv2) (T:=g9) (l:=l) h1 hll hCh
   unfold lv at cx_cdi
   have kN:=trivial
   clear hCh hin hdl hls hml fa fb oa ob hw hto htb hvo hvb ha hb hs i1
   by_cases h30 : l.length ≤ 30
   ·cases hz : gZ s k w l with
    | none =>
     rw [hz] at cx_cdi hcv
     rw [if_neg (by simp)] at hcv
     rw [hcv]
     dsimp only [Option.getD,Option.isSome] at cx_cdi
     repeat' (first | refine jR ?_ | (refine jo ?_;first | refine aC F ?_ | refine jV (af F) ?_ | (refine lK F F F cx_cdi F ?_;rintro _ _ ⟨rfl,rfl⟩;dsimp only [zA,fA])) | refine ac F F ?_ | refine ad F (aH oM) ?_)
     all_goals refine Nx.addNil g9 2 ?_
     all_goals refine aX (vs:=[_,_]) F ⟨F,F,trivial⟩ F sB ⟨hgo,_,_,F,F⟩
    | some z =>
     rw [hz] at cx_cdi hcv
     rw [if_pos ⟨h30,rfl⟩] at hcv
     rw [hcv]
     dsimp only [Option.getD,Option.isSome] at cx_cdi
     repeat' (first | refine jR ?_ | (refine jo ?_;first | refine aC F ?_ | refine jV (af F) ?_ | (refine lK F F F cx_cdi F ?_;rintro _ _ ⟨rfl,rfl⟩;dsimp only [zA,fA])) | (refine ad F (by first | rfl | (refine decide_eq_false ?_;(omega))) ?_))
     all_goals refine aX (vs:=[_,_]) F ⟨F,F,trivial⟩ F sB ⟨hgo,_,_,F,F⟩
   ·rw [if_neg (fun h=>h30 h.1)] at hcv
    rw [hcv]
    repeat' (first | refine jR ?_ | (refine jo ?_;first | refine aC F ?_ | refine jV (af F) ?_) | refine ac F (aA oM) ?_)
    all_goals refine Nx.addNil g9 2 ?_
    all_goals refine aX (vs:=[_,_]) F ⟨F,F,trivial⟩ F sB ⟨hgo,_,_,F,F⟩
section
variable {P : Program} {n : Nat} {D : List Deferred} {E : bQ} {M : World → Prop} {d : Option Nat} {ty : TypeId} {pos : String} {aft : Array Edge} {gd : Option (Nat × Bool)}
theorem ada {T T' : TypeId} {x y : Operand} {a b c e : ael} [hk : PK P T] (hx : ev E x = some (Ag [S a,S b])) (hy : ev E y = some (Ag [S c,S e])) (hb : (a.length ≤ 1000000 ∧ b.length ≤ 1000000) ∧ c.length ≤ 1000000 ∧ e.length ≤ 1000000) : Gives P n D E M ⟨d,.binOp .neq T x y T',ty,pos,aft,gd⟩ (Bo (!decide (a = c ∧ b = e))):=Gives.mk fun a' w hs _=>by
 have h1 : (eqGuard .neq T x y (Ag [S a,S b]) (Ag [S c,S e])).run P w = .ok () w:=by
  simp [eqGuard,hk.gd]
 have h2 : binOp .neq T (Ag [S a,S b]) (Ag [S c,S e]) = (do pure (.bool (!(← Op.equal T (Ag [S a,S b]) (Ag [S c,S e]))))):=rfl
 simp only [execOp,hs.ev hx,hs.ev hy,Sem.run_bind,h1,Result.andThen_ok,h2,hk.eq' w a b c e hb.1 hb.2,Sem.run_pure]
end
abbrev ChB (a : List Ch) : Prop:=∀ x ∈ a,x.1.length ≤ 1000000 ∧ x.2.length ≤ 1000000
abbrev abn : TypeId:=55
instance : PK aek abn:=PK.mk' (N:=aek.types.size - 1) (st:=9) (fs:=ce aek abn) kR kR kR kR kR kR kR kR kR kR kR kR
theorem oF {u v : Value} {a b : List Ch} (hu : aN G u 2 a.length (ag dk a)) (hv : aN G v 2 b.length (ag dk b)) (hn : a.length ≤ 1048576) (hca : ChB a) (hcb : ChB b) :
  a7 aek 13 [u,v] G (· = Bo (decide (a = b))):=by
 refine jE [(0,_),(1,_)] Tryz.func13 Tryz.ntmps13 fun B hB=>?_
 repeat' (first | refine jR ?_ | (refine jo ?_;refine jV (eL F aS) ?_) | refine eG F (fun _=>?_) (fun _=>?_))
 ·refine jY (vs:=[_]) ?_
  rw [aM]
  exact congrArg Bo (decide_eq_false (fun h=>by subst h;simp_all)).symm
 ·have hl : a.length = b.length:=by simp_all;omega
  refine aW (ι:=Nat) (fun i=>i ≤ a.length ∧ a.take i = b.take i) (fun i=>[(0,u),(1,v),(5,I i)]) (fun _=>G) (fun i=>[]) (fun i=>a.length - i) 0 ?_ tU F bc (fun i Hi=>?_)
  ·exact ⟨oM,F⟩
  by_cases hi : i < a.length
  ·obtain ⟨ba,oa,ca,rfl,sa⟩:=hu.expl oM
   obtain ⟨bb,ob,cb,rfl,sb⟩:=hv.expl oM
   have hcc : ((ab a i).1.length ≤ 1000000 ∧ (ab a i).2.length ≤ 1000000) ∧ (ab b i).1.length ≤ 1000000 ∧ (ab b i).2.length ≤ 1000000:=⟨hca _ (bC hi),hcb _ (bC oM)⟩
   repeat' (first | refine jM ?_ | (refine jo ?_;refine jV (af F) ?_) | refine ac F (aA oM) ?_ | refine o5 F (fun _=>?_) (fun _=>?_) | (refine an (ao (id:=6) _ (fun _ h=>h) am ?_);refine jT 5 [0,1,4,5] (aa 9 51) ?_;(refine jG (aa 9 55) 2 F (ak F F oM) ?_);((refine jG (aa 9 63) 3 F (dJ F F aS ?_) ?_;focus omega));(refine jG (aa 9 127) 6 F (ak F F oM) ?_);((refine jG (aa 9 255) 7 F (dJ F F aS ?_) ?_;focus omega));(refine jG (aa 9 511) 8 F (ada F F ‹_›) ?_);refine jQ ?_))
   ·rename_i hne
    refine jY (vs:=[_]) ?_
    rw [aM]
    refine congrArg Bo (decide_eq_false fun h=>?_).symm
    subst h
    simp at hne
   ·rename_i hne
    have he : ab a i = ab b i:=by
     simp [dk] at hne
     exact Prod.ext hne.1 hne.2
    refine br (i + 1) ?_ ?_ tU F bc
    ·refine ⟨oM,?_⟩
     rw [dO hi,dO oM,Hi.2,he]
    ·omega
  ·repeat' (first | refine jR ?_ | (refine jo ?_;refine jV (eL F aS) ?_) | refine ad F (aH oM) ?_)
   refine jY (vs:=[_]) ?_
   have ei : i = a.length:=oM
   rw [aM]
   refine congrArg Bo (decide_eq_true ?_).symm
   have:=Hi.2
   rw [ei,List.take_length,hl,List.take_length] at this
   exact this
theorem ace {s k w t : ael} {l : List Ch} (h : cD s k w t = some l) : l.length ≤ 30 ∧ (∀ x ∈ l,mR x) ∧ ChB l:=by
 obtain ⟨h1,h2⟩:=uN h
 exact ⟨h1,fun x hx=>by have:=h2 x hx;exact ⟨oM,oM⟩,fun x hx=>by have:=h2 x hx;exact ⟨oM,oM⟩⟩
def iO (a b : ael) : Bool:=decide (a = []) || decide (a = b) || (a ++ [47]).isPrefixOf b
theorem yd {a b : ael} (ha : ¬ a = []) (hb : ¬ a = b) : iO a b = (a ++ [47]).isPrefixOf b:=by simp [iO,ha,hb]
theorem xV {a b : ael} (h : a.length ≤ 9000000000000000000) : a7 aek 35 [S a,S b] G (· = Bo (iO a b)):=by
 refine jE [(0,_),(1,_)] Tryz.func35 Tryz.ntmps35 fun B hB=>?_
 repeat' (first | refine jX ?_ | (refine jo ?_;first | refine aP F ?_ | refine aE F ?_ | refine ae F F F g7 F ?_) | refine aF F F F ?_ | refine ff F F (fun _=>?_) (fun _=>?_))
 all_goals refine jY (vs:=[_]) ?_
 ·rw [aM,iO,decide_eq_true aS];rfl
 ·rw [aM,iO];simp [*]
 ·rw [aM,yd aS aS]
def fG (x : Ch) (b : List Ch) : Bool:=b.all fun y=>!(iO x.1 y.1 || iO y.1 x.1)
def gu (a b : List Ch) : Bool:=a.all fun x=>fG x b
theorem sk {a b : List Ch} {i j : Nat} (hi : i < a.length) (hj : j < b.length) (Hi : gu (a.drop i) b = gu a b) (Hj : fG (ab a i) (b.drop j) = fG (ab a i) b) (h : (iO (ab a i).1 (ab b j).1 || iO (ab b j).1 (ab a i).1) = true) : gu a b = false:=by
 have : fG (ab a i) b = false:=by rw [← Hj,fN hj];unfold fG;rw [List.all_cons,h];rfl
 rw [← Hi,fN hi];simp [gu,this]
theorem wR {x : Ch} {b : List Ch} {j : Nat} (hj : j < b.length) (Hj : fG x (b.drop j) = fG x b) (h : (iO x.1 (ab b j).1 || iO (ab b j).1 x.1) = false) : fG x (b.drop (j + 1)) = fG x b:=by
 rw [← Hj,fN hj];unfold fG;rw [List.all_cons,h];rfl
theorem wS {a b : List Ch} {i : Nat} (hi : i < a.length) (Hi : gu (a.drop i) b = gu a b) (h : fG (ab a i) b = true) : gu (a.drop (i + 1)) b = gu a b:=by
 rw [← Hi,fN hi];simp [gu,h]
abbrev tCh : TypeId:=55
theorem xf {a : List Ch} (h : ∀ x ∈ a,x.1.length ≤ 1048576 ∧ x.2.length ≤ 1048576) {i : Nat} (hi : i < a.length) : (ab a i).1.length ≤ 9000000000000000000:=by
 rw [aI hi];have:=h _ (List.getElem_mem hi);omega
theorem uw {u v : Value} {a b : List Ch} (hu : aN G u 2 a.length (ag dk a)) (hv : aN G v 2 b.length (ag dk b)) (ha : ∀ x ∈ a,x.1.length ≤ 1048576 ∧ x.2.length ≤ 1048576) (hb : ∀ x ∈ b,x.1.length ≤ 1048576 ∧ x.2.length ≤ 1048576) (hn : a.length ≤ 1048576 ∧ b.length ≤ 1048576) :
  a7 aek 15 [u,v] G (· = Bo (gu a b)):=by
 have na:=@xf a ha
 have nb:=@xf b hb
 refine jE [(0,_),(1,_)] Tryz.func15 Tryz.ntmps15 fun B hB=>?_
 repeat' (first | refine jR ?_ | (refine jo ?_;refine jV (eL F aS) ?_))
 refine aW (ι:=Nat) (fun i=>i ≤ a.length ∧ gu (a.drop i) b = gu a b) (fun i=>[(0,u),(1,v),(9,u),(10,I a.length),(11,I i)]) (fun _=>G) (fun i=>[]) (fun i=>a.length - i) 0 ?_ tU F bc (fun i Hi=>?_)
 ·exact ⟨oM,F⟩
 repeat' (first | refine jR ?_ | refine eG F (fun _=>?_) (fun _=>?_))
 ·have hi : i < a.length:=oM
  obtain ⟨ba,oa,ca,rfl,sa⟩:=hu.expl oM
  repeat' (first | refine jR ?_ | (refine jo ?_;first | refine jV (eL F aS) ?_ | refine jV (ak F F oM) ?_ | (refine jV (dJ F F aS ?_) ?_;focus omega) | refine jL fun _=>?_ | refine jC F F F ?_))
  rename_i x
  have ni:=na hi
  refine aW (ι:=Nat) (fun j=>j ≤ b.length ∧ fG (ab a i) (b.drop j) = fG (ab a i) b) (fun j=>[(0,.slice (some ⟨ba,oa,none⟩) a.length ca),(1,v),(9,.slice (some ⟨ba,oa,none⟩) a.length ca),(10,I a.length),(11,I i),(6,Pt x 0),(15,v),(16,I b.length),(17,I j)]) (fun _=>G) (fun j=>[.blk x (.cells (List.toArray [S (ab a i).1,S (ab a i).2]) tCh (0,0))]) (fun j=>b.length - j) 0 ?_ tU F bc (fun j Hj=>?_)
  ·exact ⟨oM,F⟩
  repeat' (first | refine jM ?_ | refine eG F (fun _=>?_) (fun _=>?_))
  ·have hj : j < b.length:=oM
   obtain ⟨bb,ob,cb,rfl,sb⟩:=hv.expl oM
   have nj:=nb hj
   repeat' (first | refine jM ?_ | (refine jo ?_;first | refine jV (ak F F oM) ?_ | refine aC F ?_ | (refine jV (dJ F F aS ?_) ?_;focus omega) | refine jL fun _=>?_ | refine jC F F F ?_ | refine aP F ?_ | refine aE F ?_ | refine ae F F F (xV ‹_›) F ?_) | refine me F F (fun _=>?_) (fun _=>?_) | refine ac F F ?_ | refine o5 F (fun _=>?_) (fun _=>?_))
   ·refine jY (vs:=[_]) ?_
    rw [aM,sk hi hj Hi.2 Hj.2 (by simp [*])]
   ·refine jY (vs:=[_]) ?_
    rw [aM,sk hi hj Hi.2 Hj.2 (by simp [*])]
   ·refine br (j + 1) ?_ ?_ tU F sB
    ·exact ⟨oM,wR hj Hj.2 (by simp [*])⟩
    ·omega
  ·have ej : j = b.length:=oM
   refine br (i + 1) ?_ ?_ tU F (by repeat (exact List.nil_sublist _))
   ·refine ⟨oM,wS hi Hi.2 ?_⟩
    rw [← Hj.2,ej,List.drop_length];rfl
   ·omega
 ·refine jY (vs:=[_]) ?_
  have ei : i = a.length:=oM
  rw [aM,← Hi.2,ei,List.drop_length];rfl
variable {ts : List Ty}
theorem fF : ∀ {p q : List Int},fh p q → fh q p
 | [],_,h=>h.elim
 | _ :: _,[],h=>h.elim
 | a :: p,b :: q,h=>by
  rcases h with h | ⟨h1,h2⟩
  ·exact Or.inl fun e=>h e.symm
  ·exact Or.inr ⟨h1.symm,fF h2⟩
theorem zy : ∀ {a b r s : ael},fk 47 a → fk 47 b → (∃ u,a ++ 47 :: r ++ u = b ++ 47 :: s) → a = b ∧ ∃ u,r ++ u = s
 | [],[],_,_,_,_,⟨u,h⟩=>⟨rfl,u,(List.cons.inj h).2⟩
 | [],y :: b,_,_,_,hb,⟨u,h⟩=>absurd (by rw [← (List.cons.inj h).1];rfl) (hb y (by simp))
 | x :: a,[],_,_,ha,_,⟨u,h⟩=>absurd (by rw [(List.cons.inj h).1];rfl) (ha x (by simp))
 | x :: a,y :: b,_,_,ha,hb,⟨u,h⟩=>by
  obtain ⟨h1,h2⟩:=List.cons.inj h
  obtain ⟨h3,h4⟩:=zy (fun c hc=>ha c (by simp [hc])) (fun c hc=>hb c (by simp [hc])) ⟨u,h2⟩
  exact ⟨by rw [h1,h3],h4⟩
def zD : List Int → ael
 | []=>[]
 | n :: p=>bi n ++ 47 :: zD p
theorem tC : ∀ {p : List Int},p ≠ [] → bN p ++ [47] = zD p
 | [],h=>absurd rfl h
 | [n],_=>rfl
 | n :: m :: p,_=>by rw [gg (by simp),List.append_assoc,List.cons_append,tC (by simp)];rfl
theorem vm : ∀ {p q : List Int},(∀ m ∈ p,0 ≤ m ∧ m ≤ 999999) → (∀ m ∈ q,0 ≤ m ∧ m ≤ 999999) → fh p q → ¬ ∃ u,zD p ++ u = zD q
 | [],_,_,_,h,_=>h.elim
 | _ :: _,[],_,_,h,_=>h.elim
 | a :: p,b :: q,hp,hq,h,hu=>by
  have ha:=hp a (by simp)
  have hb:=hq b (by simp)
  obtain ⟨h1,h2⟩:=zy (nG ha.1) (nG hb.1) hu
  rcases h with h | ⟨_,h⟩
  ·have e1:=gR ha.1 ha.2 dC
   rw [h1,gR hb.1 hb.2 dC] at e1
   exact h (Option.some.inj e1).symm
  ·exact vm (fun m hm=>hp m (by simp [hm])) (fun m hm=>hq m (by simp [hm])) h h2
theorem qD {p q : List Int} (hp : ∀ m ∈ p,0 ≤ m ∧ m ≤ 999999) (hq : ∀ m ∈ q,0 ≤ m ∧ m ≤ 999999) (h : fh p q) : iO (bN p) (bN q) = false:=by
 have np : p ≠ []:=by rintro rfl;exact h
 have nq : q ≠ []:=by
  rintro rfl
  cases p with
  | nil=>exact h
  | cons=>exact h
 have h0:=vm hp hq h
 rw [← tC np,← tC nq] at h0
 have e2 : bN p ≠ bN q:=fun e=>h0 ⟨[],by rw [e,List.append_nil]⟩
 rw [yd (lk np) e2]
 cases hc : (bN p ++ [47]).isPrefixOf (bN q) with
 | false=>rfl
 | true =>
  obtain ⟨u,hu⟩:=List.isPrefixOf_iff_prefix.1 hc
  exact absurd ⟨u ++ [47],by rw [← hu];simp⟩ h0
def k5 (ts : List Ty) (k : ael) (v : V) (ds : List (List Int × V)) : Prop:=∀ d ∈ ds,(∃ k' v',bP ts k v d.1 = some (k',v') ∧ OfK ts k' d.2) ∧ ∀ n ∈ d.1,0 ≤ n
abbrev sq (ds : List (List Int × V)) : Prop:=ds.Pairwise fun c d=>fh c.1 d.1
theorem nB (hw : SchW ts) {k : ael} {v : V} (hk : ax ts k = true) (hv : OfK ts k v) {d : List Int × V} {r : List (List Int × V)} (ha : ∀ x ∈ r,fh d.1 x.1) (h : k5 ts k v (d :: r)) : OfK ts k (bD ts k v d.1 d.2) ∧ k5 ts k (bD ts k v d.1 d.2) r:=by
 obtain ⟨⟨k1,v1,f1,f2⟩,f3⟩:=h d (by simp)
 refine ⟨dL hw hv hk f3 f1 f2,fun x hx=>?_⟩
 obtain ⟨⟨k2,v2,g1,g2⟩,g3⟩:=h x (by simp [hx])
 exact ⟨⟨k2,v2,by rw [kI hw hv hk f3 g3 f1 f2 (fF (ha x hx))];exact g1,g2⟩,g3⟩
theorem vz (hw : SchW ts) {k : ael} (hk : ax ts k = true) : ∀ {ds : List (List Int × V)} {v : V},OfK ts k v → sq ds → iZ ts k v ds → k5 ts k v ds
 | [],_,_,_,_=>fun d hd=>by cases hd
 | d :: r,v,hv,hp,⟨⟨⟨k1,v1,f1,f2⟩,f3⟩,f4⟩=>by
  replace hp:=List.pairwise_cons.1 hp
  have ih:=vz hw hk (dL hw hv hk f3 f1 f2) hp.2 f4
  intro x hx
  rcases List.mem_cons.1 hx with rfl | hx
  ·exact ⟨⟨k1,v1,f1,f2⟩,f3⟩
  ·obtain ⟨⟨k2,v2,g1,g2⟩,g3⟩:=ih x hx
   rw [kI hw hv hk f3 g3 f1 f2 (fF (hp.1 x hx))] at g1
   exact ⟨⟨k2,v2,g1,g2⟩,g3⟩
theorem vp (hw : SchW ts) {k : ael} (hk : ax ts k = true) : ∀ {ds : List (List Int × V)} {v : V},OfK ts k v → sq ds → k5 ts k v ds → iZ ts k v ds
 | [],_,_,_,_=>trivial
 | d :: r,v,hv,hp,h=>by
  replace hp:=List.pairwise_cons.1 hp
  obtain ⟨h1,h2⟩:=nB hw hk hv hp.1 h
  exact ⟨h d (by simp),vp hw hk h1 hp.2 h2⟩
theorem oX (hw : SchW ts) {k : ael} (hk : ax ts k = true) {d : List Int × V} : ∀ {r : List (List Int × V)} {v : V},OfK ts k v → sq (d :: r) → k5 ts k v (d :: r) → dF ts k (bD ts k v d.1 d.2) r = bD ts k (dF ts k v r) d.1 d.2
 | [],_,_,_,_=>rfl
 | x :: r,v,hv,hp,h=>by
  have hp0:=List.pairwise_cons.1 hp
  have hp1:=List.pairwise_cons.1 hp0.2
  have hdx:=hp0.1 x (by simp)
  obtain ⟨⟨k1,v1,f1,f2⟩,f3⟩:=h d (by simp)
  obtain ⟨⟨k2,v2,g1,g2⟩,g3⟩:=h x (by simp)
  have hap : ∀ y ∈ d :: r,fh x.1 y.1:=fun y hy=>by
   rcases List.mem_cons.1 hy with rfl | hy
   ·exact fF hdx
   ·exact hp1.1 y hy
  obtain ⟨n1,n2⟩:=nB hw hk hv (d:=x) (r:=d :: r) hap fun y hy=>h y (by
   rcases List.mem_cons.1 hy with rfl | hy
   ·simp
   ·rcases List.mem_cons.1 hy with rfl | hy
    ·simp
    ·simp [hy])
  rw [dF,dF,oD hw hv hk f3 g3 f1 g1 f2 g2 (fF hdx)]
  exact oX hw hk n1 (List.pairwise_cons.2 ⟨fun y hy=>hp0.1 y (by simp [hy]),hp1.2⟩) n2
theorem vr (hw : SchW ts) {k : ael} (hk : ax ts k = true) {d : List Int × V} {ys : List (List Int × V)} : ∀ {xs : List (List Int × V)} {v : V},OfK ts k v → sq (xs ++ d :: ys) → k5 ts k v (xs ++ d :: ys) → dF ts k v (xs ++ d :: ys) = bD ts k (dF ts k v (xs ++ ys)) d.1 d.2
 | [],v,hv,hp,h=>oX hw hk hv hp h
 | x :: xs,v,hv,hp,h=>by
  rw [List.cons_append] at hp h
  have hp0:=List.pairwise_cons.1 hp
  obtain ⟨n1,n2⟩:=nB hw hk hv hp0.1 h
  rw [List.cons_append,List.cons_append,dF,dF]
  exact vr hw hk n1 hp0.2 n2
theorem sL (hw : SchW ts) {k : ael} (hk : ax ts k = true) {v : V} (hv : OfK ts k v) : ∀ {es bs : List (List Int × V)},sq (es ++ bs) → k5 ts k v (es ++ bs) → dF ts k v (es ++ bs) = dF ts k v (bs ++ es)
 | [],bs,_,_=>by rw [List.append_nil];rfl
 | d :: es,bs,hp,h=>by
  have hq : sq (bs ++ d :: es):=(List.Perm.pairwise_iff (fun h=>fF h) (List.perm_append_comm (l₁:=d :: es) (l₂:=bs))).1 hp
  rw [vr hw hk hv hq (fun x hx=>h x (List.mem_append.2 (List.mem_append.1 hx).symm))]
  rw [List.cons_append] at hp h
  have hp0:=List.pairwise_cons.1 hp
  rw [← sL hw hk hv hp0.2 fun x hx=>h x (by simp at hx ⊢;exact Or.inr hx)]
  rw [List.cons_append,dF]
  exact oX hw hk hv hp h
theorem ss {s k w t : ael} {l : List Ch} (h : cD s k w t = some l) (m : Nat) : gu (l.take m) (l.drop m) = true ∧ gZ s k w (l.take m ++ l.drop m) = some t ∧ ∀ z,gZ s k w (l.drop m ++ l.take m) = some z → z = t:=by
 have hd:=(uO h).1
 unfold cD at h
 split at h
 ·rename_i ts a b h1 ha hb
  split at h
  ·cases h
   obtain ⟨ts',g1,g2,g3,g4,g5⟩:=cQ ha
   obtain rfl : ts = ts':=Option.some.inj (h1.symm.trans g1)
   obtain ⟨ts',i1,i2,i3,i4,i5⟩:=cQ hb
   obtain rfl : ts = ts':=Option.some.inj (h1.symm.trans i1)
   have hw:=dV h1
   have oa:=c9 g3
   have ob:=c9 i3
   obtain ⟨a1,a2,a3⟩:=eA g3
   obtain ⟨b1,b2,b3⟩:=eA i3
   have hl:=sC hw 12 oa ob g2 (Or.inl a3) (Or.inl b3)
   obtain ⟨e1,e2⟩:=pe hw oa ob g2 hl
   have hin:=kj (n:=13) (q:=[]) hw oa ob g2 ⟨a3,by rw [a1];exact a2⟩ ⟨b3,by rw [b1];exact b2⟩ (fun m hm=>by cases hm)
   have hap : sq (bB ts 13 k a b []):=qj
   have hfl:=vz hw g2 oa hap e1
   unfold dK at hd ⊢
   generalize hds : bB ts 13 k a b [] = ds at *
   rw [← List.map_take,← List.map_drop,← List.map_append,← List.map_append,List.take_append_drop]
   have hsp : ds.take m ++ ds.drop m = ds:=List.take_append_drop m ds
   refine ⟨?_,hd,fun z hz=>?_⟩
   ·unfold gu
    refine List.all_eq_true.2 fun x hx=>?_
    obtain ⟨c,hc,rfl⟩:=List.mem_map.1 hx
    unfold fG
    refine List.all_eq_true.2 fun y hy=>?_
    obtain ⟨d,hd2,rfl⟩:=List.mem_map.1 hy
    have hcd : fh c.1 d.1:=by
     rw [← hsp] at hap
     exact (List.pairwise_append.1 hap).2.2 c hc d hd2
    have hc2:=(hin c (List.mem_of_mem_take hc)).1
    have hd3:=(hin d (List.mem_of_mem_drop hd2)).1
    show (!(iO (bN c.1) (bN d.1) || iO (bN d.1) (bN c.1))) = true
    rw [qD hc2 hd3 hcd,qD hd3 hc2 (fF hcd)]
    rfl
   ·have hpq : sq (ds.drop m ++ ds.take m):=(List.Perm.pairwise_iff (fun h=>fF h) (List.perm_append_comm (l₁:=ds.take m) (l₂:=ds.drop m))).1 (by rw [hsp];exact hap)
    have hmem : ∀ d ∈ ds.drop m ++ ds.take m,d ∈ ds:=fun d hd=>by
     rcases List.mem_append.1 hd with hd | hd
     ·exact List.mem_of_mem_drop hd
     ·exact List.mem_of_mem_take hd
    have hfq : k5 ts k a (ds.drop m ++ ds.take m):=fun d hd=>hfl d (hmem d hd)
    have hok:=vp hw g2 oa hpq hfq
    have htn:=sL hw g2 oa (es:=ds.take m) (bs:=ds.drop m) (by rw [hsp];exact hap) (by rw [hsp];exact hfl)
    unfold gZ at hz
    split at hz
    ·rw [← a1] at hz
     have:=(pq hw h1 g2 oa hok (fun d hd=>(hin d (hmem d hd)).1) hz).1
     rw [← htn,hsp,e2,b1] at this
     exact this
    ·cases hz
  ·cases h
 ·cases h
theorem zV {l : List Ch} (h : ∀ x ∈ l,mR x) : ∀ x ∈ l,x.1.length ≤ 1048576 ∧ x.2.length ≤ 1048576:=fun x hx=>by have:=h x hx;exact ⟨oM,oM⟩
theorem aaG {a b : List Ch} : ag dk a ++ ag dk b = ag dk (a ++ b):=by
 induction a with
 | nil=>rfl
 | cons c a ih=>rw [List.cons_append,fC,fC,List.append_assoc,ih]
theorem vG {v : Value} {a b : List Ch} {m : Nat} (hm : m = (a ++ b).length) (h : aN G v 2 m (ag dk a ++ ag dk b)) : aN G v 2 (a ++ b).length (ag dk (a ++ b)):=by
 subst hm;rw [← aaG];exact h
theorem pz {v : Value} {l : ael} {v2 : Value} {l2 : ael} (hs : aN G v 1 l.length (cy l)) (hs2 : aN G v2 1 l2.length (cy l2)) : a7 aek 5 [v,v2] G (· = Bo true):=by
 obtain ⟨a,cap,rfl⟩:=hs.sl
 obtain ⟨a2,cap2,rfl⟩:=hs2.sl
 refine jB (Post:=fun v G' L'=>G' = G ∧ L' = [] ∧ _) [(0,_),(1,_)] Tryz.func5 Tryz.ntmps5 fun B hok hB hW=>?_
 repeat' (first | refine jR ?_ | (refine jo ?_;first | refine jV (af F) ?_ | refine aP F ?_ | refine aE F ?_ | (refine eE F F F (qz (by (repeat (assumption));done)) rfl ?_;rintro _ ⟨s1,k1,x1,y1,rfl,hsz⟩)) | refine ff F F (fun _=>?_) (fun _=>?_) | refine ac F F ?_ | refine eG F (fun _=>?_) (fun _=>?_))
 ·refine Nx.base hok hB ?_
  refine jY (vs:=[_]) ?_
  rfl
 ·refine Nx.base hok hB ?_
  refine jY (vs:=[_]) ?_
  rfl
 have cs:=fun G=>uC (G:=G) hsz
 have ci:=fun G=>uD (G:=G) hsz
 cases h : cD s1 k1 x1 y1 with
 | none =>
  rw [h] at cs ci
  dsimp only [Option.getD,Option.isSome] at cs ci
  refine jo ?_
  refine sE F F F (ci _) F ?_
  rintro _ G2 _ hle2 ⟨pw,cw,rfl,rfl⟩
  dsimp only [zA,fA]
  refine Nx.sealS (v:=.slice pw ([] : List Ch).length cw) fun G3 hle3 hx0=>?_
  repeat' (refine jR ?_)
  refine jo ?_
  refine sE F F F (cs _) F ?_
  rintro _ G4 _ hle4 ⟨pg,cg,rfl,rfl⟩
  dsimp only [zA,fA]
  have hx0:=hx0.mono hle4
  refine Nx.sealS (v:=.slice pg ([] : List Ch).length cg) fun G5 hle5 hw0=>?_
  have hx0:=hx0.mono hle5
  have cx_wf:=oF (G:=G5) hx0 hw0 dC (fun _ h=>by cases h) (fun _ h=>by cases h)
  rw [decide_eq_true rfl] at cx_wf
  repeat' (first | refine jR ?_ | (refine jo ?_;first | refine aP F ?_ | refine aE F ?_ | refine ae F F F cx_wf F ?_) | refine aF F F F ?_ | refine aw F F F ?_ | refine ac F F ?_)
  all_goals refine Nx.base hok hB ?_
  all_goals refine jY (vs:=[_]) ?_
  all_goals rfl
 | some ls =>
  obtain ⟨hln,hlc,hlb⟩:=ace h
  have hord:=fun m=>ss h m
  rw [h] at cs ci
  dsimp only [Option.getD,Option.isSome] at cs ci
  clear h
  refine jo ?_
  refine sE F F F (ci _) F ?_
  rintro _ G2 _ hle2 ⟨pw,cw,rfl,rfl⟩
  dsimp only [zA,fA]
  refine Nx.sealS (v:=.slice pw ls.length cw) fun G3 hle3 hx0=>?_
  repeat' (refine jR ?_)
  refine jo ?_
  refine sE F F F (cs _) F ?_
  rintro _ G4 _ hle4 ⟨pg,cg,rfl,rfl⟩
  dsimp only [zA,fA]
  have hx0:=hx0.mono hle4
  refine Nx.sealS (v:=.slice pg ls.length cg) fun G5 hle5 hw0=>?_
  have hx0:=hx0.mono hle5
  have hpc:=sU hx0
  have cx_wf:=oF (G:=G5) hx0 hw0 oM hlb hlb
  rw [decide_eq_true rfl] at cx_wf
  have hm0 : 2 ≤ ls.length → 0 ≤ (l2.length : Int) % (ls.length : Int):=fun h=>Int.emod_nonneg _ oM
  have hm1 : 2 ≤ ls.length → (l2.length : Int) % (ls.length : Int) < (ls.length : Int):=fun h=>Int.emod_lt_of_pos _ oM
  have hx0:=fun (_ : True)=>hx0
  have hlc:=fun (_ : True)=>hlc
  clear cs ci hw0
  repeat' (first | refine jM ?_ | (refine jo ?_;first | refine jV (af F) ?_ | refine aP F ?_ | refine aE F ?_ | refine ae F F F cx_wf F ?_) | refine aF F F F ?_ | refine aw F F F ?_ | refine eG F (fun _=>?_) (fun _=>?_))
  ·refine Nx.base hok hB ?_
   refine jY (vs:=[_]) ?_
   rfl
  have h2 : 2 ≤ ls.length:=oM
  have hm0:=hm0 h2
  have hm1:=hm1 h2
  generalize (l2.length : Int) % (ls.length : Int) = m at *
  obtain ⟨o1,o2,o3⟩:=hord m.toNat
  refine jo ?_
  refine adm F F ⟨oM,oM⟩ (hx0 trivial) F ?_
  intro p' sl2
  have sl2:=aaE sl2
  have e2:=List.length_drop (i:=m.toNat) (l:=ls)
  obtain ⟨sl1,e1⟩:=aaF (hx0 trivial) (m:=m.toNat) oM
  have cA : ∀ x ∈ ls.take m.toNat,mR x:=fun x hx=>hlc trivial x (List.mem_of_mem_take hx)
  have cB : ∀ x ∈ ls.drop m.toNat,mR x:=fun x hx=>hlc trivial x (List.mem_of_mem_drop hx)
  clear hord hx0 hlc hlb cx_wf
  generalize ls.take m.toNat = A at *
  generalize ls.drop m.toNat = C at *
  rw [e1] at sl1
  rw [e2] at sl2
  have sl1:=fun (_ : True)=>sl1
  have sl2:=fun (_ : True)=>sl2
  have cAC : True → (∀ x ∈ A ++ C,mR x) ∧ ∀ x ∈ C ++ A,mR x:=fun _=>⟨fun x hx=>(List.mem_append.1 hx).elim (cA x) (cB x),fun x hx=>(List.mem_append.1 hx).elim (cB x) (cA x)⟩
  have cA:=fun (_ : True)=>zV cA
  have cB:=fun (_ : True)=>zV cB
  have n1 : (A ++ C).length ≤ 1048576:=by rw [List.length_append];omega
  have n2 : (C ++ A).length ≤ 1048576:=by rw [List.length_append];omega
  repeat' (first | refine jR ?_ | (refine jo ?_;first | refine jV (qe F F oM) ?_ | refine jF fun _=>?_))
  refine Nx.blkAcc (m:=0) (sz:=2) .here F ?_
  refine jo ?_
  refine sF F F (sl1 trivial) F (kO _) F F F F oM fun v3=>?_
  repeat' (refine jR ?_)
  refine jo ?_
  refine sF F F (sl2 trivial) F (kO _) F F F F oM fun v4=>?_
  refine Nx.sealS (v:=v4) fun G6 hle6 sa=>?_
  replace sa:=vG (by rw [List.length_append];omega) sa
  have sl1:=fun (_ : True)=>(sl1 trivial).mono hle6
  have sl2:=fun (_ : True)=>(sl2 trivial).mono hle6
  have cx_d1:=kN (G:=G6) (s:=s1) (k:=k1) (w:=x1) oM sa n1 (cAC trivial).1
  rw [o2] at cx_d1
  unfold lv at cx_d1
  dsimp only [Option.getD,Option.isSome] at cx_d1
  clear sa
  repeat' (first | refine jR ?_ | (refine jo ?_;first | refine jF fun _=>?_ | refine ae F F F cx_d1 F ?_))
  clear cx_d1
  refine Nx.blkAcc (m:=0) (sz:=2) .here F ?_
  refine jo ?_
  refine sF F F (sl2 trivial) F (kO _) F F F F oM fun v5=>?_
  repeat' (refine jR ?_)
  refine jo ?_
  refine sF F F (sl1 trivial) F (kO _) F F F F oM fun v6=>?_
  refine Nx.sealS (v:=v6) fun G7 hle7 sa=>?_
  replace sa:=vG (by rw [List.length_append];omega) sa
  have sl1:=(sl1 trivial).mono hle7
  have sl2:=(sl2 trivial).mono hle7
  have cx_d1:=kN (G:=G7) (s:=s1) (k:=k1) (w:=x1) oM sa n2 (cAC trivial).2
  have cx_ap1:=uw (G:=G7) (by rw [e1];exact sl1) (by rw [e2];exact sl2) (cA trivial) (cB trivial) ⟨oM,oM⟩
  rw [o1] at cx_ap1
  have uw:=trivial
  unfold lv at cx_d1
  clear sa sl1 sl2
  cases hz : gZ s1 k1 x1 (C ++ A) with
  | none =>
   rw [hz] at cx_d1
   dsimp only [Option.getD,Option.isSome] at cx_d1
   repeat' (first | refine jR ?_ | (refine jo ?_;first | refine aP F ?_ | refine ae F F F cx_d1 F ?_ | refine ae F F F cx_ap1 F ?_) | refine aF F F F ?_)
   all_goals refine Nx.base hok hB ?_
   all_goals refine jY (vs:=[_]) ?_
   all_goals rfl
  | some z =>
   obtain rfl:=o3 z hz
   rw [hz] at cx_d1
   dsimp only [Option.getD,Option.isSome] at cx_d1
   repeat' (first | refine jR ?_ | (refine jo ?_;first | refine aP F ?_ | refine aE F ?_ | refine ae F F F cx_d1 F ?_ | refine ae F F F cx_ap1 F ?_) | refine aF F F F ?_ | refine aw F F F ?_)
   all_goals refine Nx.base hok hB ?_
   all_goals refine jY (vs:=[_]) ?_
   all_goals (exact congrArg Value.bool (decide_eq_true F))
end Go.E
