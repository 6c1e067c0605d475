/- Contracts and plain laws that the statement rests on, part 7. Conditions: as each says. -/
import Derived.Test.YthcpkoephapecaaGreatDoorT6
set_option linter.unusedVariables false
set_option linter.unusedSimpArgs false
namespace Go.E
set_option maxRecDepth 20000
set_option maxHeartbeats 2000000
open Go.Proofs
variable {G : Gh}
def gD (p : Int → Bool) (m : Nat) : List Int:=((List.range m).map fun i : Nat=>(i : Int) + 1).filter p
theorem rB (p : Int → Bool) (m : Nat) : gD p (m + 1) = gD p m ++ if p ((m : Int) + 1) = true then [(m : Int) + 1] else []:=by
 unfold gD
 rw [List.range_succ,List.map_append,List.filter_append]
 congr 1
 simp only [List.map_cons,List.map_nil]
 by_cases h : p ((m : Int) + 1) = true
 ·rw [if_pos h,List.filter_cons_of_pos h,List.filter_nil]
 ·rw [if_neg h,List.filter_cons_of_neg h,List.filter_nil]
theorem yx (p : Int → Bool) (m : Nat) : (gD p m).length ≤ m:=by
 unfold gD
 refine Nat.le_trans (List.length_filter_le _ _) ?_
 simp
def nF (m : Nat) : List Int:=(List.range m).map fun i : Nat=>(i : Int)
theorem wT (m : Nat) : nF (m + 1) = nF m ++ [(m : Int)]:=by unfold nF;rw [List.range_succ,List.map_append];rfl
theorem yw (m : Nat) : (nF m).length = m:=by unfold nF;simp
theorem yS {a b : List Int} {n : Int} : (a ++ b).contains n = true ↔ (∃ i,i < a.length ∧ ab a i = n) ∨ ∃ i,i < b.length ∧ ab b i = n:=by
 rw [List.contains_iff_mem,List.mem_append]
 constructor
 ·rintro (h | h)
  ·obtain ⟨i,hi,e⟩:=List.mem_iff_getElem.1 h
   exact .inl ⟨i,hi,by rw [aA hi];exact e⟩
  ·obtain ⟨i,hi,e⟩:=List.mem_iff_getElem.1 h
   exact .inr ⟨i,hi,by rw [aA hi];exact e⟩
 ·rintro (⟨i,hi,e⟩ | ⟨i,hi,e⟩)
  ·exact .inl (by rw [← e];exact be hi)
  ·exact .inr (by rw [← e];exact be hi)
abbrev rI : TypeId:=3
theorem vu {ts : List Ty} {k : List UInt8} {a b : V} {ba bb : Nat} (ha : RepR G ts a k ba) (hb : RepR G ts b k bb) (oa : OfK ts k a) (ob : OfK ts k b) (ht : a.tot ≤ 100000 ∧ b.tot ≤ 100000) (hd : cI a b = true) :
  bB Tryz.prog 62 [Pt ba 0,Pt bb 0] G (fun v G'=>∃ p c,v = .slice p (bc a b).length c ∧ aP G' (.slice p (bc a b).length c) 1 (bc a b).length (aj cB (bc a b))):=by
 have hwh:=vC oa ob
 obtain ⟨tx,a1,c1,a2,c2,hsa,hta,hca⟩:=lD ha
 obtain ⟨ty,b1,d1,b2,d2,hsb,htb,hcb⟩:=lD hb
 have kid : (a.what = 91 ∨ a.what = 63) → ∀ c r,k = c :: r → c.toNat ≠ 64 → bB Tryz.prog 62 [Pt ba 0,Pt bb 0] G (fun v G'=>∃ p c,v = .slice p (bc a b).length c ∧ aP G' (.slice p (bc a b).length c) 1 (bc a b).length (aj cB (bc a b))):=fun hw c r hk hc=>by
  subst hk
  have hk0 : bt (c :: r) (Int.toNat 0) = c.toNat:=bh c r
  have hkl : (c :: r).length = r.length + 1:=rfl
  have hlk : 20 * a.kids.length ≤ a.tot:=by
   obtain ⟨w1,x,t,ks⟩:=a
   rw [br,V.kids]
   have:=c7 ks
   omega
  have e : bc a b = nF a.kids.length:=by unfold bc;rw [if_pos hw];rfl
  rw [e,yw]
  refine jB [(0,_),(1,_)] Tryz.func62 Tryz.ntmps62 fun B hok hB hW=>?_
  repeat' (first | refine jM ?_ | (refine jo ?_;first | refine jF fun _=>?_ | refine jV (ah rfl rfl aS rfl rfl) ?_) | refine ac rfl (ay oM) ?_)
  rename_i y
  refine Nx.blkAcc (m:=0) (sz:=1) .here rfl ?_
  refine aV (ι:=Nat × Option Addr × Nat) (fun i=>i.1 ≤ a.kids.length) (fun i=>[(0,Pt ba 0),(5,.slice i.2.1 i.1 i.2.2),(6,I i.1)]) (fun _=>G) (fun i=>[.acc (.slice i.2.1 i.1 i.2.2) rI 1 i.1 (aj cB (nF i.1))]) (fun i=>a.kids.length - i.1) (0,some ⟨y,0,none⟩,0) ?_ tU rfl a8 (fun i Hi=>?_)
  ·exact Nat.zero_le _
  obtain ⟨i,p,cap⟩:=i
  dsimp only at Hi ⊢
  have hrow : aj cB (nF (i + 1)) = aj cB (nF i) ++ [I (i : Nat)]:=by rw [wT];exact bO cB (nF i) _
  by_cases hi : i < a.kids.length
  ·repeat' (first | refine jM ?_ | (refine jo ?_;first | refine jF fun _=>?_ | refine jV (ah rfl rfl aS rfl rfl) ?_ | refine jV (af rfl) ?_ | refine bC rfl rfl rfl rfl rfl rfl rfl rfl rfl oM fun _ _=>?_) | refine ac rfl (ay oM) ?_)
   rename_i y1 av cv
   exact bj (i + 1,some ⟨av,0,none⟩,cv) (by dsimp only;omega) (by dsimp only;omega) tU rfl (by dsimp only;rw [hrow];repeat (first | exact List.nil_sublist _ | apply List.Sublist.cons_cons))
  ·obtain rfl : i = a.kids.length:=oM
   repeat' (first | refine jR ?_ | (refine jo ?_;first | refine jV (ah rfl rfl aS rfl rfl) ?_ | refine jV (af rfl) ?_) | refine ad rfl (aG oM) ?_)
   refine Nx.sealS (v:=.slice p a.kids.length cap) fun G2 hG2 hsl=>?_
   refine jZ (vs:=[_]) rfl ⟨rfl,trivial⟩ rfl ⟨hG2,rfl,?_⟩
   exact ⟨_,_,rfl,hsl⟩
 rcases hca with ⟨⟨r,rfl⟩,h⟩ | ⟨⟨r,rfl⟩,h⟩ | ⟨⟨r,rfl⟩,h⟩ | ⟨hk,h⟩
 ·have hk0 : bt (64 :: r) (Int.toNat 0) = 64:=bh 64 r
  have hkl : (64 :: r).length = r.length + 1:=rfl
  have ta : ic a = dD a:=by
   unfold cI at hd
   unfold ic dD
   by_cases h1 : a.what = 82
   ·rw [if_pos h1,if_pos h1]
   ·by_cases h2 : a.what = 85
    ·rw [if_neg h1,if_neg h1,if_pos (.inl h2)]
    ·rw [if_neg h1,if_neg h2,if_neg oM] at hd;cases hd
  have tb2 : ic b = dD b:=by
   unfold cI at hd
   unfold ic dD
   by_cases h1 : a.what = 82
   ·have h1b:=hwh.symm.trans h1
    rw [if_pos h1b,if_pos h1b]
   ·by_cases h2 : a.what = 85
    ·have h2b:=hwh.symm.trans h2
     have h1b : ¬ b.what = 82:=oM
     rw [if_neg h1b,if_neg h1b,if_pos (.inl h2b)]
    ·rw [if_neg h1,if_neg h2,if_neg oM] at hd;cases hd
  have e : bc a b = gD (fun n=>(dD a ++ dD b).contains n) 200:=by unfold bc;rw [if_neg oM];rfl
  rw [e]
  have hla : (dD a).length ≤ 100000:=by
   obtain ⟨w1,x,t,ks⟩:=a
   rw [br] at ht
   have:=c7 ks
   unfold dD
   rw [V.what,V.kids,V.tag]
   split
   ·rw [List.length_map];omega
   ·simp
  have hlb : (dD b).length ≤ 100000:=by
   obtain ⟨w1,x,t,ks⟩:=b
   rw [br] at ht
   have:=c7 ks
   unfold dD
   rw [V.what,V.kids,V.tag]
   split
   ·rw [List.length_map];omega
   ·simp
  rw [ta] at hsa hta
  rw [tb2] at hsb htb
  clear ta tb2 kid e hd
  generalize hTa : dD a = ta at *
  generalize hTb : dD b = tb2 at *
  generalize hP : (fun n=>(ta ++ tb2).contains n) = pp
  have hpy : ∀ n,pp n = true ↔ (∃ i,i < ta.length ∧ ab ta i = n) ∨ ∃ i,i < tb2.length ∧ ab tb2 i = n:=fun n=>by rw [← hP];exact yS
  refine jB [(0,_),(1,_)] Tryz.func62 Tryz.ntmps62 fun B hok hB hW=>?_
  repeat' (first | refine jM ?_ | (refine jo ?_;first | refine jF fun _=>?_ | refine jV (ah rfl rfl aS rfl rfl) ?_) | refine ad rfl rfl ?_)
  rename_i y
  refine Nx.blkAcc (m:=0) (sz:=1) .here rfl ?_
  refine aV (ι:=Nat × Option Addr × Nat) (fun i=>i.1 ≤ 200) (fun i=>[(0,Pt ba 0),(1,Pt bb 0),(5,.slice i.2.1 (gD pp i.1).length i.2.2),(7,I ((i.1 : Nat) + 1))]) (fun _=>G) (fun i=>[.acc (.slice i.2.1 (gD pp i.1).length i.2.2) rI 1 (gD pp i.1).length (aj cB (gD pp i.1))]) (fun i=>200 - i.1) (0,some ⟨y,0,none⟩,0) ?_ tU rfl a8 (fun i Hi=>?_)
  ·exact Nat.zero_le _
  obtain ⟨m,p,cap⟩:=i
  dsimp only at Hi ⊢
  have hml:=yx pp m
  by_cases hm : m < 200
  ·repeat' (first | refine jR ?_ | refine ac rfl (ay oM) ?_)
   refine aV (ι:=Nat) (fun j=>j ≤ ta.length + tb2.length ∧ (∀ i,i < j → i < ta.length → ab ta i ≠ (m : Int) + 1) ∧ ∀ i,ta.length + i < j → ab tb2 i ≠ (m : Int) + 1) (fun j=>[(0,Pt ba 0),(1,Pt bb 0),(5,.slice p (gD pp m).length cap),(7,I ((m : Nat) + 1)),(8,I j)]) (fun _=>G) (fun j=>[.acc (.slice p (gD pp m).length cap) rI 1 (gD pp m).length (aj cB (gD pp m))]) (fun j=>ta.length + tb2.length - j) 0 ?_ tU rfl a8 (fun j Hj=>?_)
   ·exact ⟨Nat.zero_le _,fun i h=>absurd h (Nat.not_lt_zero _),fun i h=>absurd h (Nat.not_lt_zero _)⟩
   obtain ⟨hj0,hj1,hj2⟩:=Hj
   have hrow1 : pp ((m : Int) + 1) = true → aj cB (gD pp (m + 1)) = aj cB (gD pp m) ++ [I ((m : Nat) + 1)] ∧ (gD pp (m + 1)).length = (gD pp m).length + 1:=fun h=>by
    rw [rB,if_pos h]
    exact ⟨bO cB (gD pp m) _,by rw [List.length_append];rfl⟩
   have hrow0 : ¬ pp ((m : Int) + 1) = true → gD pp (m + 1) = gD pp m:=fun h=>by rw [rB,if_neg h,List.append_nil]
   by_cases hj : j < ta.length + tb2.length
   ·by_cases h1 : j < ta.length
    ·obtain ⟨xb,xo,xc,e1,hxa⟩:=hta.expl oM
     simp only [Value.slice.injEq] at e1
     obtain ⟨rfl,-,rfl⟩:=e1
     have hti : ab ta j = ab ta j:=rfl
     by_cases h2 : ab ta j = (m : Int) + 1
     ·obtain ⟨f1,f2⟩:=hrow1 ((hpy _).2 (.inl ⟨j,h1,h2⟩))
      repeat' (first | refine jM ?_ | (refine jo ?_;first | refine jF fun _=>?_ | refine bC rfl rfl rfl rfl rfl rfl rfl rfl rfl oM fun _ _=>?_) | (refine ac rfl (by first | rfl | (refine decide_eq_true ?_;(omega))) ?_) | (refine am (an (id:=12) _ (fun _ h=>h) al ?_);refine jT 6 [0,1,2,3,6,7,8] (aa 13 463) ?_;(refine jG (aa 13 479) 4 rfl (ah rfl rfl aS rfl rfl) ?_);(refine jG (aa 13 511) 5 rfl (af rfl) ?_);(refine jG (aa 13 1023) 9 rfl (ah rfl rfl aS rfl rfl) ?_);(refine jG (aa 13 2047) 10 rfl (af rfl) ?_);refine jW 0 [11,12] (aa 13 8191) ?_;refine jQ ?_) | (refine am (an (id:=14) _ (fun _ h=>h) al ?_);refine jT 40 [0,1,2,3] (aa 44 15) ?_;(refine jG (aa 44 31) 4 rfl (ah rfl rfl aS rfl rfl) ?_);(refine jG (aa 44 63) 5 rfl (af rfl) ?_);refine jT 36 [6,7] (aa 44 255) ?_;(try ((refine Nx.re (d:=56) (v':=Bo true) rfl (congrArg Value.bool (ay oM)) ?_)));refine jT 31 [8,9,10,12,15] (aa 44 38911) ?_;(refine jG (aa 44 40959) 11 rfl (ah rfl rfl aS rfl rfl) ?_);(refine jG (aa 44 49151) 13 rfl (ak rfl rfl oM) ?_);((refine jG (aa 44 65535) 14 rfl (bU rfl rfl aS ?_ aS rfl) ?_;focus omega));refine jT 27 [16] (aa 44 131071) ?_;(refine jG (aa 44 262143) 17 rfl (bL rfl rfl rfl) ?_);refine jT 25 [18] (aa 44 524287) ?_;(try (refine Nx.re (d:=67) (v':=Bo true) rfl (congrArg Value.bool (ay rfl)) ?_));refine jT 21 [19,20,21,22] (aa 44 8388607) ?_;(refine jN (aa 44 16777215) 23 rfl ?_);(refine jN (aa 44 33554431) 24 rfl ?_);refine jT 17 [25,26] (aa 44 134217727) ?_;(try (fail));refine jT 9 [27,28,29,31,32,33,34,40] (aa 44 1132797624319) ?_;(refine jN (aa 44 1133871366143) 30 rfl ?_);(refine jN (aa 44 1168231104511) 35 rfl ?_);(refine jN (aa 44 1236950581247) 36 rfl ?_);refine jT 5 [37] (aa 44 1374389534719) ?_;(refine jN (aa 44 1649267441663) 38 rfl ?_);(refine jN (aa 44 2199023255551) 39 rfl ?_);refine jT 2 [41] (aa 44 4398046511103) ?_;(refine jN (aa 44 8796093022207) 42 rfl ?_);(refine jG (aa 44 17592186044415) 43 rfl (bL rfl rfl rfl) ?_);refine jQ ?_))
      rename_i y1 b' c'
      exact bj (m + 1,some ⟨b',0,none⟩,c') (by dsimp only;omega) (by dsimp only;omega) (by dsimp only;rw [f2];repeat (first | exact trivial | refine ⟨rfl,?_⟩)) rfl (by dsimp only;rw [f1,f2];repeat (first | exact List.nil_sublist _ | apply List.Sublist.cons_cons))
     ·repeat' (first | refine jM ?_ | refine ac rfl (ay oM) ?_ | refine ad rfl rfl ?_ | (refine am (an (id:=12) _ (fun _ h=>h) al ?_);refine jT 6 [0,1,2,3,6,7,8] (aa 13 463) ?_;(refine jG (aa 13 479) 4 rfl (ah rfl rfl aS rfl rfl) ?_);(refine jG (aa 13 511) 5 rfl (af rfl) ?_);(refine jG (aa 13 1023) 9 rfl (ah rfl rfl aS rfl rfl) ?_);(refine jG (aa 13 2047) 10 rfl (af rfl) ?_);refine jW 0 [11,12] (aa 13 8191) ?_;refine jQ ?_) | (refine am (an (id:=14) _ (fun _ h=>h) al ?_);refine jT 40 [0,1,2,3] (aa 44 15) ?_;(refine jG (aa 44 31) 4 rfl (ah rfl rfl aS rfl rfl) ?_);(refine jG (aa 44 63) 5 rfl (af rfl) ?_);refine jT 36 [6,7] (aa 44 255) ?_;(try ((refine Nx.re (d:=56) (v':=Bo true) rfl (congrArg Value.bool (ay oM)) ?_)));refine jT 31 [8,9,10,12,15] (aa 44 38911) ?_;(refine jG (aa 44 40959) 11 rfl (ah rfl rfl aS rfl rfl) ?_);(refine jG (aa 44 49151) 13 rfl (ak rfl rfl oM) ?_);((refine jG (aa 44 65535) 14 rfl (bU rfl rfl aS ?_ aS rfl) ?_;focus omega));refine jT 27 [16] (aa 44 131071) ?_;(refine jG (aa 44 262143) 17 rfl (bL rfl rfl rfl) ?_);refine jT 25 [18] (aa 44 524287) ?_;(try (refine Nx.re (d:=67) (v':=Bo false) rfl (congrArg Value.bool (aG ‹_›)) ?_));refine jT 21 [19,20,21,22] (aa 44 8388607) ?_;(refine jG (aa 44 16777215) 23 rfl (ah rfl rfl aS rfl rfl) ?_);(refine jG (aa 44 33554431) 24 rfl (af rfl) ?_);refine jT 17 [25,26] (aa 44 134217727) ?_;(try ((refine Nx.re (d:=75) (v':=Bo false) rfl (congrArg Value.bool (aG oM)) ?_)));refine jT 9 [27,28,29,31,32,33,34,40] (aa 44 1132797624319) ?_;(refine jN (aa 44 1133871366143) 30 rfl ?_);(refine jN (aa 44 1168231104511) 35 rfl ?_);(refine jN (aa 44 1236950581247) 36 rfl ?_);refine jT 5 [37] (aa 44 1374389534719) ?_;(refine jN (aa 44 1649267441663) 38 rfl ?_);(refine jN (aa 44 2199023255551) 39 rfl ?_);refine jT 2 [41] (aa 44 4398046511103) ?_;(refine jG (aa 44 8796093022207) 42 rfl (bi rfl rfl rfl) ?_);(refine jG (aa 44 17592186044415) 43 rfl (bi rfl rfl rfl) ?_);refine jQ ?_))
      exact bj (j + 1) ⟨oM,fun i hi hi2=>by
       rcases Nat.lt_or_ge i j with h | h
       ·exact hj1 i h hi2
       ·obtain rfl : i = j:=oM
        exact h2,fun i hi=>by omega⟩ oM tU rfl a8
    ·obtain ⟨i,rfl⟩ : ∃ i,j = ta.length + i:=⟨j - ta.length,oM⟩
     obtain ⟨xb,xo,xc,e1,hxb⟩:=htb.expl oM
     simp only [Value.slice.injEq] at e1
     obtain ⟨rfl,-,rfl⟩:=e1
     have hix : (((ta.length + i : Nat) : Int) - (ta.length : Nat)).toNat = i:=oM
     by_cases h2 : ab tb2 (((ta.length + i : Nat) : Int) - ((ta.length : Nat) : Int)).toNat = (m : Int) + 1
     ·obtain ⟨f1,f2⟩:=hrow1 ((hpy _).2 (.inr ⟨i,oM,by rw [← hix];exact h2⟩))
      repeat' (first | refine jM ?_ | (refine jo ?_;first | refine jF fun _=>?_ | refine bC rfl rfl rfl rfl rfl rfl rfl rfl rfl oM fun _ _=>?_) | (refine ac rfl (by refine decide_eq_true ?_;first | rfl | omega) ?_) | (refine am (an (id:=12) _ (fun _ h=>h) al ?_);refine jT 6 [0,1,2,3,6,7,8] (aa 13 463) ?_;(refine jG (aa 13 479) 4 rfl (ah rfl rfl aS rfl rfl) ?_);(refine jG (aa 13 511) 5 rfl (af rfl) ?_);(refine jG (aa 13 1023) 9 rfl (ah rfl rfl aS rfl rfl) ?_);(refine jG (aa 13 2047) 10 rfl (af rfl) ?_);refine jW 0 [11,12] (aa 13 8191) ?_;refine jQ ?_) | (refine am (an (id:=14) _ (fun _ h=>h) al ?_);refine jT 40 [0,1,2,3] (aa 44 15) ?_;(refine jG (aa 44 31) 4 rfl (ah rfl rfl aS rfl rfl) ?_);(refine jG (aa 44 63) 5 rfl (af rfl) ?_);refine jT 36 [6,7] (aa 44 255) ?_;(try ((refine Nx.re (d:=56) (v':=Bo false) rfl (congrArg Value.bool (aG oM)) ?_)));refine jT 31 [8,9,10,12,15] (aa 44 38911) ?_;(refine jN (aa 44 40959) 11 rfl ?_);(refine jN (aa 44 49151) 13 rfl ?_);(refine jN (aa 44 65535) 14 rfl ?_);refine jT 27 [16] (aa 44 131071) ?_;(refine jG (aa 44 262143) 17 rfl (bi rfl rfl rfl) ?_);refine jT 25 [18] (aa 44 524287) ?_;(try (refine Nx.re (d:=67) (v':=Bo false) rfl (congrArg Value.bool rfl) ?_));refine jT 21 [19,20,21,22] (aa 44 8388607) ?_;(refine jG (aa 44 16777215) 23 rfl (ah rfl rfl aS rfl rfl) ?_);(refine jG (aa 44 33554431) 24 rfl (af rfl) ?_);refine jT 17 [25,26] (aa 44 134217727) ?_;(try ((refine Nx.re (d:=75) (v':=Bo true) rfl (congrArg Value.bool (ay oM)) ?_)));refine jT 9 [27,28,29,31,32,33,34,40] (aa 44 1132797624319) ?_;(refine jG (aa 44 1133871366143) 30 rfl (ah rfl rfl aS rfl rfl) ?_);(refine jG (aa 44 1168231104511) 35 rfl (ah rfl rfl aS rfl rfl) ?_);(refine jG (aa 44 1236950581247) 36 rfl (af rfl) ?_);refine jW 5 [37] (aa 44 1374389534719) ?_;(refine jG (aa 44 1649267441663) 38 rfl (aM rfl rfl oM) ?_);((refine jG (aa 44 2199023255551) 39 rfl (bU rfl rfl aS ?_ aS rfl) ?_;focus omega));refine jT 2 [41] (aa 44 4398046511103) ?_;(refine jG (aa 44 8796093022207) 42 rfl (bL rfl rfl rfl) ?_);(refine jG (aa 44 17592186044415) 43 rfl (bi rfl rfl rfl) ?_);refine jQ ?_))
      rename_i y1 b' c'
      exact bj (m + 1,some ⟨b',0,none⟩,c') (by dsimp only;omega) (by dsimp only;omega) (by dsimp only;rw [f2];repeat (first | exact trivial | refine ⟨rfl,?_⟩)) rfl (by dsimp only;rw [f1,f2];repeat (first | exact List.nil_sublist _ | apply List.Sublist.cons_cons))
     ·have htj : ab tb2 (((ta.length + i : Nat) : Int) - ((ta.length : Nat) : Int)).toNat = ab tb2 (((ta.length + i : Nat) : Int) - ((ta.length : Nat) : Int)).toNat:=rfl
      repeat' (first | refine jM ?_ | refine ac rfl (ay oM) ?_ | refine ad rfl (aG ‹_›) ?_ | (refine am (an (id:=12) _ (fun _ h=>h) al ?_);refine jT 6 [0,1,2,3,6,7,8] (aa 13 463) ?_;(refine jG (aa 13 479) 4 rfl (ah rfl rfl aS rfl rfl) ?_);(refine jG (aa 13 511) 5 rfl (af rfl) ?_);(refine jG (aa 13 1023) 9 rfl (ah rfl rfl aS rfl rfl) ?_);(refine jG (aa 13 2047) 10 rfl (af rfl) ?_);refine jW 0 [11,12] (aa 13 8191) ?_;refine jQ ?_) | (refine am (an (id:=14) _ (fun _ h=>h) al ?_);refine jT 40 [0,1,2,3] (aa 44 15) ?_;(refine jG (aa 44 31) 4 rfl (ah rfl rfl aS rfl rfl) ?_);(refine jG (aa 44 63) 5 rfl (af rfl) ?_);refine jT 36 [6,7] (aa 44 255) ?_;(try ((refine Nx.re (d:=56) (v':=Bo false) rfl (congrArg Value.bool (aG oM)) ?_)));refine jT 31 [8,9,10,12,15] (aa 44 38911) ?_;(refine jN (aa 44 40959) 11 rfl ?_);(refine jN (aa 44 49151) 13 rfl ?_);(refine jN (aa 44 65535) 14 rfl ?_);refine jT 27 [16] (aa 44 131071) ?_;(refine jG (aa 44 262143) 17 rfl (bi rfl rfl rfl) ?_);refine jT 25 [18] (aa 44 524287) ?_;(try (refine Nx.re (d:=67) (v':=Bo false) rfl (congrArg Value.bool rfl) ?_));refine jT 21 [19,20,21,22] (aa 44 8388607) ?_;(refine jG (aa 44 16777215) 23 rfl (ah rfl rfl aS rfl rfl) ?_);(refine jG (aa 44 33554431) 24 rfl (af rfl) ?_);refine jT 17 [25,26] (aa 44 134217727) ?_;(try ((refine Nx.re (d:=75) (v':=Bo true) rfl (congrArg Value.bool (ay oM)) ?_)));refine jT 9 [27,28,29,31,32,33,34,40] (aa 44 1132797624319) ?_;(refine jG (aa 44 1133871366143) 30 rfl (ah rfl rfl aS rfl rfl) ?_);(refine jG (aa 44 1168231104511) 35 rfl (ah rfl rfl aS rfl rfl) ?_);(refine jG (aa 44 1236950581247) 36 rfl (af rfl) ?_);refine jW 5 [37] (aa 44 1374389534719) ?_;(refine jG (aa 44 1649267441663) 38 rfl (aM rfl rfl oM) ?_);((refine jG (aa 44 2199023255551) 39 rfl (bU rfl rfl aS ?_ aS rfl) ?_;focus omega));refine jT 2 [41] (aa 44 4398046511103) ?_;(refine jG (aa 44 8796093022207) 42 rfl (bL rfl rfl rfl) ?_);(refine jG (aa 44 17592186044415) 43 rfl (bi rfl rfl rfl) ?_);refine jQ ?_))
      exact bj (ta.length + i + 1) ⟨oM,fun i2 hi hi2=>hj1 i2 oM hi2,fun i2 hi=>by
       rcases Nat.lt_or_ge i2 i with h | h
       ·exact hj2 i2 oM
       ·obtain rfl : i2 = i:=oM
        rw [← hix];exact h2⟩ oM tU rfl a8
   ·have hno : ¬ pp ((m : Int) + 1) = true:=fun h=>by
     rcases (hpy _).1 h with ⟨i,hi,e⟩ | ⟨i,hi,e⟩
     ·exact hj1 i oM hi e
     ·exact hj2 i oM e
    have f0:=hrow0 hno
    repeat' (first | refine jM ?_ | refine ad rfl (aG oM) ?_ | (refine am (an (id:=12) _ (fun _ h=>h) al ?_);refine jT 6 [0,1,2,3,6,7,8] (aa 13 463) ?_;(refine jG (aa 13 479) 4 rfl (ah rfl rfl aS rfl rfl) ?_);(refine jG (aa 13 511) 5 rfl (af rfl) ?_);(refine jG (aa 13 1023) 9 rfl (ah rfl rfl aS rfl rfl) ?_);(refine jG (aa 13 2047) 10 rfl (af rfl) ?_);refine jW 0 [11,12] (aa 13 8191) ?_;refine jQ ?_))
    exact bj (m + 1,p,cap) (by dsimp only;omega) (by dsimp only;omega) (by dsimp only;rw [f0];repeat (first | exact trivial | refine ⟨rfl,?_⟩)) rfl (by dsimp only;rw [f0];repeat (exact List.Sublist.refl _))
  ·obtain rfl : m = 200:=oM
   repeat' (first | refine jR ?_ | refine ad rfl rfl ?_)
   refine Nx.sealS (v:=.slice p (gD pp 200).length cap) fun G2 hG2 hsl=>?_
   refine jZ (vs:=[_]) rfl ⟨rfl,trivial⟩ rfl ⟨hG2,rfl,?_⟩
   exact ⟨_,_,rfl,hsl⟩
 ·exact kid (.inl h) _ _ rfl dC
 ·exact kid (.inr h) _ _ rfl dC
 ·exfalso
  unfold cI at hd
  rw [if_neg oM,if_neg oM,if_neg oM] at hd
  cases hd
theorem up {ts : List Ty} (hw : SchW ts) {k : List UInt8} {v : V} (h : OfK ts k v) (hf : v.deep ≤ 12 ∧ v.out.length ≤ 400) : v.tot ≤ 40000:=by
 have:=gi _ _ _ _ (aan hw h hf.1)
 dsimp only at this
 omega
def stD (ts : List Ty) (n : Nat) (k : List UInt8) (a b : V) (q : List Int) (i : Int) : List (List Int × V):=match aE ts k a i,aE ts k b i with
 | some y,some z=>cq ts n y.1 y.2 z.2 (q ++ [i])
 | _,_=>[]
def d6 (ts : List Ty) (n : Nat) (k : List UInt8) (a b : V) (q : List Int) (i : Nat) : List (List Int × V):=((bc a b).take i).flatMap (stD ts n k a b q)
theorem yL {ts : List Ty} {n : Nat} {k : List UInt8} {a b : V} {q : List Int} (h1 : ¬ a.out = b.out) (h2 : cI a b = true) : cq ts (n + 1) k a b q = d6 ts n k a b q (bc a b).length:=by
 rw [cq,if_neg h1,if_pos h2,d6,List.take_length]
 rfl
theorem xa {ts : List Ty} {n : Nat} {k : List UInt8} {a b : V} {q : List Int} {i : Nat} (hi : i < (bc a b).length) {k1 : List UInt8} {y z : V} (e1 : aE ts k a (ab (bc a b) i) = some (k1,y)) (e2 : aE ts k b (ab (bc a b) i) = some (k1,z)) :
  d6 ts n k a b q (i + 1) = d6 ts n k a b q i ++ cq ts n k1 y z (q ++ [ab (bc a b) i]):=by
 unfold d6
 rw [cD hi,List.flatMap_append,List.flatMap_singleton]
 congr 1
 unfold stD
 rw [e1,e2]
theorem aap {ts : List Ty} {n : Nat} {k : List UInt8} {a b : V} {q : List Int} (i : Nat) : (d6 ts n k a b q i).length ≤ (d6 ts n k a b q (bc a b).length).length:=by
 unfold d6
 rw [List.take_length]
 conv=>rhs;rw [← List.take_append_drop i (bc a b),List.flatMap_append,List.length_append]
 omega
theorem vL {ts : List Ty} {k : List UInt8} {a b : V} (ha : OfK ts k a) : (bc a b).length ≤ 200:=by
 have hk : (a.what = 91 ∨ a.what = 63) → a.kids.length ≤ 20:=fun hwh=>by
  cases ha with
  | num=>rw [V.what] at hwh;omega
  | txt=>rw [V.what] at hwh;omega
  | flg=>rw [V.what] at hwh;omega
  | lst k ks h1 h2=>exact h1
  | non=>exact Nat.zero_le _
  | opt=>exact (by decide : (1 : Nat) ≤ 20)
  | recd=>rw [V.what] at hwh;omega
  | enm=>rw [V.what] at hwh;omega
  | uni=>rw [V.what] at hwh;omega
 unfold bc
 split
 ·rename_i h
  have:=hk h
  simp
  omega
 ·refine Nat.le_trans (List.length_filter_le _ _) ?_
  simp
abbrev lv : TypeId:=48
theorem zQ {vs : List co} (hw : SchW (ag vs)) : ∀ (n : Nat) {G : Gh} {u : Value} (_ : SchR G u vs) {k : List UInt8} {a b : V} {ba bb : Nat} (_ : RepR G (ag vs) a k ba) (_ : RepR G (ag vs) b k bb) (_ : OfK (ag vs) k a) (_ : OfK (ag vs) k b) (_ : aB (ag vs) k = true) (_ : a.deep ≤ 12 ∧ a.out.length ≤ 400) (_ : b.deep ≤ 12 ∧ b.out.length ≤ 400) (_ : k8 (ag vs) n k a b)
  {q : List Int} (_ : ∀ n ∈ q,0 ≤ n ∧ n ≤ 999999) (_ : q.length + n ≤ 1000) {p0 : Option Addr} {m cap : Nat} {out : List Ch} (_ : m = out.length) (_ : m + (cq (ag vs) n k a b q).length ≤ 1000000),
  fw Tryz.prog 37 [u,Pt ba 0,Pt bb 0,S (aR q),.slice p0 m cap] G [.acc (.slice p0 m cap) lv 2 m (aj eM out)]
   (fun r _ L'=>∃ p' cap',r = .slice p' (m + (cq (ag vs) n k a b q).length) cap' ∧ L' = [.acc (.slice p' (m + (cq (ag vs) n k a b q).length) cap') lv 2 (m + (cq (ag vs) n k a b q).length) (aj eM (out ++ (cq (ag vs) n k a b q).map eS))]):=by
 intro n
 induction n with
 | zero =>
  intro G u h k a b ba bb ha hb oa ob hk fa fb hl
  exact hl.elim
 | succ n ih =>
  intro G u h k a b ba bb ha hb oa ob hk fa fb hl q hq hql p0 m cap out hm hmx
  have hu:=h.sl.one
  obtain ⟨ua,uc,rfl⟩:=h.sl.sl
  have hta:=up hw oa fa
  have htb:=up hw ob fb
  have hpl:=dz hq
  have hstl:=vL (b:=b) oa
  by_cases ho : a.out = b.out
  ·have e : cq (ag vs) (n + 1) k a b q = []:=by rw [cq,if_pos ho]
   rw [e]
   simp only [List.length_nil,Nat.add_zero,List.map_nil,List.append_nil]
   refine bX [(0,_),(1,_),(2,_),(3,_),(4,_)] Tryz.func37 kR Tryz.ntmps37 rfl rfl tU fun B hB hW=>?_
   have cx_out:=fR hw ha oM
   repeat' (first | refine jR ?_ | (refine jo ?_;refine ae rfl rfl rfl cx_out rfl ?_))
   have cx_out:=fR hw hb oM
   repeat' (first | refine jR ?_ | (refine jo ?_;refine ae rfl rfl rfl cx_out rfl ?_) | refine ac rfl (ay ‹_›) ?_)
   exact aW (vs:=[_]) rfl ⟨rfl,trivial⟩ rfl a8 ⟨Gh.le.refl _,_,_,rfl,rfl⟩
  by_cases hd : cI a b = true
  ·have e:=yL (ts:=ag vs) (n:=n) (k:=k) (q:=q) ho hd
   rw [e] at hmx ⊢
   have cx_dp:=rl ha hb oa ob
   rw [hd] at cx_dp
   have cx_stp:=vu ha hb oa ob oM hd
   have hSq:=h
   have hra:=ha
   have hrb:=hb
   refine bX [(0,_),(1,_),(2,_),(3,_),(4,_)] Tryz.func37 kR Tryz.ntmps37 rfl rfl tU fun B hB hW=>?_
   have cx_out:=fR hw ha oM
   repeat' (first | refine jR ?_ | (refine jo ?_;refine ae rfl rfl rfl cx_out rfl ?_))
   have cx_out:=fR hw hb oM
   repeat' (first | refine jR ?_ | (refine jo ?_;first | refine jV (af rfl) ?_ | refine ae rfl rfl rfl cx_out rfl ?_ | refine ae rfl rfl rfl cx_dp rfl ?_ | (refine aq rfl rfl rfl cx_stp rfl ?_;rintro _ G hle ⟨sp,sc,rfl,hst⟩;(try have hSq:=SchR.mono hSq hle);(try have hra:=RepR.mono hle hra);(try have hrb:=RepR.mono hle hrb);(try have hrep1:=RepR.mono hle hrep1);(try have hrepy:=RepR.mono hle hrepy);(try have hgq:=Gh.le.trans hgq hle))) | (refine ad rfl (by first | rfl | (refine decide_eq_false ?_;(assumption))) ?_))
   have hle0:=hle
   rw [show aj eM out = aj eM (out ++ (d6 (ag vs) n k a b q 0).map eS) by rw [show d6 (ag vs) n k a b q 0 = [] from rfl,List.map_nil,List.append_nil]]
   refine aV (ι:=Nat × Option Addr × Nat × Gh) (fun i=>i.1 ≤ (bc a b).length ∧ Gh.le G i.2.2.2) (fun i=>[(0,.slice ua vs.length uc),(1,Pt ba 0),(2,Pt bb 0),(3,S (aR q)),(4,.slice i.2.1 (m + (d6 (ag vs) n k a b q i.1).length) i.2.2.1),(36,.slice sp (bc a b).length sc),(37,I (bc a b).length),(38,I i.1)]) (fun i=>i.2.2.2) (fun i=>[.acc (.slice i.2.1 (m + (d6 (ag vs) n k a b q i.1).length) i.2.2.1) lv 2 (m + (d6 (ag vs) n k a b q i.1).length) (aj eM (out ++ (d6 (ag vs) n k a b q i.1).map eS))]) (fun i=>(bc a b).length - i.1) (0,p0,cap,G) ?_ tU rfl a8 (fun i Hi=>?_)
   ·exact ⟨Nat.zero_le _,Gh.le.refl _⟩
   obtain ⟨i,p,cap,Gq⟩:=i
   dsimp only at Hi ⊢
   obtain ⟨hi0,hgq⟩:=Hi
   by_cases hi : i < (bc a b).length
   ·have hin:=be hi
    obtain ⟨k1,y,z,e1,e2⟩:=(iq hw oa ob hk hd).1 _ hin
    have hi0:=mz oa hin
    obtain ⟨y1,y2⟩:=cN hw oa hk hi0.1 e1
    obtain ⟨z1,_⟩:=cN hw ob hk hi0.1 e2
    have fy:=jh hw oa hk hi0.1 e1 fa.1 fa.2
    have fz:=jh hw ob hk hi0.1 e2 fb.1 fb.2
    have hls : k8 (ag vs) n k1 y z:=by
     rcases hl with h | h | h
     ·exact absurd h ho
     ·rw [hd] at h;cases h
     ·exact h _ hin (k1,y) (k1,z) e1 e2
    have hps:=xa (n:=n) (q:=q) hi e1 e2
    have hpe:=aap (ts:=ag vs) (n:=n) (k:=k) (a:=a) (b:=b) (q:=q) (i + 1)
    have hN1 : m + (d6 (ag vs) n k a b q (i + 1)).length = m + (d6 (ag vs) n k a b q i).length + (cq (ag vs) n k1 y z (q ++ [ab (bc a b) i])).length:=by rw [hps,List.length_append,Nat.add_assoc]
    have hN2 : out ++ (d6 (ag vs) n k a b q (i + 1)).map eS = out ++ (d6 (ag vs) n k a b q i).map eS ++ (cq (ag vs) n k1 y z (q ++ [ab (bc a b) i])).map eS:=by rw [hps,List.map_append,List.append_assoc]
    have hmo : m + (d6 (ag vs) n k a b q i).length = (out ++ (d6 (ag vs) n k a b q i).map eS).length:=by rw [List.length_append,List.length_map,hm]
    have hq2 : ∀ n ∈ q ++ [ab (bc a b) i],0 ≤ n ∧ n ≤ 999999:=kZ hq ⟨oM,oM⟩
    have cx_lof : ∀ G' b1 b2,SchR G' (.slice ua vs.length uc) vs → RepR G' (ag vs) y k1 b1 → RepR G' (ag vs) z k1 b2 → fw Tryz.prog 37 [.slice ua vs.length uc,Pt b1 0,Pt b2 0,S (aR (q ++ [ab (bc a b) i])),.slice p (m + (d6 (ag vs) n k a b q i).length) cap] G' [.acc (.slice p (m + (d6 (ag vs) n k a b q i).length) cap) lv 2 (m + (d6 (ag vs) n k a b q i).length) (aj eM (out ++ (d6 (ag vs) n k a b q i).map eS))]
      (fun r _ L'=>∃ p' cap',r = .slice p' (m + (d6 (ag vs) n k a b q i).length + (cq (ag vs) n k1 y z (q ++ [ab (bc a b) i])).length) cap' ∧ L' = [.acc (.slice p' (m + (d6 (ag vs) n k a b q i).length + (cq (ag vs) n k1 y z (q ++ [ab (bc a b) i])).length) cap') lv 2 (m + (d6 (ag vs) n k a b q i).length + (cq (ag vs) n k1 y z (q ++ [ab (bc a b) i])).length) (aj eM (out ++ (d6 (ag vs) n k a b q i).map eS ++ (cq (ag vs) n k1 y z (q ++ [ab (bc a b) i])).map eS))]):=fun G' b1 b2 g1 g2 g3 =>
     ih g1 g2 g3 y1 z1 y2 fy fz hls hq2 (by rw [List.length_append,List.length_singleton];omega) hmo oM
    have hSq:=hSq.mono hgq
    have hra:=hra.mono hgq
    have hrb:=hrb.mono hgq
    obtain ⟨xb,xo,xc,e,hs1⟩:=(hst.mono hgq).expl oM
    simp only [Value.slice.injEq] at e
    obtain ⟨rfl,-,rfl⟩:=e
    have hti : ab (bc a b) i = ab (bc a b) i:=rfl
    have cx_sty:=gC.yes (nC hSq hw hra oa hk (n:=ab (bc a b) i) ⟨oM,oM⟩ oM) e1
    repeat' (first | refine jR ?_ | (refine jo ?_;first | refine jV (ak rfl rfl oM) ?_ | (refine jV (bU rfl rfl aS ?_ aS rfl) ?_;focus omega) | (refine aq rfl rfl rfl cx_sty rfl ?_;rintro _ G hle ⟨b1,rfl,hrep1⟩;(try have hSq:=SchR.mono hSq hle);(try have hra:=RepR.mono hle hra);(try have hrb:=RepR.mono hle hrb);(try have hrep1:=RepR.mono hle hrep1);(try have hrepy:=RepR.mono hle hrepy);(try have hgq:=Gh.le.trans hgq hle))) | refine ac rfl (ay oM) ?_)
    have hrepy:=hrep1
    have cx_sty:=gC.yes (nC hSq hw hrb ob hk (n:=ab (bc a b) i) ⟨oM,oM⟩ oM) e2
    repeat' (first | refine jM ?_ | (refine jo ?_;first | (refine aq rfl rfl rfl cx_sty rfl ?_;rintro _ G hle ⟨b1,rfl,hrep1⟩;(try have hSq:=SchR.mono hSq hle);(try have hra:=RepR.mono hle hra);(try have hrb:=RepR.mono hle hrb);(try have hrep1:=RepR.mono hle hrep1);(try have hrepy:=RepR.mono hle hrepy);(try have hgq:=Gh.le.trans hgq hle)) | refine ae rfl rfl rfl (wC oM oM) rfl ?_ | (refine wI rfl rfl rfl ((cx_lof _ _ _) (by (repeat (assumption));done) (by (repeat (assumption));done) (by (repeat (assumption));done)) rfl ?_;rintro _ G1 _ hle ⟨av,cv,rfl,rfl⟩;dsimp only [zA,fA];(try have hSq:=SchR.mono hSq hle);(try have hra:=RepR.mono hle hra);(try have hrb:=RepR.mono hle hrb);(try have hrep1:=RepR.mono hle hrep1);(try have hrepy:=RepR.mono hle hrepy);(try have hgq:=Gh.le.trans hgq hle))))
    exact bj (i + 1,av,cv,_) ⟨by dsimp only;omega,hgq⟩ (by dsimp only;omega) (by dsimp only;rw [hN1];repeat (first | exact trivial | refine ⟨rfl,?_⟩)) rfl (by dsimp only;rw [hN1,hN2];repeat (exact List.Sublist.refl _))
   ·obtain rfl : i = (bc a b).length:=oM
    repeat' (first | refine jR ?_ | refine ad rfl (aG oM) ?_)
    exact aW (vs:=[_]) rfl ⟨rfl,trivial⟩ rfl a8 ⟨hle0.trans hgq,_,_,rfl,rfl⟩
  ·have e : cq (ag vs) (n + 1) k a b q = [(q,b)]:=by rw [cq,if_neg ho,if_neg hd]
   rw [e]
   simp only [List.length_singleton,List.map_cons,List.map_nil]
   have hd2 : cI a b = false:=by simpa using hd
   have cx_dp:=rl ha hb oa ob
   rw [hd2] at cx_dp
   have hrow : aj eM (out ++ [eS (q,b)]) = aj eM out ++ [S (aR q),S b.out]:=bO eM out (eS (q,b))
   refine bX [(0,_),(1,_),(2,_),(3,_),(4,_)] Tryz.func37 kR Tryz.ntmps37 rfl rfl tU fun B hB hW=>?_
   have cx_out:=fR hw ha oM
   repeat' (first | refine jR ?_ | (refine jo ?_;refine ae rfl rfl rfl cx_out rfl ?_))
   have cx_out:=fR hw hb oM
   repeat' (first | refine jR ?_ | (refine jo ?_;first | refine jV (ax rfl rfl) ?_ | refine jF fun _=>?_ | refine bC rfl rfl rfl rfl rfl rfl rfl rfl rfl oM fun _ _=>?_ | refine ae rfl rfl rfl cx_out rfl ?_ | refine ae rfl rfl rfl cx_dp rfl ?_) | refine ac rfl rfl ?_ | refine ad rfl (aG ‹_›) ?_)
   rw [hrow]
   exact aW (vs:=[_]) rfl ⟨rfl,trivial⟩ rfl sB ⟨Gh.le.refl _,_,_,rfl,rfl⟩
theorem rq {s k w : List UInt8} {p : Option Addr} {c : Nat} {T : TypeId} {l : List Ch} (h : s.length ≤ 1048576 ∧ k.length ≤ 1048576 ∧ w.length ≤ 1048576) (hn : l.length ≤ 1048576) (hl : ∀ x ∈ l,wP x) :
  dA Tryz.prog 20 [S s,S k,S w,.slice p l.length c] G [.acc (.slice p l.length c) T 2 l.length (aj eM l)] (fun v L'=>v = k4 (gH s k w l) ∧ L' = [.acc (.slice p l.length c) T 2 l.length (aj eM l)]):=by
 unfold gH
 have cx_wo:=pL (G:=G) h
 cases ho : ka s k w with
 | false =>
  rw [ho] at cx_wo
  rw [if_neg (by simp)]
  refine jH [(0,_),(1,_),(2,_),(3,_)] Tryz.func20 Tryz.ntmps20 fun B hB hW=>?_
  repeat' (first | refine jR ?_ | (refine jo ?_;refine ae rfl rfl rfl cx_wo rfl ?_) | refine ac rfl rfl ?_)
  all_goals refine aW (vs:=[_,_]) rfl ⟨rfl,rfl,trivial⟩ rfl a8 ⟨rfl,rfl,rfl⟩
 | true =>
  rw [ho] at cx_wo
  rw [if_pos rfl]
  refine jH [(0,_),(1,_),(2,_),(3,_)] Tryz.func20 Tryz.ntmps20 fun B hB hW=>?_
  repeat' (first | refine jR ?_ | (refine jo ?_;refine ae rfl rfl rfl cx_wo rfl ?_) | refine ad rfl rfl ?_)
  refine aV (ι:=Nat × List UInt8) (fun j=>(j.1 ≤ l.length ∧ dR s k w l = dR s k j.2 (l.drop j.1)) ∧ j.2.length ≤ 1048576) (fun j=>[(0,S s),(1,S k),(2,S j.2),(3,.slice p l.length c),(10,I (j.1 : Nat))]) (fun _=>G) (fun j=>[.acc (.slice p l.length c) T 2 l.length (aj eM l)]) (fun j=>l.length - j.1) (0,w) ?_ tU rfl a8 (fun j Hj=>?_)
  ·exact ⟨⟨Nat.zero_le _,rfl⟩,h.2.2⟩
  obtain ⟨i,t⟩:=j
  dsimp only at Hj ⊢
  obtain ⟨⟨hj1,hj2⟩,hj3⟩:=Hj
  by_cases hi : i < l.length
  ·refine Nx.shp (.head _) fun hsh=>?_
   obtain ⟨ba,ca,e⟩:=hsh.pos oM
   simp only [Value.slice.injEq] at e
   obtain ⟨rfl,-,rfl⟩:=e
   have hx:=hl _ (be hi)
   have cx_ps2:=pN (G:=G) (s:=s) (k:=k) (w:=t) (p:=(ab l i).1) (x:=(ab l i).2) ⟨h.1,h.2.1,hj3,hx.1⟩ hx.2
   rw [kj hi,dR] at hj2
   unfold k4 at cx_ps2
   cases hp : dH s k t (ab l i).1 (ab l i).2 with
   | none =>
    rw [hp] at cx_ps2 hj2
    dsimp only [Option.getD,Option.isSome] at cx_ps2 hj2
    repeat' (first | refine jR ?_ | (refine jo ?_;refine jV (af rfl) ?_) | (refine ac rfl (by first | rfl | (refine decide_eq_true ?_;(omega))) ?_) | (refine am (an (id:=6) _ (fun _ h=>h) al ?_);refine jT 12 [0,1,2,3,4,8,9] (aa 19 799) ?_;(refine jG (aa 19 831) 5 rfl (ak rfl rfl oM) ?_);refine jT 10 [6] (aa 19 895) ?_;(refine jG (aa 19 1023) 7 rfl (fY rfl rfl rfl oM rfl rfl) ?_);(refine jG (aa 19 2047) 10 rfl (ak rfl rfl oM) ?_);refine jT 7 [11] (aa 19 4095) ?_;(refine jG (aa 19 8191) 12 rfl (fY rfl rfl rfl oM rfl rfl) ?_);refine jA 13 rfl ?_;(refine ae rfl rfl rfl cx_ps2 rfl ?_);refine jS (aa 19 16383) ?_;refine jT 0 [14,15,16,17,18] (aa 19 524287) ?_;refine jQ ?_))
    all_goals (rw [hj2];refine aW (vs:=[_,_]) rfl ⟨rfl,rfl,trivial⟩ rfl a8 ⟨rfl,rfl,rfl⟩)
   | some z =>
    have hz:=(mM hp).2
    rw [hp] at cx_ps2 hj2
    dsimp only [Option.getD,Option.isSome] at cx_ps2 hj2
    repeat' (first | refine jM ?_ | (refine jo ?_;refine jV (af rfl) ?_) | refine ac rfl (ay oM) ?_ | refine ad rfl rfl ?_ | (refine am (an (id:=6) _ (fun _ h=>h) al ?_);refine jT 12 [0,1,2,3,4,8,9] (aa 19 799) ?_;(refine jG (aa 19 831) 5 rfl (ak rfl rfl oM) ?_);refine jT 10 [6] (aa 19 895) ?_;(refine jG (aa 19 1023) 7 rfl (fY rfl rfl rfl oM rfl rfl) ?_);(refine jG (aa 19 2047) 10 rfl (ak rfl rfl oM) ?_);refine jT 7 [11] (aa 19 4095) ?_;(refine jG (aa 19 8191) 12 rfl (fY rfl rfl rfl oM rfl rfl) ?_);refine jA 13 rfl ?_;(refine ae rfl rfl rfl cx_ps2 rfl ?_);refine jS (aa 19 16383) ?_;refine jT 0 [14,15,16,17,18] (aa 19 524287) ?_;refine jQ ?_))
    exact bj (i + 1,z) ⟨⟨oM,hj2⟩,by dsimp only;omega⟩ (by dsimp only;omega) tU rfl a8
  ·have ei : i = l.length:=oM
   subst ei
   rw [List.drop_length,dR] at hj2
   repeat' (first | refine jR ?_ | (refine jo ?_;refine jV (af rfl) ?_) | refine ad rfl (aG oM) ?_)
   all_goals (rw [hj2];refine aW (vs:=[_,_]) rfl ⟨rfl,rfl,trivial⟩ rfl a8 ⟨rfl,rfl,rfl⟩)
theorem wj {s k w t : List UInt8} (h : cL s k w = none ∨ cL s k t = none) : d9 s k w t = none:=by
 unfold d9
 rcases h with h | h
 ·rw [h];cases a7 s <;> rfl
 ·rw [h];cases a7 s <;> cases cL s k w <;> rfl
theorem tI {s k w t : List UInt8} {l : List Ch} (h : d9 s k w t = some l) : l.length ≤ 30 ∧ ∀ x ∈ l,x.1.length ≤ 91 ∧ x.2.length ≤ 400:=by
 unfold d9 at h
 split at h
 ·rename_i ts a b h1 ha hb
  split at h
  ·rename_i hc
   cases h
   refine ⟨hc.1,fun x hx=>?_⟩
   obtain ⟨ts',g1,g2,g3,g4,g5⟩:=cQ ha
   obtain rfl : ts = ts':=Option.some.inj (h1.symm.trans g1)
   obtain ⟨ts',i1,i2,i3,i4,i5⟩:=cQ hb
   obtain rfl : ts = ts':=Option.some.inj (h1.symm.trans i1)
   obtain ⟨a1,a2,a3⟩:=fG g3
   obtain ⟨b1,b2,b3⟩:=fG i3
   obtain ⟨c,hc,rfl⟩:=List.mem_map.1 hx
   have:=nA (n:=13) (q:=[]) (dE h1) (da g3) (da i3) g2 ⟨a3,by rw [a1];exact a2⟩ ⟨b3,by rw [b1];exact b2⟩ (fun m hm=>by cases hm) c hc
   have h2:=dz this.1
   have h3:=this.2.1
   simp only [List.length_nil,Nat.zero_add] at h3
   exact ⟨by unfold eS;dsimp only;omega,this.2.2⟩
  ·cases h
 ·cases h
theorem zK {s k w : List UInt8} (h : s.length ≤ 1048576 ∧ k.length ≤ 1048576 ∧ w.length ≤ 1048576) : bB Tryz.prog 36 [S s,S k,S w] G (fun v _=>∃ u q ok,v = Tu [u,.pointer q,Bo ok]):=by
 cases hg : cL s k w with
 | none=>exact (jx h hg).mono fun v G' L' ⟨h1,h2,u,q,h3⟩=>⟨h1,h2,u,q,false,h3⟩
 | some u =>
  obtain ⟨ts,hs,hki,hvo,_⟩:=cQ hg
  exact (lj h hs hki hvo).mono fun v G' L' ⟨h1,h2,a,c,vs,b,h3,_⟩=>⟨h1,h2,.slice a vs.length c,some ⟨b,0,none⟩,true,h3⟩
theorem tq {s k w t : List UInt8} (h : s.length ≤ 1048576 ∧ k.length ≤ 1048576 ∧ w.length ≤ 1048576 ∧ t.length ≤ 1048576) :
  fw Tryz.prog 16 [S s,S k,S w,S t] G [] (fun v _ L'=>∃ p c,v = Tu [.slice p ((d9 s k w t).getD []).length c,Bo (d9 s k w t).isSome] ∧ L' = [.acc (.slice p ((d9 s k w t).getD []).length c) lv 2 ((d9 s k w t).getD []).length (aj eM ((d9 s k w t).getD []))]):=by
 cases ha : cL s k w with
 | none =>
  have cx_la0:=fun G=>jx (G:=G) (s:=s) (k:=k) (w:=w) ⟨h.1,h.2.1,h.2.2.1⟩ ha
  rw [wj (.inl ha)]
  refine bX [(0,_),(1,_),(2,_),(3,_)] Tryz.func16 kR Tryz.ntmps16 rfl rfl tU fun B hB hW=>?_
  repeat' (first | refine jR ?_ | (refine jo ?_;(refine aq rfl rfl rfl (cx_la0 _) rfl ?_;rintro _ G hle ⟨ua,qa,rfl⟩;skip)))
  have hle0:=hle
  refine jo ?_
  refine aq rfl rfl rfl (zK ⟨h.1,h.2.1,h.2.2.2⟩) rfl ?_
  rintro _ G2 hle2 ⟨u2,q2,ok2,rfl⟩
  repeat' (first | refine jR ?_ | (refine jo ?_;first | refine aN rfl ?_ | refine jF fun _=>?_) | refine aH rfl rfl rfl ?_ | refine ac rfl rfl ?_)
  rename_i y
  refine Nx.blkAcc (m:=0) (sz:=2) .here rfl ?_
  refine aW (vs:=[_,_]) rfl ⟨rfl,rfl,trivial⟩ rfl a8 ⟨hle0.trans hle2,_,_,rfl,rfl⟩
 | some a =>
  obtain ⟨ts,hs,hki,hvo,hto,hwf⟩:=cQ ha
  have cx_l4x:=lj (G:=G) (s:=s) (k:=k) (w:=w) ⟨h.1,h.2.1,h.2.2.1⟩ hs hki hvo
  cases hb : cL s k t with
  | none =>
   rw [wj (.inr hb)]
   refine bX [(0,_),(1,_),(2,_),(3,_)] Tryz.func16 kR Tryz.ntmps16 rfl rfl tU fun B hB hW=>?_
   repeat' (first | refine jR ?_ | (refine jo ?_;(refine aq rfl rfl rfl cx_l4x rfl ?_;rintro _ G hle ⟨av1,cv1,vs1,b1,rfl,hR1,hT1,hrep⟩;skip)))
   have hle0:=hle
   refine jo ?_
   refine aq rfl rfl rfl (jx ⟨h.1,h.2.1,h.2.2.2⟩ hb) rfl ?_
   rintro _ G2 hle2 ⟨u2,q2,rfl⟩
   repeat' (first | refine jR ?_ | (refine jo ?_;first | refine aC rfl ?_ | refine jF fun _=>?_) | refine ar rfl rfl rfl ?_ | refine ac rfl rfl ?_)
   rename_i y
   refine Nx.blkAcc (m:=0) (sz:=2) .here rfl ?_
   refine aW (vs:=[_,_]) rfl ⟨rfl,rfl,trivial⟩ rfl a8 ⟨hle0.trans hle2,_,_,rfl,rfl⟩
  | some b =>
   obtain ⟨ts',i1,_,hvb,htb,_⟩:=cQ hb
   obtain rfl : ts = ts':=Option.some.inj (hs.symm.trans i1)
   have hw:=dE hs
   have oa:=da hvo
   have ob:=da hvb
   obtain ⟨a1,a2,a3⟩:=fG hvo
   obtain ⟨b1,b2,b3⟩:=fG hvb
   have fa : a.deep ≤ 12 ∧ a.out.length ≤ 400:=⟨a3,by rw [a1];exact a2⟩
   have fb : b.deep ≤ 12 ∧ b.out.length ≤ 400:=⟨b3,by rw [b1];exact b2⟩
   have hlst:=yd hw 12 oa ob hki (Or.inl a3) (Or.inl b3)
   have hdl:=sM (n:=13) (q:=[]) (wa:=40000) (wb:=40000) hw oa ob hki (Or.inl hto) (Or.inl htb) oM
   have hin:=nA (n:=13) (q:=[]) hw oa ob hki fa fb (fun m hm=>by cases hm)
   have hcv : d9 s k w t = if (fx ts k a b).length ≤ 30 ∧ (gH s k w (fx ts k a b)).isSome = true then some (fx ts k a b) else none:=by
    unfold d9
    rw [hs,ha,hb]
   have hdn : ∀ {z},gH s k w (fx ts k a b) = some z → z = t ∧ ∀ d ∈ cq ts 13 k a b [],d.1.length ≤ 8:=fun h=>wk hs ha hb h
   refine bX [(0,_),(1,_),(2,_),(3,_)] Tryz.func16 kR Tryz.ntmps16 rfl rfl tU fun B hB hW=>?_
   repeat' (first | refine jR ?_ | (refine jo ?_;(refine aq rfl rfl rfl cx_l4x rfl ?_;rintro _ G hle ⟨av1,cv1,vs1,b1,rfl,hR1,hT1,hrep⟩;skip)))
   have hle0:=hle
   subst hT1
   refine jo ?_
   refine aq rfl rfl rfl (lj ⟨h.1,h.2.1,h.2.2.2⟩ hs hki hvb) rfl ?_
   rintro _ G2 hle2 ⟨av2,cv2,vs2,b2',rfl,hR2,hT2,hrepb⟩
   have hR1:=hR1.mono hle2
   have hrep:=hrep.mono hle2
   repeat' (first | refine jR ?_ | (refine jo ?_;first | refine aC rfl ?_ | refine jF fun _=>?_) | refine ar rfl rfl rfl ?_ | refine ad rfl rfl ?_)
   rename_i y
   refine Nx.blkAcc (m:=0) (sz:=2) .here rfl ?_
   have hlof:=zQ hw 13 hR1 hrep hrepb oa ob hki fa fb hlst (q:=[]) (fun n hn=>by cases hn) (by simp) (p0:=some ⟨y,0,none⟩) (m:=0) (cap:=0) (out:=[]) rfl oM
   refine jo ?_
   refine wI rfl rfl rfl hlof rfl ?_
   rintro _ G3 _ hle3 ⟨av,cv,rfl,rfl⟩
   dsimp only [zA,fA]
   rw [Nat.zero_add,← List.length_map (f:=eS)]
   have hGa:=hle0.trans (hle2.trans hle3)
   have hxl : ∀ i,i < (fx (ag vs1) k a b).length → ab (fx (ag vs1) k a b) i = eS (ab (cq (ag vs1) 13 k a b []) i):=fun i hi=>by
    unfold fx at hi ⊢
    rw [aA hi,aA (by simpa using hi)]
    simp
   have hml : (fx (ag vs1) k a b).length = (cq (ag vs1) 13 k a b []).length:=by unfold fx;simp
   have hCh : ∀ x ∈ fx (ag vs1) k a b,wP x:=fun x hx=>by
    obtain ⟨c,hc,rfl⟩:=List.mem_map.1 hx
    have h1:=hin c hc
    have h2:=dz h1.1
    have h3:=h1.2.1
    simp only [List.length_nil,Nat.zero_add] at h3
    exact ⟨by unfold eS;dsimp only;omega,by unfold eS;dsimp only;omega⟩
   rw [show (cq (ag vs1) 13 k a b []).map eS = fx (ag vs1) k a b from rfl]
   generalize hds : cq (ag vs1) 13 k a b [] = ds at *
   generalize hls : fx (ag vs1) k a b = l at *
   repeat' (refine jR ?_)
   refine aV (ι:=Nat × Gh) (fun i=>(i.1 ≤ l.length ∧ ∀ j,j < i.1 → (ab ds j).1.length ≤ 8) ∧ Gh.le G3 i.2) (fun i=>[(0,S s),(1,S k),(2,S w),(3,S t),(16,.slice av l.length cv),(17,I i.1)]) (fun i=>i.2) (fun i=>[.acc (.slice av l.length cv) lv 2 l.length (aj eM l)]) (fun i=>l.length - i.1) (0,G3) ?_ tU rfl a8 (fun i Hi=>?_)
   ·exact ⟨⟨Nat.zero_le _,fun j hj=>absurd hj (Nat.not_lt_zero _)⟩,Gh.le.refl _⟩
   obtain ⟨i,Gq⟩:=i
   dsimp only at Hi ⊢
   obtain ⟨⟨hi0,hj8⟩,hgq⟩:=Hi
   by_cases hi : i < l.length
   ·refine Nx.shp (.head _) fun hsh=>?_
    obtain ⟨bb0,cc0,e⟩:=hsh.pos oM
    simp only [Value.slice.injEq] at e
    obtain ⟨rfl,-,rfl⟩:=e
    have hpo:=mP (hin _ (be (show i < ds.length by omega))).1
    have hCi:=hCh _ (be hi)
    have hx1 : (ab l i).1 = aR (ab ds i).1:=by rw [hxl i hi];rfl
    by_cases h8 : (ab ds i).1.length ≤ 8
    ·rw [if_pos h8,← hx1] at hpo
     have cx_sp:=ky hCi.1 hpo
     repeat' (first | refine jM ?_ | (refine jo ?_;first | refine jV (af rfl) ?_ | refine jV (ak rfl rfl oM) ?_ | refine jV (fY rfl rfl rfl oM rfl rfl) ?_ | (refine aq rfl rfl rfl (cx_sp _) rfl ?_;rintro _ G hle ⟨sa,sc,sn,rfl,hsp⟩;skip)) | refine ac rfl (ay oM) ?_ | refine ad rfl rfl ?_)
     exact bj (i + 1,_) ⟨⟨by dsimp only;omega,fun j hj=>by
      rcases Nat.lt_or_ge j i with h | h
      ·exact hj8 j h
      ·obtain rfl : j = i:=by dsimp only at hj;omega
       exact h8⟩,Gh.le.trans hgq aS⟩ (by dsimp only;omega) tU rfl a8
    ·rw [if_neg h8,← hx1] at hpo
     have cx_sp:=lA hCi.1 hpo
     have hno : d9 s k w t = none:=by
      rw [hcv,if_neg]
      rintro ⟨_,h2⟩
      obtain ⟨z,hz⟩:=Option.isSome_iff_exists.1 h2
      exact h8 ((hdn hz).2 _ (be (show i < ds.length by omega)))
     rw [hno]
     repeat' (first | refine jR ?_ | (refine jo ?_;first | refine jF fun _=>?_ | refine jV (af rfl) ?_ | refine jV (ak rfl rfl oM) ?_ | refine jV (fY rfl rfl rfl oM rfl rfl) ?_ | (refine aq rfl rfl rfl (cx_sp _) rfl ?_;rintro _ G hle ⟨sa,sc,sn,rfl,hsp⟩;skip)) | (refine ac rfl (by first | rfl | (refine decide_eq_true ?_;(omega))) ?_))
     rename_i z
     refine Nx.blkAcc (m:=0) (sz:=2) .here rfl ?_
     refine aW (vs:=[_,_]) rfl ⟨rfl,rfl,trivial⟩ rfl sB ⟨hGa.trans (hgq.trans hle),_,_,rfl,rfl⟩
   ·obtain rfl : i = l.length:=oM
    have cx_cdo:=rq (G:=Gq) (p:=av) (c:=cv) (T:=lv) (l:=l) ⟨h.1,h.2.1,h.2.2.1⟩ oM hCh
    unfold k4 at cx_cdo
    have hGb:=hGa.trans hgq
    cases hz : gH s k w l with
    | none =>
     rw [hz] at cx_cdo hcv
     rw [if_neg (by simp)] at hcv
     rw [hcv]
     dsimp only [Option.getD,Option.isSome] at cx_cdo
     by_cases h30 : l.length ≤ 30
     ·repeat' (first | refine jR ?_ | (refine jo ?_;first | refine aN rfl ?_ | refine aC rfl ?_ | refine jF fun _=>?_ | refine jV (af rfl) ?_ | (refine fF rfl rfl rfl cx_cdo rfl ?_;rintro _ _ ⟨rfl,rfl⟩;dsimp only [zA,fA])) | refine aH rfl rfl rfl ?_ | refine ar rfl rfl (aG oM) ?_ | refine ac rfl rfl ?_ | refine ad rfl (aG oM) ?_)
      all_goals rename_i z
      all_goals refine Nx.blkAcc (m:=0) (sz:=2) .here rfl ?_
      all_goals refine aW (vs:=[_,_]) rfl ⟨rfl,rfl,trivial⟩ rfl sB ⟨hGb,_,_,rfl,rfl⟩
     ·repeat' (first | refine jR ?_ | (refine jo ?_;first | refine aN rfl ?_ | refine jF fun _=>?_ | refine jV (af rfl) ?_ | (refine fF rfl rfl rfl cx_cdo rfl ?_;rintro _ _ ⟨rfl,rfl⟩;dsimp only [zA,fA])) | (refine aH rfl rfl (by first | rfl | (refine decide_eq_true ?_;(omega))) ?_) | refine ac rfl rfl ?_ | refine ad rfl (aG oM) ?_)
      all_goals rename_i z
      all_goals refine Nx.blkAcc (m:=0) (sz:=2) .here rfl ?_
      all_goals refine aW (vs:=[_,_]) rfl ⟨rfl,rfl,trivial⟩ rfl sB ⟨hGb,_,_,rfl,rfl⟩
    | some z =>
     obtain ⟨rfl,_⟩:=hdn hz
     rw [hz] at cx_cdo hcv
     dsimp only [Option.getD,Option.isSome] at cx_cdo
     by_cases h30 : l.length ≤ 30
     ·rw [if_pos ⟨h30,rfl⟩] at hcv
      rw [hcv]
      repeat' (first | refine jR ?_ | (refine jo ?_;first | refine aC rfl ?_ | refine jV (af rfl) ?_ | (refine fF rfl rfl rfl cx_cdo rfl ?_;rintro _ _ ⟨rfl,rfl⟩;dsimp only [zA,fA])) | (refine ar rfl rfl (by first | rfl | (refine decide_eq_false ?_;(omega))) ?_) | (refine ad rfl ?_ ?_;(focus ((first | (refine decide_eq_false ?_;(omega)) | (simp [*];done));done))))
      all_goals refine aW (vs:=[_,_]) rfl ⟨rfl,rfl,trivial⟩ rfl a8 ⟨hGb,_,_,rfl,rfl⟩
     ·rw [if_neg (fun h=>h30 h.1)] at hcv
      rw [hcv]
      repeat' (first | refine jR ?_ | (refine jo ?_;first | refine aN rfl ?_ | refine jF fun _=>?_ | refine jV (af rfl) ?_ | (refine fF rfl rfl rfl cx_cdo rfl ?_;rintro _ _ ⟨rfl,rfl⟩;dsimp only [zA,fA])) | (refine aH rfl rfl (by first | rfl | (refine decide_eq_true ?_;(omega))) ?_) | refine ac rfl rfl ?_ | refine ad rfl (aG oM) ?_)
      all_goals rename_i z
      all_goals refine Nx.blkAcc (m:=0) (sz:=2) .here rfl ?_
      all_goals refine aW (vs:=[_,_]) rfl ⟨rfl,rfl,trivial⟩ rfl sB ⟨hGb,_,_,rfl,rfl⟩
abbrev dk : TypeId:=130
theorem xG {v : Value} {l : List UInt8} (h : aP G v 1 l.length (ck l)) : dA Tryz.prog 41 [v] G [] (fun v L'=>∃ b code l',v = Pt b 0 ∧ L' = [ee b code 0 dk] ∧ aP G code 1 l'.length (ck l') ∧ l'.length ≤ 2000):=by
 obtain ⟨h1,⟨rfl,h2⟩ | ⟨c,o,cap,rfl,h2,h3⟩⟩:=id h
 ·refine jH [(0,_)] Tryz.func41 Tryz.ntmps41 fun B hB hW=>?_
  repeat' (first | refine jR ?_ | (refine jo ?_;first | refine jV (af rfl) ?_ | refine jV (ax rfl rfl) ?_ | refine jO fun _=>?_) | refine ad rfl rfl ?_)
  refine aW (vs:=[_]) rfl ⟨rfl,trivial⟩ rfl (List.Sublist.refl _) ⟨rfl,_,_,[],rfl,rfl,⟨by simp [ck],.inl ⟨rfl,rfl⟩⟩,by simp⟩
 ·refine jH [(0,_)] Tryz.func41 Tryz.ntmps41 fun B hB hW=>?_
  repeat' (first | refine jR ?_ | (refine jo ?_;first | refine jV (af rfl) ?_ | refine jV (pz rfl rfl oM) ?_ | refine jV (ax rfl rfl) ?_ | refine jO fun _=>?_) | refine er rfl (fun _=>?_) (fun _=>?_))
  ·refine aW (vs:=[_]) rfl ⟨rfl,trivial⟩ rfl (List.Sublist.refl _) ⟨rfl,_,_,l.take 2000,rfl,rfl,?_,by simp;omega⟩
   have e : (l.take 2000).length = 2000:=by simp;omega
   rw [e]
   refine ⟨by simp [ck];omega,.inr ⟨c,o,cap,rfl,oM,?_⟩⟩
   have:=h3.take 2000
   simpa [ck] using this
  ·exact aW (vs:=[_]) rfl ⟨rfl,trivial⟩ rfl (List.Sublist.refl _) ⟨rfl,_,_,l,rfl,rfl,h,oM⟩
theorem cT {b : Nat} {code : Value} {p n : Int} {l : List UInt8} (hp : 0 ≤ p ∧ p ≤ 1000000000000 ∧ n ≤ 1000000000000) (hs : aP G code 1 l.length (ck l)) :
  dA Tryz.prog 45 [Pt b 0,I n] G [ee b code p dk] (fun v L'=>∃ k,v = I k ∧ L' = [ee b code (p + 1) dk] ∧ 0 ≤ k ∧ (k < n ∨ k = 0)):=by
 obtain ⟨h1,⟨rfl,h2⟩ | ⟨c,o,cap,rfl,h2,h3⟩⟩:=id hs
 ·refine jH [(0,_),(1,_)] Tryz.func45 Tryz.ntmps45 fun B hB hW=>?_
  repeat' (first | (refine run (t:=tb) 400 rfl ?_ ?_;(focus (repeat' (first | exact trivial | apply And.intro | omega)))) | (refine jo ?_;first | refine aD rfl ?_ | refine jD rfl rfl rfl ?_ | refine jV (af rfl) ?_ | refine aN rfl ?_ | refine aC rfl ?_) | refine eQ rfl rfl (fun _=>?_) (fun _=>?_) | refine ac rfl rfl ?_)
  all_goals exact aW (vs:=[_]) rfl ⟨rfl,trivial⟩ rfl (List.Sublist.refl _) ⟨rfl,_,rfl,rfl,oM,oM⟩
 ·have b1:=me l (p + 1 - 1).toNat
  have b2:=me l ((p + 1 - 1) % (l.length : Int)).toNat
  have b3:=me l (((p + 1 - 1) * 7 + 3) % (l.length : Int)).toNat
  have e1:=fun h=>Int.emod_nonneg (p + 1 - 1) (b:=(l.length : Int)) h
  have e2:=fun h=>Int.emod_lt_of_pos (p + 1 - 1) (b:=(l.length : Int)) h
  have e3:=fun h=>Int.emod_nonneg ((p + 1 - 1) * 7 + 3) (b:=(l.length : Int)) h
  have e4:=fun h=>Int.emod_lt_of_pos ((p + 1 - 1) * 7 + 3) (b:=(l.length : Int)) h
  have e5:=fun h=>Int.ediv_nonneg (a:=p + 1 - 1) (b:=(l.length : Int)) h oM
  have e6:=fun h=>Int.ediv_le_self (a:=p + 1 - 1) (l.length : Int) h
  refine jH [(0,_),(1,_)] Tryz.func45 Tryz.ntmps45 fun B hB hW=>?_
  repeat' (first | (refine run (t:=tb) 400 rfl ?_ ?_;(focus (repeat' (first | exact trivial | apply And.intro | omega)))) | (refine jo ?_;first | refine aD rfl ?_ | (refine jV (vg rfl aS ?_) ?_;focus omega) | refine jD rfl rfl rfl ?_ | refine jV (af rfl) ?_ | refine aN rfl ?_ | refine aC rfl ?_ | refine jV (aM rfl rfl oM) ?_ | refine jV (aau rfl rfl oM) ?_) | refine eQ rfl rfl (fun _=>?_) (fun _=>?_) | refine ac rfl rfl ?_ | refine er rfl (fun _=>?_) (fun _=>?_) | (refine am (an (id:=7) _ (fun _ h=>h) al ?_);refine jU 24 [0,1,2,4,5,6,7,15,16,17,19,20,21,22,23,24,33,34,36,37,38,39] (aa 46 1056595214583) ?_ ?_;(focus (repeat' (first | exact trivial | apply And.intro | omega)));(refine jG (aa 46 1056595214591) 3 rfl (aT rfl rfl rfl) ?_);(refine jG (aa 46 1056595214847) 8 rfl (aT rfl rfl rfl) ?_);(refine jG (aa 46 1056595215359) 9 rfl (af rfl) ?_);refine jU 20 [10] (aa 46 1056595216383) ?_ ?_;(focus (repeat' (first | exact trivial | apply And.intro | omega)));(refine jG (aa 46 1056595218431) 11 rfl (aM rfl rfl oM) ?_);((refine jG (aa 46 1056595222527) 12 rfl (vg rfl aS ?_) ?_;focus omega));refine jU 16 [13,14] (aa 46 1056595247103) ?_ ?_;(focus (repeat' (first | exact trivial | apply And.intro | omega)));(refine jG (aa 46 1056595509247) 18 rfl (aT rfl rfl rfl) ?_);(refine jG (aa 46 1056629063679) 25 rfl (aT rfl rfl rfl) ?_);(refine jG (aa 46 1056696172543) 26 rfl (af rfl) ?_);refine jU 12 [27] (aa 46 1056830390271) ?_ ?_;(focus (repeat' (first | exact trivial | apply And.intro | omega)));(refine jG (aa 46 1057098825727) 28 rfl (aM rfl rfl oM) ?_);((refine jG (aa 46 1057635696639) 29 rfl (vg rfl aS ?_) ?_;focus omega));refine jU 6 [30,31,32,35] (aa 46 1099511627775) ?_ ?_;(focus (repeat' (first | exact trivial | apply And.intro | omega)));(refine jG (aa 46 2199023255551) 40 rfl (aT rfl rfl rfl) ?_);(refine jG (aa 46 4398046511103) 41 rfl (af rfl) ?_);refine jU 0 [42,43,44,45] (aa 46 70368744177663) ?_ ?_;(focus (repeat' (first | exact trivial | apply And.intro | omega)));refine jQ ?_))
  all_goals (first | exact aW (vs:=[_]) rfl ⟨rfl,trivial⟩ rfl (List.Sublist.refl _) ⟨rfl,_,rfl,rfl,oM,oM⟩ | exact aW (vs:=[_]) rfl ⟨rfl,trivial⟩ rfl (List.Sublist.refl _) ⟨rfl,_,rfl,rfl,Int.emod_nonneg _ oM,.inl (Int.emod_lt_of_pos _ oM)⟩ | exact yt _ _)
theorem rj {r : Nat} {code : Value} {p : Int} {l : List UInt8} (hp : 0 ≤ p ∧ p ≤ 900000000000) (hs : aP G code 1 l.length (ck l)) :
  dA Tryz.prog 78 [Pt r 0] G [ee r code p dk] (fun v L'=>∃ x q,v = S x ∧ x.length ≤ 400 ∧ L' = [ee r code q dk] ∧ p ≤ q ∧ q ≤ p + 10):=by
 refine jH [(0,_)] Tryz.func78 Tryz.ntmps78 fun B hB hW=>?_
 repeat' (first | refine jR ?_ | (refine jo ?_;first | refine jF fun _=>?_ | refine jV (aM rfl rfl oM) ?_ | (refine eN 64 rfl rfl rfl ?_ rfl (fun xs hxs=>?_);(focus ((simp only [List.length_append,List.length_cons,List.length_nil,List.length_take];omega);done))) | (refine aI rfl rfl rfl (cT ?_ (by (repeat (assumption));done)) rfl ?_;(focus omega);rintro _ _ ⟨k,rfl,rfl,hk0,hk1⟩;dsimp only [zA,fA])))
 refine aV (ι:=List UInt8 × Int × Int) (fun j=>(0 ≤ j.2.1 ∧ j.2.1 ≤ 3) ∧ ((j.1.length : Nat) : Int) ≤ 64 * (4 - j.2.1) ∧ p ≤ j.2.2 ∧ j.2.2 ≤ p + 5 - j.2.1) (fun j=>[(0,Pt r 0),(3,S j.1),(4,I j.2.1)]) (fun _=>G) (fun j=>[ee r code j.2.2 dk]) (fun j=>j.2.1.toNat) (xs,k,p + 1 + 1) ?_ tU rfl sB (fun j Hj=>?_)
 ·dsimp only;omega
 obtain ⟨s,kk,q⟩:=j
 dsimp only at Hj ⊢
 obtain ⟨hk,hsl,hq0,hq1⟩:=Hj
 by_cases h1 : 1 < kk
 ·repeat' (first | refine jM ?_ | (refine jo ?_;first | refine jF fun _=>?_ | refine jV (aM rfl rfl oM) ?_ | (refine eN 64 rfl rfl rfl ?_ rfl (fun xs hxs=>?_);(focus ((simp only [List.length_append,List.length_cons,List.length_nil,List.length_take];omega);done))) | (refine aI rfl rfl rfl (cT ?_ (by (repeat (assumption));done)) rfl ?_;(focus omega);rintro _ _ ⟨k,rfl,rfl,hk0,hk1⟩;dsimp only [zA,fA])) | refine ac rfl (ay ‹_›) ?_)
  exact bj (xs ++ s,kk - 1,q + 1) (by dsimp only;rw [List.length_append];omega) (by dsimp only;omega) tU rfl sB
 ·repeat' (first | refine jR ?_ | (refine jo ?_;first | refine jF fun _=>?_ | refine jV (aM rfl rfl oM) ?_ | (refine eN 64 rfl rfl rfl ?_ rfl (fun xs hxs=>?_);(focus ((simp only [List.length_append,List.length_cons,List.length_nil,List.length_take];omega);done))) | (refine aI rfl rfl rfl (cT ?_ (by (repeat (assumption));done)) rfl ?_;(focus omega);rintro _ _ ⟨k,rfl,rfl,hk0,hk1⟩;dsimp only [zA,fA])) | refine ad rfl (aG ‹_›) ?_ | refine er rfl (fun _=>?_) (fun _=>?_))
  all_goals exact aW (vs:=[_]) rfl ⟨rfl,trivial⟩ rfl sB ⟨rfl,_,_,rfl,oM,rfl,oM,oM⟩
theorem wy {r : Nat} {code : Value} {p : Int} {l : List UInt8} (hp : 0 ≤ p ∧ p ≤ 900000000000) (hs : aP G code 1 l.length (ck l)) :
  dA Tryz.prog 112 [Pt r 0] G [ee r code p dk] (fun v L'=>∃ x q,v = S (39 :: (x ++ [39])) ∧ x.length ≤ 64 ∧ L' = [ee r code q dk] ∧ p ≤ q ∧ q ≤ p + 10):=by
 refine jH [(0,_)] Tryz.func112 Tryz.ntmps112 fun B hB hW=>?_
 repeat' (first | refine jX ?_ | (refine jo ?_;first | refine jF fun _=>?_ | refine jV (aM rfl rfl oM) ?_ | (refine eN 64 rfl rfl rfl ?_ rfl (fun xs hxs=>?_);(focus ((simp only [List.length_append,List.length_cons,List.length_nil,List.length_take];omega);done))) | (refine aI rfl rfl rfl (cT ?_ (by (repeat (assumption));done)) rfl ?_;(focus omega);rintro _ _ ⟨k,rfl,rfl,hk0,hk1⟩;dsimp only [zA,fA])))
 exact aW (vs:=[_]) rfl ⟨rfl,trivial⟩ rfl sB ⟨rfl,xs,_,rfl,oM,rfl,oM,oM⟩
theorem vt {r : Nat} {code : Value} {p tag : Int} {l so nm : List UInt8} (hp : 0 ≤ p ∧ p ≤ 800000000000) (hs : aP G code 1 l.length (ck l)) (ht : 0 ≤ tag ∧ tag ≤ 1000000) (hnm : nm.length ≤ 100) :
  dA Tryz.prog 111 [Pt r 0,S so,I tag,S nm] G [ee r code p dk] (fun v L'=>∃ x q,v = S x ∧ x.length ≤ 1000 ∧ L' = [ee r code q dk] ∧ p ≤ q ∧ q ≤ p + 20):=by
 have hdl:=gV (n:=tag) oM
 refine jH [(0,_),(1,_),(2,_),(3,_)] Tryz.func111 Tryz.ntmps111 fun B hB hW=>?_
 repeat' (first | refine jX ?_ | (refine jo ?_;first | refine aN rfl ?_ | refine aC rfl ?_ | refine jF fun _=>?_ | refine jV (aM rfl rfl oM) ?_ | (refine eN 64 rfl rfl rfl ?_ rfl (fun xs hxs=>?_);(focus ((simp only [List.length_append,List.length_cons,List.length_nil,List.length_take];omega);done))) | refine ae rfl rfl rfl (dn oM) rfl ?_ | (refine aI rfl rfl rfl (rj ?_ (by (repeat (assumption));done)) rfl ?_;(focus omega);rintro _ _ ⟨kd,q1,rfl,hkd,rfl,hq1,hq2⟩;dsimp only [zA,fA]) | (refine aI rfl rfl rfl (cT ?_ (by (repeat (assumption));done)) rfl ?_;(focus omega);rintro _ _ ⟨k,rfl,rfl,hk0,hk1⟩;dsimp only [zA,fA])) | refine eQ rfl rfl (fun _=>?_) (fun _=>?_) | refine ad rfl rfl ?_ | refine er rfl (fun _=>?_) (fun _=>?_))
 all_goals exact aW (vs:=[_]) rfl ⟨rfl,trivial⟩ rfl sB ⟨rfl,_,_,rfl,by simp only [List.length_append,List.length_cons,List.length_nil];omega,rfl,oM,oM⟩
theorem wx {r : Nat} {code : Value} {p : Int} {l so nm : List UInt8} (hp : 0 ≤ p ∧ p ≤ 700000000000) (hs : aP G code 1 l.length (ck l)) (hso : so.length ≤ 64) (hnm : nm.length ≤ 64) :
  dA Tryz.prog 76 [Pt r 0,S so,S nm] G [ee r code p dk] (fun v L'=>∃ x q,v = S x ∧ x.length ≤ 6000 ∧ 1 ≤ x.length ∧ L' = [ee r code q dk] ∧ p ≤ q ∧ q ≤ p + 200):=by
 refine jH [(0,_),(1,_),(2,_)] Tryz.func76 Tryz.ntmps76 fun B hB hW=>?_
 repeat' (first | refine jX ?_ | (refine jo ?_;first | refine aN rfl ?_ | refine aC rfl ?_ | (refine aI rfl rfl rfl (cT ?_ (by (repeat (assumption));done)) rfl ?_;(focus omega);rintro _ _ ⟨k,rfl,rfl,hk0,hk1⟩;dsimp only [zA,fA])) | refine eQ rfl rfl (fun _=>?_) (fun _=>?_) | refine ad rfl rfl ?_ | refine er rfl (fun _=>?_) (fun _=>?_))
 all_goals
  have cx_pk2 : ∀ {p : Int},0 ≤ p ∧ p ≤ 1000000000000 → dA Tryz.prog 45 [Pt r 0,I 2] G [ee r code p dk] (fun v L'=>L' = [ee r code (p + 1) dk] ∧ (v = I 0 ∨ v = I 1)):=fun {p} hp=>(cT (b:=r) (p:=p) (n:=2) ⟨hp.1,hp.2,by decide⟩ hs).mono fun v G' L' ⟨h1,k,h2,h3,h4,h5⟩=>⟨h1,h3,by subst h2;rcases (show k = 0 ∨ k = 1 by omega) with rfl | rfl;exact .inl rfl;exact .inr rfl⟩
  refine aV (ι:=List UInt8 × Int × Int × Int × Int) (fun j=>(0 ≤ j.2.2.1 ∧ j.2.2.1 ≤ j.2.2.2.1 ∧ j.2.2.2.1 ≤ 4) ∧ (0 ≤ j.2.1 ∧ j.2.1 ≤ 10 * j.2.2.1) ∧ (1 ≤ j.1.length ∧ ((j.1.length : Nat) : Int) ≤ 200 + 1001 * j.2.2.1) ∧ p ≤ j.2.2.2.2 ∧ j.2.2.2.2 ≤ p + 4 + 30 * j.2.2.1) (fun j=>[(0,Pt r 0),(1,S so),(7,S j.1),(8,I j.2.1),(9,I j.2.2.2.1),(10,I j.2.2.1)]) (fun _=>G) (fun j=>[ee r code j.2.2.2.2 dk]) (fun j=>(j.2.2.2.1 - j.2.2.1).toNat) (so ++ nm ++ [61],0,0,_,_) ?_ tU rfl a8 (fun j Hj=>?_)
  ·dsimp only;simp only [List.length_append,List.length_cons,List.length_nil];omega
  obtain ⟨s,tag,kk,n,q⟩:=j
  dsimp only at Hj ⊢
  obtain ⟨hk,htg,hsl,hq0,hq1⟩:=Hj
  by_cases h1 : kk < n
  ·repeat' (first | refine jX ?_ | (refine jo ?_;first | refine jF fun _=>?_ | refine jV (im rfl rfl (by (repeat (first | exact BL.nil | apply BL.cons));done)) ?_ | (refine aI rfl rfl rfl (cx_pk2 oM) rfl ?_;rintro _ _ ⟨rfl,rfl | rfl⟩ <;> dsimp only [zA,fA]) | (refine aI rfl rfl rfl (cT ?_ (by (repeat (assumption));done)) rfl ?_;(focus omega);rintro _ _ ⟨k,rfl,rfl,hk0,hk1⟩;dsimp only [zA,fA]) | (refine aI rfl rfl rfl (vt ?_ (by (repeat (assumption));done) ?_ ?_) rfl ?_;(focus omega);(focus omega);(focus ((simp;done);done));rintro _ _ ⟨fd,q1,rfl,hfd,rfl,hq1,hq2⟩;dsimp only [zA,fA])) | refine ac rfl (ay ‹_›) ?_ | refine er rfl (fun _=>?_) (fun _=>?_))
   all_goals (refine bj (_,_,kk + 1,n,_) ?_ ?_ tU rfl sB)
   all_goals (first | (dsimp only;simp only [List.length_append,List.length_cons,List.length_nil];omega) | (dsimp only;omega))
  ·repeat' (first | refine jX ?_ | refine ad rfl (aG ‹_›) ?_)
   exact aW (vs:=[_]) rfl ⟨rfl,trivial⟩ rfl a8 ⟨rfl,_,_,rfl,by simp only [List.length_append,List.length_cons,List.length_nil];omega,by simp only [List.length_append,List.length_cons,List.length_nil];omega,rfl,oM,oM⟩
def fh (u : Value) (vs : List co) (k : List UInt8) (deep cp : Int) (ct : Nat) : Prop:=∀ (G : Gh) (r : Nat) (code : Value) (p : Int) (l : List UInt8),SchR G u vs → aP G code 1 l.length (ck l) → 0 ≤ p ∧ p + cp ≤ 600000000000 →
 fw Tryz.prog 79 [Pt r 0,u,S k,I deep] G [ee r code p dk] (fun v G' L'=>∃ w b q,v = Pt b 0 ∧ RepR G' (ag vs) w k b ∧ w.tot ≤ ct ∧ 1 ≤ w.out.length ∧ L' = [ee r code q dk] ∧ p ≤ q ∧ q ≤ p + cp)
theorem fh.le {u : Value} {vs : List co} {k : List UInt8} {deep cp cp' : Int} {ct ct' : Nat} (h : fh u vs k deep cp ct) (h1 : cp ≤ cp') (h2 : ct ≤ ct') : fh u vs k deep cp' ct':=fun G r code p l h3 h4 h5 =>
 (h G r code p l h3 h4 ⟨h5.1,oM⟩).mono fun _ _ _ ⟨h6,w,b,q,h7,h8,h9,h10,h11,h12,h13⟩=>⟨h6,w,b,q,h7,h8,oM,h10,h11,h12,oM⟩
theorem qi {u : Value} {vs : List co} {deep : Int} : fh u vs [102] deep 15 200:=by
 intro G r code p l hR hs hp
 have cx_pk2 : ∀ {p : Int},0 ≤ p ∧ p ≤ 1000000000000 → dA Tryz.prog 45 [Pt r 0,I 2] G [ee r code p dk] (fun v L'=>L' = [ee r code (p + 1) dk] ∧ (v = I 0 ∨ v = I 1)):=fun {p} hp=>(cT (b:=r) (p:=p) (n:=2) ⟨hp.1,hp.2,by decide⟩ hs).mono fun v G' L' ⟨h1,k,h2,h3,h4,h5⟩=>⟨h1,h3,by subst h2;rcases (show k = 0 ∨ k = 1 by omega) with rfl | rfl;exact .inl rfl;exact .inr rfl⟩
 refine bX [(0,_),(1,_),(2,_),(3,_)] Tryz.func79 kR Tryz.ntmps79 rfl rfl tU fun B hB hW=>?_
 repeat' (first | refine jX ?_ | (refine jo ?_;first | refine jV (ax rfl rfl) ?_ | refine jO fun _=>?_ | refine jF fun _=>?_ | refine jV (aM rfl rfl oM) ?_ | refine aD rfl ?_ | refine jD rfl rfl rfl ?_ | (refine aI rfl rfl rfl (cx_pk2 oM) rfl ?_;rintro _ _ ⟨rfl,rfl | rfl⟩ <;> dsimp only [zA,fA])) | refine ac rfl rfl ?_ | refine ad rfl rfl ?_)
 all_goals rename_i y _
 all_goals refine Nx.sealC (b:=y) fun G2 hG2 hsy=>?_
 ·exact aW (vs:=[_]) rfl ⟨rfl,trivial⟩ rfl sB ⟨hG2,.nd 102 [121,101,115] 0 [],y,_,rfl,.leaf 102 _ _ _ y hsy (.inr (.inr ⟨rfl,rfl,rfl,.inl rfl⟩)),by simp [br,V.tots],by rw [V.out];simp [cO],rfl,oM,oM⟩
 ·exact aW (vs:=[_]) rfl ⟨rfl,trivial⟩ rfl sB ⟨hG2,.nd 102 [110,111] 0 [],y,_,rfl,.leaf 102 _ _ _ y hsy (.inr (.inr ⟨rfl,rfl,rfl,.inr rfl⟩)),by simp [br,V.tots],by rw [V.out];simp [cO],rfl,oM,oM⟩
abbrev uQ : TypeId:=56
theorem aa1 {m : Int} (h : 0 ≤ m) : ∀ c ∈ bE m,bm c = true:=(hJ m.toNat (Nat.le_refl _) h).2
theorem sI {u : Value} {vs : List co} {deep : Int} : fh u vs [110] deep 15 200:=by
 intro G r code p l hR hs hp
 refine bX [(0,_),(1,_),(2,_),(3,_)] Tryz.func79 kR Tryz.ntmps79 rfl rfl tU fun B hB hW=>?_
 repeat' (first | refine jX ?_ | (refine jo ?_;first | refine jV (ax rfl rfl) ?_ | refine jO fun _=>?_ | refine jF fun _=>?_ | refine jV (aM rfl rfl oM) ?_ | (refine abj 999999 rfl rfl rfl ?_ ?_ (fun iz hz0 hz1=>?_);(focus ((simp only [List.length_append,List.length_cons,List.length_nil,List.length_take];omega);done));(focus ((repeat' (first | exact vd | refine tG ⟨oM,oM⟩ ?_));done))) | refine jD rfl rfl rfl ?_ | (refine aI rfl rfl rfl (cT ?_ (by (repeat (assumption));done)) rfl ?_;(focus omega);rintro _ _ ⟨k,rfl,rfl,hk0,hk1⟩;dsimp only [zA,fA]) | refine ae rfl rfl rfl (dn oM) rfl ?_) | refine ac rfl rfl ?_)
 rename_i y _ _ _ _
 have hdl:=gV (n:=iz) oM
 have hdp:=gp iz
 refine Nx.sealC (b:=y) fun G2 hG2 hsy=>?_
 exact aW (vs:=[_]) rfl ⟨rfl,trivial⟩ rfl sB ⟨hG2,.nd 110 (bE iz) 0 [],y,_,rfl,.leaf 110 _ _ _ y hsy (.inl ⟨rfl,rfl,rfl,aa1 hz0⟩),by rw [br,V.tots];omega,by rw [V.out];exact hdp,rfl,oM,oM⟩
theorem sG {u : Value} {vs : List co} {deep : Int} : fh u vs [116] deep 15 200:=by
 intro G r code p l hR hs hp
 refine bX [(0,_),(1,_),(2,_),(3,_)] Tryz.func79 kR Tryz.ntmps79 rfl rfl tU fun B hB hW=>?_
 repeat' (first | refine jX ?_ | (refine jo ?_;first | refine jV (ax rfl rfl) ?_ | refine jO fun _=>?_ | refine jD rfl rfl rfl ?_ | (refine aI rfl rfl rfl (wy ?_ (by (repeat (assumption));done)) rfl ?_;(focus omega);rintro _ _ ⟨tx,q1,rfl,htx,rfl,hq1,hq2⟩;dsimp only [zA,fA])) | refine ac rfl rfl ?_ | refine ad rfl rfl ?_)
 rename_i y
 refine Nx.sealC (b:=y) fun G2 hG2 hsy=>?_
 exact aW (vs:=[_]) rfl ⟨rfl,trivial⟩ rfl a8 ⟨hG2,.nd 116 tx 0 [],y,_,rfl,.leaf 116 _ _ _ y hsy (.inr (.inl ⟨rfl,rfl,rfl⟩)),by rw [br,V.tots];omega,by rw [V.out];simp [cO],rfl,oM,oM⟩
theorem u5 {ts : List Ty} {k : List UInt8} {ks : List V} {bs : List Nat} {w : V} {b : Nat} (hl : bs.length = ks.length) (h : ∀ i,i < ks.length → RepR G ts (ab ks i) k (ab bs i)) (hw : RepR G ts w k b) : ∀ i,i < (ks ++ [w]).length → RepR G ts (ab (ks ++ [w]) i) k (ab (bs ++ [b]) i):=fun i hi=>by
 by_cases h1 : i < ks.length
 ·have e1 : ab (ks ++ [w]) i = ab ks i:=by rw [aA hi,aA h1,List.getElem_append_left h1]
  have e2 : ab (bs ++ [b]) i = ab bs i:=by rw [aA (by simp;omega),aA oM,List.getElem_append_left oM]
  rw [e1,e2];exact h i h1
 ·have h2 : i = ks.length:=by simp at hi;omega
  have e1 : ab (ks ++ [w]) i = w:=by rw [aA hi];simp [h2]
  have e2 : ab (bs ++ [b]) i = b:=by rw [aA (by simp;omega)];simp [h2,hl]
  rw [e1,e2];exact hw
theorem qh {u : Value} {vs : List co} {kd : List UInt8} {deep cp : Int} {ct : Nat} (hcp : 0 ≤ cp ∧ cp ≤ 100000000) (hct : ct ≤ 100000000) (hD : 0 < deep → fh u vs kd (deep - 1) cp ct) (hu : u.oneCell' = true) (hkl : kd.length ≤ 1000) (hd : -1000 ≤ deep ∧ deep ≤ 1000) : fh u vs (91 :: kd) deep (3 * cp + 10) (3 * ct + 200):=by
 intro G r code p l hR hs hp
 have hkd0 : bt (91 :: kd) (Int.toNat 0) = 91:=bh 91 kd
 have hkl2 : (91 :: kd).length = kd.length + 1:=rfl
 refine bX [(0,_),(1,_),(2,_),(3,_)] Tryz.func79 kR Tryz.ntmps79 rfl rfl tU fun B hB hW=>?_
 repeat' (first | refine jM ?_ | (refine jo ?_;first | refine jV (ax rfl rfl) ?_ | refine jO fun _=>?_ | (refine aI rfl rfl rfl (cT ?_ (by (repeat (assumption));done)) rfl ?_;(focus omega);rintro _ _ ⟨k,rfl,rfl,hk0,hk1⟩;dsimp only [zA,fA])) | refine ac rfl rfl ?_ | refine ad rfl rfl ?_)
 rename_i y
 refine Nx.addNil uQ 1 ?_
 refine aV (ι:=List V × List Nat × Option Addr × Nat × Int × Int × Gh) (fun j=>((j.2.1.length = j.1.length ∧ ∀ i,i < j.1.length → RepR j.2.2.2.2.2.2 (ag vs) (ab j.1 i) kd (ab j.2.1 i)) ∧ Gh.le G j.2.2.2.2.2.2) ∧ (0 ≤ j.2.2.2.2.1 ∧ ((j.1.length : Nat) : Int) + j.2.2.2.2.1 ≤ 3) ∧ V.tots j.1 ≤ ct * j.1.length ∧ p ≤ j.2.2.2.2.2.1 ∧ j.2.2.2.2.2.1 ≤ p + 1 + cp * ((j.1.length : Nat) : Int)) (fun j=>[(0,Pt r 0),(1,u),(2,S (91 :: kd)),(3,I deep),(9,Pt y 0),(10,I j.2.2.2.2.1)]) (fun j=>j.2.2.2.2.2.2) (fun j=>[.acc (.slice j.2.2.1 j.1.length j.2.2.2.1) uQ 1 j.1.length (aj dl j.2.1),ee r code j.2.2.2.2.2.1 dk,.blk y (.cells (List.toArray [S (91 :: kd),S [],aQ,.slice j.2.2.1 j.1.length j.2.2.2.1]) nJ (0,0))]) (fun j=>j.2.2.2.2.1.toNat) ([],[],none,0,k,p + 1,G) ?_ tU rfl a8 (fun j Hj=>?_)
 ·refine ⟨⟨⟨rfl,fun i hi=>absurd hi (by simp)⟩,Gh.le.refl _⟩,?_,?_,?_,?_⟩
  ·dsimp only;simp only [List.length_nil];omega
  ·simp [V.tots]
  ·dsimp only;omega
  ·dsimp only;simp
 obtain ⟨ks,bs,a,c,kk,q,Gq⟩:=j
 dsimp only at Hj ⊢
 obtain ⟨⟨⟨hbl,hreps⟩,hgq⟩,hk,htt,hq0,hq1⟩:=Hj
 have hcl : cp * ((ks.length : Nat) : Int) ≤ cp * 3:=Int.mul_le_mul_of_nonneg_left oM hcp.1
 have hcl0 : 0 ≤ cp * ((ks.length : Nat) : Int):=Int.mul_nonneg hcp.1 oM
 have htl : ct * ks.length ≤ ct * 3:=Nat.mul_le_mul_left _ oM
 by_cases hgo : 0 < kk ∧ 0 < deep
 ·obtain ⟨hk0,hd0⟩:=hgo
  have hcl3 : cp * ((ks.length : Nat) : Int) + cp ≤ cp * 3:=by
   have:=Int.mul_le_mul_of_nonneg_left (show ((ks.length : Nat) : Int) + 1 ≤ 3 by omega) hcp.1
   rwa [Int.mul_add,Int.mul_one] at this
  have cx_dv:=fun {p : Int} (hp : 0 ≤ p ∧ p + cp ≤ 600000000000)=>hD hd0 Gq r code p l (hR.mono hgq) (hs.mono hgq) hp
  repeat' (first | refine jR ?_ | (refine jo ?_;refine aN rfl ?_) | refine aH rfl rfl (ay ‹_›) ?_ | refine ac rfl (ay ‹_›) ?_)
  (refine am (an (id:=16) [] (fun _ h=>absurd h (by simp)) al ?_);refine jW 7 [0,1,2,3,5,6,7,8,9,10] (aa 17 2031) ?_;refine b8 [4,11] kR dC ⟨?_,?_,trivial⟩;(focus (refine aO rfl rfl ?_;(refine aD rfl ?_);refine jK (aa 17 2047) ?_;refine jA 11 rfl ?_;((refine eo rfl rfl rfl (cx_dv ?_) rfl ?_;(focus omega);rintro _ G1 _ hle ⟨w1,b1,q1,rfl,hrep,htot,hone,rfl,hq1,hq2⟩;dsimp only [zA,fA];skip));refine jK (aa 17 4095) ?_;refine jA 12 rfl ?_;(refine jF fun _=>?_);refine jK (aa 17 8191) ?_;refine jA 13 rfl ?_;((refine bC rfl rfl rfl rfl rfl rfl rfl rfl rfl ?_ fun _ _=>?_;focus omega));refine jK (aa 17 16383) ?_;refine jW 1 [14,15] (aa 17 65535) ?_;refine jA 16 rfl ?_;(refine jD rfl rfl rfl ?_);refine jK (aa 17 131071) ?_;refine jQ ?_));rotate_left 1;(focus (refine aO rfl rfl ?_;((refine eo rfl rfl rfl (cx_dv ?_) rfl ?_;(focus omega);rintro _ G1 _ hle ⟨w1,b1,q1,rfl,hrep,htot,hone,rfl,hq1,hq2⟩;dsimp only [zA,fA];skip));refine jK (aa 17 4079) ?_;refine b8 [4,12] kR dC ⟨?_,?_,trivial⟩;(focus (refine aO rfl rfl ?_;(refine aD rfl ?_);refine jK (aa 17 4095) ?_;refine jA 12 rfl ?_;(refine jF fun _=>?_);refine jK (aa 17 8191) ?_;refine jA 13 rfl ?_;((refine bC rfl rfl rfl rfl rfl rfl rfl rfl rfl ?_ fun _ _=>?_;focus omega));refine jK (aa 17 16383) ?_;refine jW 1 [14,15] (aa 17 65535) ?_;refine jA 16 rfl ?_;(refine jD rfl rfl rfl ?_);refine jK (aa 17 131071) ?_;refine jQ ?_));rotate_left 1;(focus (refine aO rfl rfl ?_;(refine jF fun _=>?_);refine jK (aa 17 8175) ?_;refine jA 4 rfl ?_;(refine aD rfl ?_);refine jK (aa 17 8191) ?_;refine jA 13 rfl ?_;((refine bC rfl rfl rfl rfl rfl rfl rfl rfl rfl ?_ fun _ _=>?_;focus omega));refine jK (aa 17 16383) ?_;refine jW 1 [14,15] (aa 17 65535) ?_;refine jA 16 rfl ?_;(refine jD rfl rfl rfl ?_);refine jK (aa 17 131071) ?_;refine jQ ?_));rotate_left 1));rotate_left 2)
  all_goals repeat' (refine jM ?_)
  all_goals
   rename_i _ y1 yc
   have hl1 : (ks ++ [w1]).length = ks.length + 1:=by simp
   have hms : ct * (ks.length + 1) = ct * ks.length + ct:=Nat.mul_succ _ _
   have hts : V.tots (ks ++ [w1]) = V.tots ks + w1.tot:=by simp [dT,V.tots]
   rw [show aj dl bs ++ [Pt b1 0] = aj dl (bs ++ [b1]) from (bO dl bs b1).symm]
   exact bj (ks ++ [w1],bs ++ [b1],some ⟨y1,0,none⟩,yc,kk - 1,q1,G1) ⟨⟨⟨by simp [hbl],u5 hbl (fun i hi=>(hreps i hi).mono hle) hrep⟩,hgq.trans hle⟩,by dsimp only;rw [hl1];omega,by dsimp only;rw [hl1,hms,hts];omega,by dsimp only;omega,by dsimp only;rw [hl1,Int.natCast_succ,Int.mul_add,Int.mul_one];omega⟩ (by dsimp only;omega) tU rfl (by rw [hl1];repeat (first | exact List.Sublist.refl _ | apply List.Sublist.cons_cons | apply List.Sublist.cons))
 ·have : kk = 0 ∨ deep ≤ 0:=oM
  repeat' (first | refine jR ?_ | (refine jo ?_;first | refine aN rfl ?_ | refine aC rfl ?_) | refine eQ rfl rfl (fun _=>?_) (fun _=>?_) | (refine ad rfl (by first | rfl | (refine decide_eq_false ?_;(omega))) ?_))
  all_goals
   refine Nx.sealS (v:=.slice a ks.length c) fun G2 hG2 hsl=>?_
   refine Nx.sealC (b:=y) fun G3 hG3 hsg=>?_
   exact aW (vs:=[_]) rfl ⟨rfl,trivial⟩ rfl a8 ⟨hgq.trans (hG2.trans hG3),.nd 91 [] 0 ks,y,q,rfl,.lst kd y ks bs a c hsg (hsl.mono hG3) hbl (fun i hi=>(hreps i hi).mono (hG2.trans hG3)),by rw [br];simp only [List.length_nil];omega,by rw [V.out];simp [cO],rfl,oM,oM⟩
theorem sH {u : Value} {vs : List co} {kd : List UInt8} {deep cp : Int} {ct : Nat} (hcp : 0 ≤ cp ∧ cp ≤ 100000000) (hct : ct ≤ 100000000) (hD : 0 < deep → fh u vs kd (deep - 1) cp ct) (hu : u.oneCell' = true) (hkl : kd.length ≤ 1000) (hd : -1000 ≤ deep ∧ deep ≤ 1000) : fh u vs (63 :: kd) deep (cp + 10) (ct + 200):=by
 intro G r code p l hR hs hp
 have hkd0 : bt (63 :: kd) (Int.toNat 0) = 63:=bh 63 kd
 have hkl2 : (63 :: kd).length = kd.length + 1:=rfl
 by_cases h0 : 0 < deep
 ·have cx_dv:=fun {p : Int} (hp : 0 ≤ p ∧ p + cp ≤ 600000000000)=>hD h0 G r code p l hR hs hp
  refine bX [(0,_),(1,_),(2,_),(3,_)] Tryz.func79 kR Tryz.ntmps79 rfl rfl tU fun B hB hW=>?_
  repeat' (first | refine jM ?_ | (refine jo ?_;first | refine jV (ax rfl rfl) ?_ | refine jO fun _=>?_ | refine aN rfl ?_ | (refine aI rfl rfl rfl (cT ?_ (by (repeat (assumption));done)) rfl ?_;(focus omega);rintro _ _ ⟨k,rfl,rfl,hk0,hk1⟩;dsimp only [zA,fA])) | refine aH rfl rfl (ay ‹_›) ?_ | refine ac rfl rfl ?_ | refine ad rfl rfl ?_ | refine er rfl (fun _=>?_) (fun _=>?_))
  ·refine Nx.addNil uQ 1 ?_
   (refine am (an (id:=20) [] (fun _ h=>absurd h (by simp)) al ?_);refine jW 7 [0,1,2,3,5,6,7,8,9,10] (aa 17 2031) ?_;refine b8 [4,11] kR dC ⟨?_,?_,trivial⟩;(focus (refine aO rfl rfl ?_;(refine aD rfl ?_);refine jK (aa 17 2047) ?_;refine jA 11 rfl ?_;((refine eo rfl rfl rfl (cx_dv ?_) rfl ?_;(focus omega);rintro _ G1 _ hle ⟨w1,b1,q1,rfl,hrep,htot,hone,rfl,hq1,hq2⟩;dsimp only [zA,fA];skip));refine jK (aa 17 4095) ?_;refine jA 12 rfl ?_;(refine jF fun _=>?_);refine jK (aa 17 8191) ?_;refine jA 13 rfl ?_;((refine bC rfl rfl rfl rfl rfl rfl rfl rfl rfl ?_ fun _ _=>?_;focus omega));refine jK (aa 17 16383) ?_;refine jW 1 [14,15] (aa 17 65535) ?_;refine jA 16 rfl ?_;(refine jD rfl rfl rfl ?_);refine jK (aa 17 131071) ?_;refine jQ ?_));rotate_left 1;(focus (refine aO rfl rfl ?_;((refine eo rfl rfl rfl (cx_dv ?_) rfl ?_;(focus omega);rintro _ G1 _ hle ⟨w1,b1,q1,rfl,hrep,htot,hone,rfl,hq1,hq2⟩;dsimp only [zA,fA];skip));refine jK (aa 17 4079) ?_;refine b8 [4,12] kR dC ⟨?_,?_,trivial⟩;(focus (refine aO rfl rfl ?_;(refine aD rfl ?_);refine jK (aa 17 4095) ?_;refine jA 12 rfl ?_;(refine jF fun _=>?_);refine jK (aa 17 8191) ?_;refine jA 13 rfl ?_;((refine bC rfl rfl rfl rfl rfl rfl rfl rfl rfl ?_ fun _ _=>?_;focus omega));refine jK (aa 17 16383) ?_;refine jW 1 [14,15] (aa 17 65535) ?_;refine jA 16 rfl ?_;(refine jD rfl rfl rfl ?_);refine jK (aa 17 131071) ?_;refine jQ ?_));rotate_left 1;(focus (refine aO rfl rfl ?_;(refine jF fun _=>?_);refine jK (aa 17 8175) ?_;refine jA 4 rfl ?_;(refine aD rfl ?_);refine jK (aa 17 8191) ?_;refine jA 13 rfl ?_;((refine bC rfl rfl rfl rfl rfl rfl rfl rfl rfl ?_ fun _ _=>?_;focus omega));refine jK (aa 17 16383) ?_;refine jW 1 [14,15] (aa 17 65535) ?_;refine jA 16 rfl ?_;(refine jD rfl rfl rfl ?_);refine jK (aa 17 131071) ?_;refine jQ ?_));rotate_left 1));rotate_left 2)
   all_goals repeat' (refine jR ?_)
   all_goals
    rename_i y _ _ y1 yc
    refine Nx.sealS (v:=.slice (some ⟨y1,0,none⟩) (0 + 1) yc) fun G2 hG2 hsl=>?_
    refine Nx.sealC (b:=y) fun G3 hG3 hsg=>?_
    obtain ⟨_,⟨h,_⟩ | ⟨b2,o2,c2,e,hc2,hs2⟩⟩:=hsl
    ·cases h
    simp only [Value.slice.injEq,Option.some.injEq,Addr.mk.injEq,and_true] at e
    obtain ⟨⟨rfl,rfl⟩,-,rfl⟩:=e
    exact aW (vs:=[_]) rfl ⟨rfl,trivial⟩ rfl sB ⟨hle.trans (hG2.trans hG3),.nd 63 [] 0 [w1],y,q1,rfl,.opt kd y y1 b1 yc w1 oM hsg (hs2.mono hG3) (hrep.mono (hG2.trans hG3)),by simp only [br,V.tots,List.length_nil];omega,by rw [V.out];simp [cO],rfl,oM,oM⟩
  ·rename_i y _
   refine Nx.sealC (b:=y) fun G2 hG2 hsy=>?_
   exact aW (vs:=[_]) rfl ⟨rfl,trivial⟩ rfl a8 ⟨hG2,.nd 63 [] 0 [],y,_,rfl,.non kd y hsy,by simp [br,V.tots],by rw [V.out];simp [cO],rfl,oM,oM⟩
 ·refine bX [(0,_),(1,_),(2,_),(3,_)] Tryz.func79 kR Tryz.ntmps79 rfl rfl tU fun B hB hW=>?_
  repeat' (first | refine jM ?_ | (refine jo ?_;first | refine jV (ax rfl rfl) ?_ | refine jO fun _=>?_ | refine aC rfl ?_) | refine ar rfl rfl (aG ‹_›) ?_ | refine ac rfl rfl ?_ | refine ad rfl rfl ?_)
  rename_i y
  refine Nx.sealC (b:=y) fun G2 hG2 hsy=>?_
  exact aW (vs:=[_]) rfl ⟨rfl,trivial⟩ rfl a8 ⟨hG2,.nd 63 [] 0 [],y,_,rfl,.non kd y hsy,by simp [br,V.tots],by rw [V.out];simp [cO],rfl,oM,oM⟩
abbrev oe : TypeId:=155
abbrev xR : TypeId:=56
abbrev xU : TypeId:=3
def pT (u : Value) (vs : List co) (k : List UInt8) (deep cp : Int) (ct : Nat) : Prop:=∀ (G : Gh) (r : Nat) (code : Value) (p : Int) (l : List UInt8),SchR G u vs → aP G code 1 l.length (ck l) → 0 ≤ p ∧ p + cp ≤ 600000000000 →
 fw Tryz.prog 113 [Pt r 0,u,S k,I deep] G [ee r code p dk] (fun v G' L'=>∃ w b q,v = Pt b 0 ∧ RepR G' (ag vs) w k b ∧ w.tot ≤ ct ∧ 1 ≤ w.out.length ∧ L' = [ee r code q dk] ∧ p ≤ q ∧ q ≤ p + cp)
theorem sF {u : Value} {vs : List co} {k : List UInt8} {deep cp : Int} {ct : Nat} (hD : pT u vs (64 :: k) deep cp ct) (hkl : k.length ≤ 1000) : fh u vs (64 :: k) deep cp ct:=by
 intro G r code p l hR hs hp
 have hkd0 : bt (64 :: k) (Int.toNat 0) = 64:=bh 64 k
 have hkl2 : (64 :: k).length = k.length + 1:=rfl
 have cx_dt:=fun {p : Int} (hp : 0 ≤ p ∧ p + cp ≤ 600000000000)=>hD G r code p l hR hs hp
 refine bX [(0,_),(1,_),(2,_),(3,_)] Tryz.func79 kR Tryz.ntmps79 rfl rfl tU fun B hB hW=>?_
 repeat' (first | refine jM ?_ | (refine jo ?_;first | refine jV (ax rfl rfl) ?_ | refine jO fun _=>?_ | (refine eo rfl rfl rfl (cx_dt ‹_›) rfl ?_;rintro _ G1 _ hle ⟨w1,b1,q1,rfl,hrep,htot,hone,rfl,hq1,hq2⟩;dsimp only [zA,fA];skip)) | refine ad rfl rfl ?_)
 exact aW (vs:=[_]) rfl ⟨rfl,trivial⟩ rfl sB ⟨hle,w1,b1,q1,rfl,hrep,htot,hone,rfl,hq1,hq2⟩
section
variable {u : Value} {vs : List co} {kd nm : List UInt8} {fs : List Fld} {a : Option Addr} {ca : Nat} {deep cp : Int} {ct : Nat}
theorem v8 (hr : eT vs kd = some ((a,ca),⟨69,nm,fs⟩)) (hvl : vs.length ≤ 1000000) (hk : eR kd = true) (hkl : kd.length ≤ 1000) (h0 : 0 < fs.length) (h8 : fs.length ≤ 8) (hw : SchW (ag vs)) : pT u vs kd deep 10 300:=by
 intro G r code p l hR hs hp
 have href:=eV vs kd
 rw [hr] at href
 have cx_rf:=iR (G:=G) (k:=kd) hR hvl hk oM
 rw [hr] at cx_rf
 have htm:=bn href.symm
 obtain ⟨bf,of,cf,ef,hsf⟩:=(hR.fl _ (gg hr)).expl h0
 simp only [ge,Value.slice.injEq] at ef
 obtain ⟨rfl,-,rfl⟩:=ef
 dsimp only at hsf
 have cx_rf : a9 Tryz.prog 116 [u,S kd] G (· = Tu [Ag [U8 (69 : Nat),S nm,.slice (some ⟨bf,of,none⟩) fs.length ca],Bo true]):=cx_rf
 refine bX [(0,_),(1,_),(2,_),(3,_)] Tryz.func113 kR Tryz.ntmps113 rfl rfl tU fun B hB hW=>?_
 repeat' (first | refine jR ?_ | (refine jo ?_;first | refine jL fun _=>?_ | refine jC rfl rfl rfl ?_ | refine aD rfl ?_ | refine jF fun _=>?_ | refine jV (im rfl rfl (by (repeat (first | exact BL.nil | apply BL.lit rfl));done)) ?_ | refine jV (ax rfl rfl) ?_ | refine jO fun _=>?_ | refine ae rfl rfl rfl cx_rf rfl ?_) | refine ac rfl rfl ?_)
 rename_i y9 _ y11
 (refine am (an (id:=5) [.blk y9 (.cells (List.toArray [U8 (69 : Nat),S nm,.slice (some ⟨bf,of,none⟩) fs.length ca]) oe (0,0))] (by intro y hy;simp only [List.mem_cons,List.not_mem_nil,or_false] at hy ⊢;simp [hy]) al ?_);refine jW 11 [0,1,3,4] (aa 15 27) ?_;(refine jG (aa 15 31) 2 rfl (aT rfl rfl rfl) ?_);(refine jG (aa 15 63) 5 rfl (aT rfl rfl rfl) ?_);(refine jG (aa 15 127) 6 rfl (af rfl) ?_);refine jA 7 rfl ?_;((refine aI rfl rfl rfl (cT ?_ (by (repeat (assumption));done)) rfl ?_;(focus omega);rintro _ _ ⟨k,rfl,rfl,hk0,hk1⟩;dsimp only [zA,fA]));refine jK (aa 15 255) ?_;((refine jG (aa 15 511) 8 rfl (aM rfl rfl ?_) ?_;focus omega));refine jW 5 [9] (aa 15 1023) ?_;((refine jG (aa 15 2047) 10 rfl (bT rfl rfl aS ?_ rfl rfl) ?_;focus omega));refine jA 11 rfl ?_;(refine jF fun _=>?_);refine jK (aa 15 4095) ?_;refine jW 1 [12,13] (aa 15 16383) ?_;refine jA 14 rfl ?_;(refine jD rfl rfl rfl ?_);refine jK (aa 15 32767) ?_;refine jQ ?_)
 all_goals repeat' (refine jR ?_)
 all_goals
  rename_i y1
  refine Nx.sealC (b:=y1) fun G2 hG2 hsy=>?_
  refine Nx.sealC (b:=y11) fun G3 hG3 hsg=>?_
  have hdm : ab fs k.toNat ∈ fs:=be oM
  exact aW (vs:=[_]) rfl ⟨rfl,trivial⟩ rfl sB ⟨hG2.trans hG3,.nd 69 [] (ab fs k.toNat).tag [],y11,_,rfl,.enm kd y11 y1 ⟨69,nm,fs⟩ (ab fs k.toNat) ⟨href.symm,rfl⟩ hdm hsg (hsy.mono hG3),by simp [br,V.tots],by rw [V.out];simp [cO],rfl,oM,oM⟩
theorem v7 (hr : eT vs kd = some ((a,ca),⟨85,nm,fs⟩)) (hvl : vs.length ≤ 1000000) (hk : eR kd = true) (hkl : kd.length ≤ 1000) (h0 : 0 < fs.length) (h8 : fs.length ≤ 8) (hw : SchW (ag vs)) (hcp : 0 ≤ cp ∧ cp ≤ 100000000) (hct : ct ≤ 100000000)
  (hD : ∀ d ∈ fs,(0 < deep ∨ d = ab fs 0) → fh u vs d.kind (deep - 1) cp ct) (hd : -1000 ≤ deep ∧ deep ≤ 1000) : pT u vs kd deep (cp + 10) (ct + 20):=by
 intro G r code p l hR hs hp
 have href:=eV vs kd
 rw [hr] at href
 have cx_rf:=iR (G:=G) (k:=kd) hR hvl hk oM
 rw [hr] at cx_rf
 have htm:=bn href.symm
 obtain ⟨bf,of,cf,ef,hsf⟩:=(hR.fl _ (gg hr)).expl h0
 simp only [ge,Value.slice.injEq] at ef
 obtain ⟨rfl,-,rfl⟩:=ef
 dsimp only at hsf
 have cx_rf : a9 Tryz.prog 116 [u,S kd] G (· = Tu [Ag [U8 (85 : Nat),S nm,.slice (some ⟨bf,of,none⟩) fs.length ca],Bo true]):=cx_rf
 refine bX [(0,_),(1,_),(2,_),(3,_)] Tryz.func113 kR Tryz.ntmps113 rfl rfl tU fun B hB hW=>?_
 repeat' (first | refine jM ?_ | (refine jo ?_;first | refine jL fun _=>?_ | refine jD rfl rfl rfl ?_ | refine jC rfl rfl rfl ?_ | refine aD rfl ?_ | (refine jV (dX rfl rfl aS ?_) ?_;focus omega) | refine jF fun _=>?_ | refine jV (im rfl rfl (by (repeat (first | exact BL.nil | apply BL.lit rfl));done)) ?_ | refine jV (ax rfl rfl) ?_ | refine jO fun _=>?_ | refine jV (ak rfl rfl oM) ?_ | refine ae rfl rfl rfl cx_rf rfl ?_) | refine ac rfl rfl ?_ | refine ad rfl rfl ?_ | refine er rfl (fun _=>?_) (fun _=>?_))
 ·rename_i y9 _ y11 y12 hd0
  (refine am (an (id:=10) [.blk y9 (.cells (List.toArray [U8 (85 : Nat),S nm,.slice (some ⟨bf,of,none⟩) fs.length ca]) oe (0,0))] (by intro y hy;simp only [List.mem_cons,List.not_mem_nil,or_false] at hy ⊢;simp [hy]) al ?_);refine jW 7 [0,2,3] (aa 10 13) ?_;(refine jG (aa 10 15) 1 rfl (aT rfl rfl rfl) ?_);(refine jG (aa 10 31) 4 rfl (aT rfl rfl rfl) ?_);(refine jG (aa 10 63) 5 rfl (af rfl) ?_);refine jA 6 rfl ?_;((refine aI rfl rfl rfl (cT ?_ (by (repeat (assumption));done)) rfl ?_;(focus omega);rintro _ _ ⟨k,rfl,rfl,hk0,hk1⟩;dsimp only [zA,fA]));refine jK (aa 10 127) ?_;((refine jG (aa 10 255) 7 rfl (aM rfl rfl ?_) ?_;focus omega));((refine jG (aa 10 511) 8 rfl (dX rfl rfl aS ?_) ?_;focus omega));refine jA 9 rfl ?_;(refine jC rfl rfl rfl ?_);refine jK (aa 10 1023) ?_;refine jQ ?_)
  all_goals have hdm : ab fs k.toNat ∈ fs:=be oM
  all_goals have cx_dv:=fun {p : Int} (hp : 0 ≤ p ∧ p + cp ≤ 600000000000)=>hD (ab fs k.toNat) hdm (.inl hd0) G r code p l hR hs hp
  all_goals repeat' (first | refine jM ?_ | (refine jo ?_;first | refine jD rfl rfl rfl ?_ | refine aD rfl ?_ | refine jF fun _=>?_ | (refine eo rfl rfl rfl (cx_dv oM) rfl ?_;rintro _ G1 _ hle ⟨w1,b1,q1,rfl,hrep,htot,hone,rfl,hq1,hq2⟩;dsimp only [zA,fA];skip)))
  all_goals
   rename_i y1 y2
   refine Nx.sealC (b:=y1) fun G2 hG2 hs1=>?_
   refine Nx.sealC (b:=y2) fun G3 hG3 hs2=>?_
   refine Nx.sealC (b:=y11) fun G4 hG4 hsg=>?_
   exact aW (vs:=[_]) rfl ⟨rfl,trivial⟩ rfl sB ⟨((hle.trans hG2).trans hG3).trans hG4,.nd 85 [] (ab fs k.toNat).tag [w1],y11,_,rfl,.uni kd y11 y1 y2 b1 1 ⟨85,nm,fs⟩ (ab fs k.toNat) w1 (Nat.le_refl _) ⟨href.symm,rfl⟩ hdm hsg (hs1.mono (hG3.trans hG4)) (hs2.mono hG4) (hrep.mono ((hG2.trans hG3).trans hG4)),by simp only [br,V.tots,List.length_nil];omega,by rw [V.out];simp [cO],rfl,oM,oM⟩
 ·have cx_dv:=fun {p : Int} (hp : 0 ≤ p ∧ p + cp ≤ 600000000000)=>hD (ab fs 0) (be h0) (.inr rfl) G r code p l hR hs hp
  repeat' (first | refine jR ?_ | (refine jo ?_;first | refine jD rfl rfl rfl ?_ | refine jF fun _=>?_ | (refine eo rfl rfl rfl (cx_dv oM) rfl ?_;rintro _ G1 _ hle ⟨w1,b1,q1,rfl,hrep,htot,hone,rfl,hq1,hq2⟩;dsimp only [zA,fA];skip)))
  all_goals
   rename_i y9 _ y11 y12 _ y1 y2
   refine Nx.sealC (b:=y1) fun G2 hG2 hs1=>?_
   refine Nx.sealC (b:=y2) fun G3 hG3 hs2=>?_
   refine Nx.sealC (b:=y11) fun G4 hG4 hsg=>?_
   exact aW (vs:=[_]) rfl ⟨rfl,trivial⟩ rfl sB ⟨((hle.trans hG2).trans hG3).trans hG4,.nd 85 [] (ab fs 0).tag [w1],y11,_,rfl,.uni kd y11 y1 y2 b1 1 ⟨85,nm,fs⟩ (ab fs 0) w1 (Nat.le_refl _) ⟨href.symm,rfl⟩ (be h0) hsg (hs1.mono (hG3.trans hG4)) (hs2.mono hG4) (hrep.mono ((hG2.trans hG3).trans hG4)),by simp only [br,V.tots,List.length_nil];omega,by rw [V.out];simp [cO],rfl,oM,oM⟩
theorem zl (hr : eT vs kd = some ((a,ca),⟨82,nm,fs⟩)) (hvl : vs.length ≤ 1000000) (hk : eR kd = true) (hkl : kd.length ≤ 1000) (h8 : fs.length ≤ 8) (hd : -1000 ≤ deep ∧ deep ≤ 0) : pT u vs kd deep 10 100:=by
 intro G r code p l hR hs hp
 have href:=eV vs kd
 rw [hr] at href
 have cx_rf:=iR (G:=G) (k:=kd) hR hvl hk oM
 rw [hr] at cx_rf
 have cx_rf : a9 Tryz.prog 116 [u,S kd] G (· = Tu [Ag [U8 (82 : Nat),S nm,.slice a fs.length ca],Bo true]):=cx_rf
 refine bX [(0,_),(1,_),(2,_),(3,_)] Tryz.func113 kR Tryz.ntmps113 rfl rfl tU fun B hB hW=>?_
 repeat' (first | refine jR ?_ | (refine jo ?_;first | refine jL fun _=>?_ | refine jC rfl rfl rfl ?_ | refine aD rfl ?_ | refine jF fun _=>?_ | refine jV (im rfl rfl (by (repeat (first | exact BL.nil | apply BL.lit rfl));done)) ?_ | refine jV (ax rfl rfl) ?_ | refine jO fun _=>?_ | refine ae rfl rfl rfl cx_rf rfl ?_) | refine ad rfl rfl ?_)
 rename_i y9 _ y11
 refine aV (ι:=Unit) (fun i=>True) (fun i=>[(0,Pt r 0),(1,u),(2,S kd),(3,I deep),(9,Pt y9 0),(11,Pt y11 0),(13,I 0)]) (fun _=>G) (fun i=>[.blk y11 (.cells (List.toArray [S kd,S [82],aQ,aQ]) nJ (0,0)),.blk y9 (.cells (List.toArray [U8 (82 : Nat),S nm,.slice a fs.length ca]) oe (0,0)),ee r code p dk]) (fun i=>0) () ?_ tU rfl sB (fun i Hi=>?_)
 ·trivial
 by_cases h0 : 0 < fs.length
 all_goals repeat' (first | refine jR ?_ | (refine jo ?_;first | refine aD rfl ?_ | refine jV (af rfl) ?_ | refine aN rfl ?_ | refine aC rfl ?_) | refine aH rfl rfl (ay oM) ?_ | refine ar rfl rfl (aG oM) ?_ | (refine ad rfl (by first | rfl | (refine decide_eq_false ?_;(omega))) ?_))
 all_goals
  refine Nx.sealC (b:=y11) fun G2 hG2 hsg=>?_
  exact aW (vs:=[_]) rfl ⟨rfl,trivial⟩ rfl sB ⟨hG2,.nd 82 [] 0 [],y11,p,rfl,.recd kd y11 ⟨82,nm,fs⟩ [] [] none none 0 0 ⟨href.symm,rfl⟩ hsg ⟨rfl,.inl ⟨rfl,rfl⟩⟩ ⟨rfl,.inl ⟨rfl,rfl⟩⟩ rfl (fun i hi=>absurd hi (by simp)) (fun i hi=>absurd hi (by simp)),by simp [br,V.tots],by rw [V.out];simp [cO],rfl,oM,oM⟩
theorem aaZ (hr : eT vs kd = some ((a,ca),⟨82,nm,fs⟩)) (hvl : vs.length ≤ 1000000) (hk : eR kd = true) (hkl : kd.length ≤ 1000) (h8 : fs.length ≤ 8) (hw : SchW (ag vs)) (hcp : 0 ≤ cp ∧ cp ≤ 100000000) (hct : ct ≤ 100000000)
  (hD : ∀ d ∈ fs,fh u vs d.kind (deep - 1) cp ct) (hd : 0 < deep ∧ deep ≤ 1000) : pT u vs kd deep (8 * cp + 20) (8 * ct + 200):=by
 intro G r code p l hR hs hp
 have href:=eV vs kd
 rw [hr] at href
 have cx_rf:=iR (G:=G) (k:=kd) hR hvl hk oM
 rw [hr] at cx_rf
 have htm:=bn href.symm
 have cx_rf : a9 Tryz.prog 116 [u,S kd] G (· = Tu [Ag [U8 (82 : Nat),S nm,.slice a fs.length ca],Bo true]):=cx_rf
 refine bX [(0,_),(1,_),(2,_),(3,_)] Tryz.func113 kR Tryz.ntmps113 rfl rfl tU fun B hB hW=>?_
 repeat' (first | refine jR ?_ | (refine jo ?_;first | refine jL fun _=>?_ | refine jC rfl rfl rfl ?_ | refine aD rfl ?_ | refine jF fun _=>?_ | refine jV (im rfl rfl (by (repeat (first | exact BL.nil | apply BL.lit rfl));done)) ?_ | refine jV (ax rfl rfl) ?_ | refine jO fun _=>?_ | refine ae rfl rfl rfl cx_rf rfl ?_) | refine ad rfl rfl ?_)
 rename_i y9 _ y11
 refine Nx.addNil xU 1 (Nx.addNil xR 1 ?_)
 refine Nx.perm (((List.perm_append_comm (l₁:=[_,_,_]) (l₂:=[_])).cons _).cons _) ?_
 dsimp only [zA,fA]
 refine aV (ι:=List (Fld × V) × List Nat × Option Addr × Nat × Option Addr × Nat × Nat × Int × Gh) (fun j=>((j.2.1.length = j.1.length ∧ (∀ i,i < j.1.length → (ab j.1 i).1 ∈ fs) ∧ ∀ i,i < j.1.length → RepR j.2.2.2.2.2.2.2.2 (ag vs) (ab j.1 i).2 (ab j.1 i).1.kind (ab j.2.1 i)) ∧ Gh.le G j.2.2.2.2.2.2.2.2) ∧ (j.1.length ≤ j.2.2.2.2.2.2.1 ∧ j.2.2.2.2.2.2.1 ≤ fs.length) ∧ V.tots (ii j.1) ≤ (ct + 20) * j.1.length ∧ p ≤ j.2.2.2.2.2.2.2.1 ∧ j.2.2.2.2.2.2.2.1 ≤ p + (cp + 1) * ((j.2.2.2.2.2.2.1 : Nat) : Int)) (fun j=>[(0,Pt r 0),(1,u),(2,S kd),(3,I deep),(9,Pt y9 0),(11,Pt y11 0),(13,I ((j.2.2.2.2.2.2.1 : Nat) : Int))]) (fun j=>j.2.2.2.2.2.2.2.2) (fun j=>[.acc (.slice j.2.2.2.2.1 j.1.length j.2.2.2.2.2.1) xR 1 j.1.length (aj dl j.2.1),.acc (.slice j.2.2.1 j.1.length j.2.2.2.1) xU 1 j.1.length (aj cB (j.1.map fun p=>p.1.tag)),ee r code j.2.2.2.2.2.2.2.1 dk,.blk y11 (.cells (List.toArray [S kd,S [82],.slice j.2.2.1 j.1.length j.2.2.2.1,.slice j.2.2.2.2.1 j.1.length j.2.2.2.2.2.1]) nJ (0,0)),.blk y9 (.cells (List.toArray [U8 (82 : Nat),S nm,.slice a fs.length ca]) oe (0,0))]) (fun j=>fs.length - j.2.2.2.2.2.2.1) ([],[],none,0,none,0,0,p,G) ?_ tU rfl sB (fun j Hj=>?_)
 ·refine ⟨⟨⟨rfl,fun i hi=>absurd hi (by simp),fun i hi=>absurd hi (by simp)⟩,Gh.le.refl _⟩,?_,?_,?_,?_⟩
  ·exact ⟨Nat.le_refl _,Nat.zero_le _⟩
  ·simp [ii,V.tots]
  ·dsimp only;omega
  ·dsimp only;simp
 obtain ⟨gs,bs,a1,c1,a2,c2,i,q,Gq⟩:=j
 dsimp only at Hj ⊢
 obtain ⟨⟨⟨hbl,hfm,hreps⟩,hgq⟩,hil,htt,hq0,hq1⟩:=Hj
 have hcl : (cp + 1) * ((i : Nat) : Int) ≤ (cp + 1) * 8:=Int.mul_le_mul_of_nonneg_left oM oM
 have hcl0 : 0 ≤ (cp + 1) * ((i : Nat) : Int):=Int.mul_nonneg oM oM
 have htl : (ct + 20) * gs.length ≤ (ct + 20) * 8:=Nat.mul_le_mul_left _ oM
 by_cases hgo : i < fs.length
 ·have hcl3 : (cp + 1) * ((i : Nat) : Int) + (cp + 1) ≤ (cp + 1) * 8:=by
   have:=Int.mul_le_mul_of_nonneg_left (show ((i : Nat) : Int) + 1 ≤ 8 by omega) (show 0 ≤ cp + 1 by omega)
   rwa [Int.mul_add,Int.mul_one] at this
  obtain ⟨bf,of,cf,ef,hsf⟩:=(hR.fl _ (gg hr)).expl (by dsimp only;omega)
  simp only [ge,Value.slice.injEq] at ef
  obtain ⟨rfl,-,rfl⟩:=ef
  dsimp only at hsf
  have hdm : ab fs i ∈ fs:=be hgo
  have hdk : aB (ag vs) (ab fs i).kind = true:=dN hw htm (by simp) hdm
  have cx_dv:=fun {p : Int} (hp : 0 ≤ p ∧ p + cp ≤ 600000000000)=>hD (ab fs i) hdm Gq r code p l (hR.mono hgq) (hs.mono hgq) hp
  have hsf:=hsf.mono hgq
  repeat' (first | refine jM ?_ | (refine jo ?_;first | refine aD rfl ?_ | (refine jV (bT rfl rfl aS ?_ rfl rfl) ?_;focus omega) | refine jV (af rfl) ?_ | refine jV (ak rfl rfl oM) ?_ | refine aN rfl ?_ | (refine eo rfl rfl rfl (cx_dv oM) rfl ?_;rintro _ G1 _ hle ⟨w1,b1,q1,rfl,hrep,htot,hone,rfl,hq1,hq2⟩;dsimp only [zA,fA];(try have hsf:=hsf.mono hle))) | refine aH rfl rfl (ay oM) ?_ | refine ac rfl (ay oM) ?_)
  have hgl:=hgq.trans hle
  have cx_pk3 : ∀ {p : Int},0 ≤ p ∧ p ≤ 1000000000000 → dA Tryz.prog 45 [Pt r 0,I 3] G1 [ee r code p dk] (fun v L'=>L' = [ee r code (p + 1) dk] ∧ (v = I 0 ∨ ∃ k,v = I k ∧ 0 < k)):=fun {p} hp=>(cT (b:=r) (p:=p) (n:=3) ⟨hp.1,hp.2,by decide⟩ (hs.mono hgl)).mono fun v G' L' ⟨h1,k,h2,h3,h4,h5⟩=>⟨h1,h3,by subst h2;rcases (show k = 0 ∨ 0 < k by omega) with rfl | h;exact .inl rfl;exact .inr ⟨k,rfl,h⟩⟩
  have cx_out:=fR hw hrep oM
  have cx_sta:=l6 (f:=ab fs i) (hR.mono hgl) hw hdk
  have hms : (cp + 1) * ((i + 1 : Nat) : Int) = (cp + 1) * ((i : Nat) : Int) + (cp + 1):=by rw [Int.natCast_succ,Int.mul_add,Int.mul_one]
  by_cases heq : w1.out = bQ (ag vs) (ab fs i)
  ·(refine am (an (id:=18) [.blk y9 (.cells (List.toArray [U8 (82 : Nat),S nm,.slice (some ⟨bf,of,none⟩) fs.length ca]) oe (0,0))] (by intro y hy;simp only [List.mem_cons,List.not_mem_nil,or_false] at hy ⊢;simp [hy]) al ?_);refine jW 14 [0] (aa 15 1) ?_;refine b8 [1] kR dC ⟨?_,trivial⟩;(refine aO rfl rfl ?_;(refine aI rfl rfl rfl (cx_pk3 oM) rfl ?_;rintro _ _ ⟨rfl,rfl | ⟨k,rfl,hk0⟩⟩ <;> dsimp only [zA,fA])) <;> (refine jS (aa 15 3) ?_;refine jT 11 [2,3] (aa 15 15) ?_;(try (first | (refine Nx.re (d:=107) (v':=Bo true) rfl (congrArg Value.bool (ay ‹_›)) ?_) | refine Nx.re (d:=107) (v':=Bo false) rfl (congrArg Value.bool rfl) ?_));refine jT 7 [4,6,7,9] (aa 15 735) ?_;(first | refine jG (aa 15 991) 8 rfl (aT rfl rfl rfl) ?_ | refine jN (aa 15 991) 8 rfl ?_);(first | refine jG (aa 15 2015) 10 rfl (ak rfl rfl oM) ?_ | refine jN (aa 15 2015) 10 rfl ?_);(first | (refine jG (aa 15 4063) 11 rfl (dX rfl rfl aS ?_) ?_;focus omega) | refine jN (aa 15 4063) 11 rfl ?_);(first | refine jN (aa 15 4095) 5 rfl ?_ | (refine jA 5 rfl ?_;(refine ae rfl rfl rfl cx_out rfl ?_);refine jS (aa 15 4095) ?_));(first | refine jN (aa 15 8191) 12 rfl ?_ | (refine jA 12 rfl ?_;(refine ae rfl rfl rfl cx_sta rfl ?_);refine jS (aa 15 8191) ?_));refine jT 1 [13] (aa 15 16383) ?_;(first | refine jG (aa 15 32767) 14 rfl (bL rfl rfl rfl) ?_ | refine jG (aa 15 32767) 14 rfl (bi rfl rfl rfl) ?_);refine jQ ?_))
   all_goals repeat' (first | refine jM ?_ | (refine ad rfl ?_ ?_;(focus ((first | rfl | (simp [*];done));done))))
   all_goals
    refine Nx.perm ((List.Perm.swap _ _ _).trans ((List.Perm.swap _ _ _).cons _)) ?_
    exact bj (gs,bs,a1,c1,a2,c2,i + 1,q1 + 1,G1) ⟨⟨⟨hbl,hfm,fun i hi=>(hreps i hi).mono hle⟩,hgl⟩,⟨by dsimp only;omega,by dsimp only;omega⟩,htt,by dsimp only;omega,by dsimp only;rw [hms];omega⟩ (by dsimp only;omega) tU rfl a8
  ·(refine am (an (id:=18) [.blk y9 (.cells (List.toArray [U8 (82 : Nat),S nm,.slice (some ⟨bf,of,none⟩) fs.length ca]) oe (0,0))] (by intro y hy;simp only [List.mem_cons,List.not_mem_nil,or_false] at hy ⊢;simp [hy]) al ?_);refine jW 14 [0] (aa 15 1) ?_;refine b8 [1] kR dC ⟨?_,trivial⟩;(refine aO rfl rfl ?_;(refine aI rfl rfl rfl (cx_pk3 oM) rfl ?_;rintro _ _ ⟨rfl,rfl | ⟨k,rfl,hk0⟩⟩ <;> dsimp only [zA,fA])) <;> (refine jS (aa 15 3) ?_;refine jT 11 [2,3] (aa 15 15) ?_;(try (first | (refine Nx.re (d:=107) (v':=Bo true) rfl (congrArg Value.bool (ay ‹_›)) ?_) | refine Nx.re (d:=107) (v':=Bo false) rfl (congrArg Value.bool rfl) ?_));refine jT 7 [4,6,7,9] (aa 15 735) ?_;(first | refine jG (aa 15 991) 8 rfl (aT rfl rfl rfl) ?_ | refine jN (aa 15 991) 8 rfl ?_);(first | refine jG (aa 15 2015) 10 rfl (ak rfl rfl oM) ?_ | refine jN (aa 15 2015) 10 rfl ?_);(first | (refine jG (aa 15 4063) 11 rfl (dX rfl rfl aS ?_) ?_;focus omega) | refine jN (aa 15 4063) 11 rfl ?_);(first | refine jN (aa 15 4095) 5 rfl ?_ | (refine jA 5 rfl ?_;(refine ae rfl rfl rfl cx_out rfl ?_);refine jS (aa 15 4095) ?_));(first | refine jN (aa 15 8191) 12 rfl ?_ | (refine jA 12 rfl ?_;(refine ae rfl rfl rfl cx_sta rfl ?_);refine jS (aa 15 8191) ?_));refine jT 1 [13] (aa 15 16383) ?_;(first | refine jG (aa 15 32767) 14 rfl (bL rfl rfl rfl) ?_ | refine jG (aa 15 32767) 14 rfl (bi rfl rfl rfl) ?_);refine jQ ?_))
   ·repeat' (first | refine jM ?_ | refine ad rfl rfl ?_)
    refine Nx.perm ((List.Perm.swap _ _ _).trans ((List.Perm.swap _ _ _).cons _)) ?_
    exact bj (gs,bs,a1,c1,a2,c2,i + 1,q1 + 1,G1) ⟨⟨⟨hbl,hfm,fun i hi=>(hreps i hi).mono hle⟩,hgl⟩,⟨by dsimp only;omega,by dsimp only;omega⟩,htt,by dsimp only;omega,by dsimp only;rw [hms];omega⟩ (by dsimp only;omega) tU rfl a8
   ·repeat' (first | refine jR ?_ | refine ac rfl (ay ‹_›) ?_)
    have hl' : (gs ++ [(ab fs i,w1)]).length = gs.length + 1:=by simp
    have hbl' : (bs ++ [b1]).length = (gs ++ [(ab fs i,w1)]).length:=by simp [hbl]
    have hnth : ∀ j,j < (gs ++ [(ab fs i,w1)]).length → (j < gs.length ∧ ab (gs ++ [(ab fs i,w1)]) j = ab gs j ∧ ab (bs ++ [b1]) j = ab bs j) ∨ (ab (gs ++ [(ab fs i,w1)]) j = (ab fs i,w1) ∧ ab (bs ++ [b1]) j = b1):=fun j hj=>by
     by_cases h1 : j < gs.length
     ·exact .inl ⟨h1,by rw [aA hj,aA h1,List.getElem_append_left h1],by rw [aA oM,aA oM,List.getElem_append_left oM]⟩
     ·have h2 : j = gs.length:=oM
      exact .inr ⟨by rw [aA hj];simp [h2],by rw [aA oM];simp [h2,hbl]⟩
    have hfm' : ∀ j,j < (gs ++ [(ab fs i,w1)]).length → (ab (gs ++ [(ab fs i,w1)]) j).1 ∈ fs:=fun j hj=>by
     rcases hnth j hj with ⟨h1,h2,_⟩ | ⟨h2,_⟩
     ·rw [h2];exact hfm j h1
     ·rw [h2];exact hdm
    have hreps' : ∀ j,j < (gs ++ [(ab fs i,w1)]).length → RepR G1 (ag vs) (ab (gs ++ [(ab fs i,w1)]) j).2 (ab (gs ++ [(ab fs i,w1)]) j).1.kind (ab (bs ++ [b1]) j):=fun j hj=>by
     rcases hnth j hj with ⟨h1,h2,h3⟩ | ⟨h2,h3⟩
     ·rw [h2,h3];exact (hreps j h1).mono hle
     ·rw [h2,h3];exact hrep
    have hrow1 : aj cB (gs.map fun p=>p.1.tag) ++ [I (ab fs i).tag] = aj cB ((gs ++ [(ab fs i,w1)]).map fun p=>p.1.tag):=by rw [List.map_append];exact (bO cB _ (ab fs i).tag).symm
    have hrow2 : aj dl bs ++ [Pt b1 0] = aj dl (bs ++ [b1]):=(bO dl bs b1).symm
    have hnd : V.tots (ii (gs ++ [(ab fs i,w1)])) = V.tots (ii gs) + (20 + w1.tot):=by simp [ii,dT,V.tots,br]
    have hmt : (ct + 20) * (gs.length + 1) = (ct + 20) * gs.length + (ct + 20):=Nat.mul_succ _ _
    (refine am (an (id:=19) [.blk y9 (.cells (List.toArray [U8 (82 : Nat),S nm,.slice (some ⟨bf,of,none⟩) fs.length ca]) oe (0,0))] (by intro y hy;simp only [List.mem_cons,List.not_mem_nil,or_false] at hy ⊢;simp [hy]) al ?_);refine jW 10 [0,1,2,3,5,7] (aa 16 175) ?_;(refine jG (aa 16 239) 6 rfl (aT rfl rfl rfl) ?_);((refine jG (aa 16 495) 8 rfl (ak rfl rfl ?_) ?_;focus omega));refine jW 7 [9] (aa 16 1007) ?_;((refine jG (aa 16 2031) 10 rfl (bT rfl rfl aS ?_ rfl rfl) ?_;focus omega));refine b8 [4,11] kR dC ⟨?_,?_,trivial⟩;(focus (refine aO rfl rfl ?_;(refine aD rfl ?_);refine jK (aa 16 2047) ?_;refine jA 11 rfl ?_;(refine jF fun _=>?_);refine jK (aa 16 4095) ?_;refine jA 12 rfl ?_;((refine bC rfl rfl rfl rfl rfl rfl rfl rfl rfl ?_ fun _ _=>?_;focus omega));refine jK (aa 16 8191) ?_;refine jW 1 [13,14] (aa 16 32767) ?_;refine jA 15 rfl ?_;(refine jD rfl rfl rfl ?_);refine jK (aa 16 65535) ?_;refine jQ ?_));rotate_left 1;(focus (refine aO rfl rfl ?_;(refine jF fun _=>?_);refine jK (aa 16 4079) ?_;refine jA 4 rfl ?_;(refine aD rfl ?_);refine jK (aa 16 4095) ?_;refine jA 12 rfl ?_;((refine bC rfl rfl rfl rfl rfl rfl rfl rfl rfl ?_ fun _ _=>?_;focus omega));refine jK (aa 16 8191) ?_;refine jW 1 [13,14] (aa 16 32767) ?_;refine jA 15 rfl ?_;(refine jD rfl rfl rfl ?_);refine jK (aa 16 65535) ?_;refine jQ ?_));rotate_left 1)
    all_goals repeat' (first | refine jM ?_ | (refine jo ?_;first | refine jD rfl rfl rfl ?_ | refine aD rfl ?_ | refine jF fun _=>?_ | refine bC rfl rfl rfl rfl rfl rfl rfl rfl rfl oM fun _ _=>?_))
    all_goals
     rename_i _ y1 yc1 _ y2 yc2
     rw [hrow1,hrow2]
     exact bj (gs ++ [(ab fs i,w1)],bs ++ [b1],some ⟨y1,0,none⟩,yc1,some ⟨y2,0,none⟩,yc2,i + 1,q1 + 1,G1) ⟨⟨⟨hbl',hfm',hreps'⟩,hgl⟩,⟨by dsimp only;rw [hl'];omega,by dsimp only;omega⟩,by dsimp only;rw [hl',hmt,hnd];omega,by dsimp only;omega,by dsimp only;rw [hms];omega⟩ (by dsimp only;omega) tU rfl (by rw [hl'];repeat (first | exact List.Sublist.refl _ | apply List.Sublist.cons_cons | apply List.Sublist.cons))
 ·repeat' (first | refine jR ?_ | (refine jo ?_;first | refine aD rfl ?_ | refine jV (af rfl) ?_ | refine aC rfl ?_) | refine ar rfl rfl (aG oM) ?_ | refine ad rfl rfl ?_)
  refine Nx.sealS (v:=.slice a2 gs.length c2) fun G2 hG2 hs1=>?_
  refine Nx.sealS (v:=.slice a1 gs.length c1) fun G3 hG3 hs2=>?_
  refine Nx.sealC (b:=y11) fun G4 hG4 hsg=>?_
  exact aW (vs:=[_]) rfl ⟨rfl,trivial⟩ rfl sB ⟨hgq.trans ((hG2.trans hG3).trans hG4),.nd 82 [] 0 (ii gs),y11,q,rfl,.recd kd y11 ⟨82,nm,fs⟩ gs bs a1 a2 c1 c2 ⟨href.symm,rfl⟩ hsg (hs2.mono hG4) (hs1.mono (hG3.trans hG4)) hbl hfm (fun i hi=>(hreps i hi).mono ((hG2.trans hG3).trans hG4)),by rw [br];simp only [List.length_nil];omega,by rw [V.out];simp [cO],rfl,oM,oM⟩
end
theorem oy {ts : List Ty} {k : List UInt8} (h : aB ts k = true) : ∃ c r,k = c :: r:=by
 cases k with
 | nil=>unfold aB bW eR at h;simp at h
 | cons c r=>exact ⟨c,r,rfl⟩
def nY : Nat → Int
 | 0=>105
 | d + 1=>8 * nY d + 40
def m8 : Nat → Nat
 | 0=>480
 | d + 1=>8 * m8 d + 400
theorem wi : ∀ d,d ≤ 4 → 0 ≤ nY d ∧ nY d ≤ 500000 ∧ m8 d ≤ 3000000 ∧ 105 ≤ nY d ∧ 480 ≤ m8 d:=by decide
theorem abX {u : Value} {vs : List co} (hw : SchW (ag vs)) (hu : u.oneCell' = true) : ∀ (n : Nat) {k : List UInt8} {deep : Int},n ≤ 9 → deep ≤ 0 → (n : Int) - 900 ≤ deep → aB (ag vs) k = true → (∀ t,aZ (ag vs) k = some t → cd (ag vs) n t = true) → fh u vs k deep (15 + 10 * n) (300 + 20 * n):=by
 have hvl : vs.length ≤ 8:=by have:=hw.len;unfold ag at this;simpa using this
 intro n
 induction n with
 | zero =>
  intro k deep _ hd hd2 hk he
  obtain ⟨c,r,rfl⟩:=oy hk
  have hkk:=db (dv hk)
  simp only [List.length_cons] at hkk
  by_cases h1 : c.toNat = 91
  ·obtain rfl:=bV h1 dC
   exact (qh (cp:=0) (ct:=0) oM oM (fun h=>absurd h oM) hu oM oM).le oM oM
  by_cases h2 : c.toNat = 63
  ·obtain rfl:=bV h2 dC
   exact (sH (cp:=0) (ct:=0) oM oM (fun h=>absurd h oM) hu oM oM).le oM oM
  have h91 : ¬ (c.toNat = 91 ∨ c.toNat = 63):=fun h=>by rcases h with h | h <;> omega
  cases hr : aZ (ag vs) (c :: r) with
  | some t=>have:=he t hr;simp [cd] at this
  | none =>
   rcases dS hk h91 hr with e1 | e1 | e1
   ·rw [e1];exact sI.le oM oM
   ·rw [e1];exact sG.le oM oM
   ·rw [e1];exact qi.le oM oM
 | succ n ih =>
  intro k deep hn hd hd2 hk he
  obtain ⟨c,r,rfl⟩:=oy hk
  have hkk:=db (dv hk)
  have hkk1:=hkk.1
  simp only [List.length_cons] at hkk
  by_cases h1 : c.toNat = 91
  ·obtain rfl:=bV h1 dC
   exact (qh (cp:=0) (ct:=0) oM oM (fun h=>absurd h oM) hu oM oM).le oM oM
  by_cases h2 : c.toNat = 63
  ·obtain rfl:=bV h2 dC
   exact (sH (cp:=0) (ct:=0) oM oM (fun h=>absurd h oM) hu oM oM).le oM oM
  have h91 : ¬ (c.toNat = 91 ∨ c.toNat = 63):=fun h=>by rcases h with h | h <;> omega
  cases hr : aZ (ag vs) (c :: r) with
  | none =>
   rcases dS hk h91 hr with e1 | e1 | e1
   ·rw [e1];exact sI.le oM oM
   ·rw [e1];exact sG.le oM oM
   ·rw [e1];exact qi.le oM oM
  | some t =>
   obtain ⟨r',e⟩:=df hr
   simp only [List.cons.injEq] at e
   obtain ⟨rfl,rfl⟩:=e
   have href:=eV vs (64 :: r)
   rw [hr] at href
   rcases hrv : eT vs (64 :: r) with _ | ⟨⟨a,ca⟩,⟨so,nm,fs⟩⟩
   ·rw [hrv] at href;cases href
   rw [hrv] at href
   obtain rfl:=(Option.some.inj href).symm
   dsimp only at hr he
   have hTW:=hw.ty _ (bn hr)
   have h8 : fs.length ≤ 8:=hTW.len
   refine sF ?_ oM
   rcases hTW.sort with h3 | h3 | h3 <;> dsimp only at h3 <;> subst h3
   ·exact fun G r code p l g1 g2 g3=>((zl hrv oM hkk1 (by simp only [List.length_cons];omega) h8 oM) G r code p l g1 g2 ⟨g3.1,oM⟩).mono fun _ _ _ ⟨h6,w,b,q,h7,h8,h9,h10,h11,h12,h13⟩=>⟨h6,w,b,q,h7,h8,oM,h10,h11,h12,oM⟩
   ·have h0 : 0 < fs.length:=List.length_pos_iff.2 (hTW.ne (by simp))
    refine fun G r code p l g1 g2 g3=>((v7 (cp:=15 + 10 * n) (ct:=300 + 20 * n) hrv oM hkk1 (by simp only [List.length_cons];omega) h0 h8 hw oM oM (fun d hdm hc=>?_) oM) G r code p l g1 g2 ⟨g3.1,oM⟩).mono fun _ _ _ ⟨h6,w,b,q,h7,h8,h9,h10,h11,h12,h13⟩=>⟨h6,w,b,q,h7,h8,oM,h10,h11,h12,oM⟩
    rcases hc with hc | rfl
    ·omega
    refine ih oM oM oM (dN hw (bn hr) (by simp) hdm) fun t' ht'=>?_
    have:=he _ hr
    rw [cd,if_neg (by simp),iX] at this
    dsimp only at this
    rw [ht'] at this
    exact this
   ·have h0 : 0 < fs.length:=List.length_pos_iff.2 (hTW.ne (by simp))
    exact fun G r code p l g1 g2 g3=>((v8 hrv oM hkk1 (by simp only [List.length_cons];omega) h0 h8 hw) G r code p l g1 g2 ⟨g3.1,oM⟩).mono fun _ _ _ ⟨h6,w,b,q,h7,h8,h9,h10,h11,h12,h13⟩=>⟨h6,w,b,q,h7,h8,oM,h10,h11,h12,oM⟩
theorem sJ {u : Value} {vs : List co} (hw : SchW (ag vs)) (hu : u.oneCell' = true) : ∀ (m : Nat) {k : List UInt8} {deep : Int},m ≤ 4 → deep ≤ m → -800 ≤ deep → aB (ag vs) k = true → fh u vs k deep (nY m) (m8 m):=by
 have hvl : vs.length ≤ 8:=by have:=hw.len;unfold ag at this;simpa using this
 have hz : ∀ {k : List UInt8} {deep : Int},deep ≤ 0 → -800 ≤ deep → aB (ag vs) k = true → fh u vs k deep 105 480:=fun {k deep} h1 h2 h3=>(abX hw hu ((ag vs).length + 1) (by have:=hw.len;omega) h1 (by have:=hw.len;omega) h3 (fun t ht=>qf hw t ht)).le (by have:=hw.len;omega) (by have:=hw.len;omega)
 intro m
 induction m with
 | zero=>intro k deep _ hd hd2 hk;exact hz hd hd2 hk
 | succ m ih =>
  intro k deep hm hd hd2 hk
  have hcm:=wi m oM
  have e1 : nY (m + 1) = 8 * nY m + 40:=rfl
  have e2 : m8 (m + 1) = 8 * m8 m + 400:=rfl
  by_cases hd0 : deep ≤ 0
  ·exact (hz hd0 hd2 hk).le oM oM
  have hD : ∀ {k : List UInt8},aB (ag vs) k = true → fh u vs k (deep - 1) (nY m) (m8 m):=fun {k} hk=>ih oM oM oM hk
  obtain ⟨c,r,rfl⟩:=oy hk
  have hkk:=db (dv hk)
  have hkk1:=hkk.1
  simp only [List.length_cons] at hkk
  by_cases h1 : c.toNat = 91
  ·obtain rfl:=bV h1 dC
   exact (qh oM oM (fun _=>hD (fp (.inl rfl) hk)) hu oM oM).le oM oM
  by_cases h2 : c.toNat = 63
  ·obtain rfl:=bV h2 dC
   exact (sH oM oM (fun _=>hD (fp (.inr rfl) hk)) hu oM oM).le oM oM
  have h91 : ¬ (c.toNat = 91 ∨ c.toNat = 63):=fun h=>by rcases h with h | h <;> omega
  cases hr : aZ (ag vs) (c :: r) with
  | none =>
   rcases dS hk h91 hr with e1 | e1 | e1
   ·rw [e1];exact sI.le oM oM
   ·rw [e1];exact sG.le oM oM
   ·rw [e1];exact qi.le oM oM
  | some t =>
   obtain ⟨r',e⟩:=df hr
   simp only [List.cons.injEq] at e
   obtain ⟨rfl,rfl⟩:=e
   have href:=eV vs (64 :: r)
   rw [hr] at href
   rcases hrv : eT vs (64 :: r) with _ | ⟨⟨a,ca⟩,⟨so,nm,fs⟩⟩
   ·rw [hrv] at href;cases href
   rw [hrv] at href
   obtain rfl:=(Option.some.inj href).symm
   dsimp only at hr
   have hTW:=hw.ty _ (bn hr)
   have h8 : fs.length ≤ 8:=hTW.len
   refine sF ?_ oM
   rcases hTW.sort with h3 | h3 | h3 <;> dsimp only at h3 <;> subst h3
   ·exact fun G r code p l g1 g2 g3=>((aaZ hrv oM hkk1 (by simp only [List.length_cons];omega) h8 hw oM oM (fun d hdm=>hD (dN hw (bn hr) (by simp) hdm)) oM) G r code p l g1 g2 ⟨g3.1,oM⟩).mono fun _ _ _ ⟨h6,w,b,q,h7,h8,h9,h10,h11,h12,h13⟩=>⟨h6,w,b,q,h7,h8,oM,h10,h11,h12,oM⟩
   ·have h0 : 0 < fs.length:=List.length_pos_iff.2 (hTW.ne (by simp))
    exact fun G r code p l g1 g2 g3=>((v7 hrv oM hkk1 (by simp only [List.length_cons];omega) h0 h8 hw oM oM (fun d hdm _=>hD (dN hw (bn hr) (by simp) hdm)) oM) G r code p l g1 g2 ⟨g3.1,oM⟩).mono fun _ _ _ ⟨h6,w,b,q,h7,h8,h9,h10,h11,h12,h13⟩=>⟨h6,w,b,q,h7,h8,oM,h10,h11,h12,oM⟩
   ·have h0 : 0 < fs.length:=List.length_pos_iff.2 (hTW.ne (by simp))
    exact fun G r code p l g1 g2 g3=>((v8 hrv oM hkk1 (by simp only [List.length_cons];omega) h0 h8 hw) G r code p l g1 g2 ⟨g3.1,oM⟩).mono fun _ _ _ ⟨h6,w,b,q,h7,h8,h9,h10,h11,h12,h13⟩=>⟨h6,w,b,q,h7,h8,oM,h10,h11,h12,oM⟩
theorem tL {r : Nat} {code : Value} {p : Int} {l : List UInt8} (hp : 0 ≤ p ∧ p ≤ 600000000000) (hs : aP G code 1 l.length (ck l)) :
  dA Tryz.prog 42 [Pt r 0] G [ee r code p dk] (fun v L'=>∃ x q,v = S x ∧ x.length ≤ 20000 ∧ L' = [ee r code q dk] ∧ p ≤ q ∧ q ≤ p + 700):=by
 refine jH [(0,_)] Tryz.func42 Tryz.ntmps42 fun B hB hW=>?_
 repeat' (first | refine jX ?_ | (refine jo ?_;first | refine jF fun _=>?_ | refine jV (aM rfl rfl oM) ?_ | (refine eN 64 rfl rfl rfl ?_ rfl (fun xs hxs=>?_);(focus ((simp only [List.length_append,List.length_cons,List.length_nil,List.length_take];omega);done))) | refine aN rfl ?_ | refine aC rfl ?_ | (refine aI rfl rfl rfl (wx ?_ (by (repeat (assumption));done) ?_ ?_) rfl ?_;(focus omega);(focus ((first | assumption | (simp;done));done));(focus ((simp;done);done));rintro _ _ ⟨ty,q1,rfl,hty,hty1,rfl,hq1,hq2⟩;dsimp only [zA,fA]) | (refine aI rfl rfl rfl (cT ?_ (by (repeat (assumption));done)) rfl ?_;(focus ((first | omega | (simp;omega));done));rintro _ _ ⟨k,rfl,rfl,hk0,hk1⟩;dsimp only [zA,fA]) | (refine ae rfl rfl rfl (tM ?_) rfl ?_;(focus ((simp;omega);done)))) | refine mW rfl rfl (fun _=>?_) (fun _=>?_) | refine ad rfl rfl ?_ | refine er rfl (fun _=>?_) (fun _=>?_))
 all_goals (first | exact aW (vs:=[_]) rfl ⟨rfl,trivial⟩ rfl sB ⟨rfl,_,_,rfl,by (simp only [List.length_append,List.length_cons,List.length_nil,List.length_take,List.length_drop];omega),rfl,oM,oM⟩ | skip)
 all_goals simp only [List.length_append,List.length_cons,List.length_nil] at hk1
 all_goals (refine am (an (id:=6) [] (fun _ h=>absurd h (by simp)) al ?_);refine jW 7 [0,1,2,4,9,10,11,12] (aa 15 7703) ?_;refine b8 [3,5] kR dC ⟨?_,?_,trivial⟩;(focus (refine aO rfl rfl ?_;(refine jF fun _=>?_);refine jK (aa 15 7711) ?_;refine jA 5 rfl ?_;((refine aI rfl rfl rfl (cT ?_ (by (repeat (assumption));done)) rfl ?_;(focus omega);rintro _ _ ⟨k,rfl,rfl,hk0,hk1⟩;dsimp only [zA,fA]));refine jK (aa 15 7743) ?_;((refine jG (aa 15 7807) 6 rfl (aM rfl rfl ?_) ?_;focus omega));refine jA 7 rfl ?_;((refine eN 64 rfl rfl rfl ?_ rfl (fun xs hxs=>?_);(focus ((simp only [List.length_append,List.length_cons,List.length_nil,List.length_take];omega);done))));refine jK (aa 15 7935) ?_;refine jW 0 [8,13,14] (aa 15 32767) ?_;refine jQ ?_));rotate_left 1;(focus (refine aO rfl rfl ?_;((refine aI rfl rfl rfl (cT ?_ (by (repeat (assumption));done)) rfl ?_;(focus omega);rintro _ _ ⟨k,rfl,rfl,hk0,hk1⟩;dsimp only [zA,fA]));refine jK (aa 15 7735) ?_;refine jA 3 rfl ?_;(refine jF fun _=>?_);refine jK (aa 15 7743) ?_;((refine jG (aa 15 7807) 6 rfl (aM rfl rfl ?_) ?_;focus omega));refine jA 7 rfl ?_;((refine eN 64 rfl rfl rfl ?_ rfl (fun xs hxs=>?_);(focus ((simp only [List.length_append,List.length_cons,List.length_nil,List.length_take];omega);done))));refine jK (aa 15 7935) ?_;refine jW 0 [8,13,14] (aa 15 32767) ?_;refine jQ ?_));rotate_left 1)
 all_goals repeat' (refine jR ?_)
 all_goals exact aW (vs:=[_]) rfl ⟨rfl,trivial⟩ rfl sB ⟨rfl,_,_,rfl,by (simp only [List.length_append,List.length_cons,List.length_nil,List.length_take,List.length_drop];omega),rfl,oM,oM⟩
theorem wz {r : Nat} {code : Value} {p : Int} {l s : List UInt8} (hp : 0 ≤ p ∧ p ≤ 600000000000) (hs : aP G code 1 l.length (ck l)) (hsl : s.length ≤ 10000000) :
  dA Tryz.prog 43 [Pt r 0,S s] G [ee r code p dk] (fun v L'=>∃ x q,v = S x ∧ x.length ≤ 400 ∧ L' = [ee r code q dk] ∧ p ≤ q ∧ q ≤ p + 20):=by
 have cx_lkg : ∀ {k : List UInt8} (G : Gh),k.length ≤ 1000 → bB Tryz.prog 60 [S s,S k] G (fun v _=>∃ u b,v = Tu [u,Bo b]):=fun {k} G h=>(gX (G:=G) (s:=s) (k:=k) oM oM).mono fun v G' L' ⟨h1,h2,u,vs,h3,_⟩=>⟨h1,h2,u,_,h3⟩
 refine jB (Post:=fun v G' L'=>G' = G ∧ _) [(0,_),(1,_)] Tryz.func43 Tryz.ntmps43 fun B hok hB hW=>?_
 repeat' (first | refine jR ?_ | (refine jo ?_;first | refine jF fun _=>?_ | refine jV (aM rfl rfl oM) ?_ | (refine eN 64 rfl rfl rfl ?_ rfl (fun xs hxs=>?_);(focus ((simp only [List.length_append,List.length_cons,List.length_nil,List.length_take];omega);done))) | (refine aI rfl rfl rfl (cT ?_ (by (repeat (assumption));done)) rfl ?_;(focus omega);rintro _ _ ⟨k,rfl,rfl,hk0,hk1⟩;dsimp only [zA,fA]) | (refine aI rfl rfl rfl (rj ?_ (by (repeat (assumption));done)) rfl ?_;(focus omega);rintro _ _ ⟨kd,q1,rfl,hkd,rfl,hq1,hq2⟩;dsimp only [zA,fA]) | (refine aq rfl rfl rfl ((cx_lkg _) oM) rfl ?_;rintro _ G hle ⟨u1,b1,rfl⟩;skip)) | refine er rfl (fun _=>?_) (fun _=>?_) | refine ss rfl (fun _=>?_) (fun _=>?_))
 all_goals refine Nx.base hok hB ?_
 all_goals exact aW (vs:=[_]) rfl ⟨rfl,trivial⟩ rfl sB ⟨rfl,_,_,rfl,by (first | omega | (simp only [List.length_append,List.length_cons,List.length_nil,List.length_take,List.length_drop];omega)),rfl,oM,oM⟩
theorem zJ {r : Nat} {code : Value} {p : Int} {l s k : List UInt8} (hp : 0 ≤ p ∧ p ≤ 500000000000) (hs : aP G code 1 l.length (ck l)) (hsl : s.length ≤ 10000000) (hkl : k.length ≤ 1000) :
  dA Tryz.prog 44 [Pt r 0,S s,S k] G [ee r code p dk] (fun v L'=>∃ x q,v = S x ∧ x.length ≤ 20000 ∧ L' = [ee r code q dk] ∧ p ≤ q ∧ q ≤ p + 3000000):=by
 by_cases hk : dh s k = true
 case neg =>
  have hk2 : dh s k = false:=by simpa using hk
  have cx_lk1 : ∀ G,bB Tryz.prog 60 [S s,S k] G (fun v _=>∃ u,v = Tu [u,Bo false]):=fun G=>by
   refine (gX (G:=G) (s:=s) (k:=k) oM oM).mono ?_
   rintro v G' L' ⟨h1,h2,u,vs,rfl,_⟩
   exact ⟨h1,h2,u,by rw [hk2]⟩
  refine jB (Post:=fun v G' L'=>G' = G ∧ _) [(0,_),(1,_),(2,_)] Tryz.func44 Tryz.ntmps44 fun B hok hB hW=>?_
  repeat' (first | refine jR ?_ | (refine jo ?_;(refine aq rfl rfl rfl (cx_lk1 _) rfl ?_;rintro _ G hle ⟨u1,rfl⟩;skip)) | refine ac rfl rfl ?_)
  all_goals refine Nx.base hok hB ?_
  all_goals exact aW (vs:=[_]) rfl ⟨rfl,trivial⟩ rfl a8 ⟨rfl,_,_,rfl,by (simp only [List.length_append,List.length_cons,List.length_nil,List.length_take,List.length_drop];omega),rfl,oM,oM⟩
 obtain ⟨ts,hsc,hki,hw⟩:=kW hk
 have cx_lka : ∀ G,bB Tryz.prog 60 [S s,S k] G (fun v G'=>∃ a c vs,v = Tu [.slice a vs.length c,Bo true] ∧ SchR G' (.slice a vs.length c) vs ∧ ag vs = ts):=fun G=>by
  refine (gX (G:=G) (s:=s) (k:=k) oM oM).mono ?_
  rintro v G' L' ⟨h1,h2,u,vs,rfl,h4,_,h6⟩
  obtain ⟨_,⟨rfl,h0⟩ | ⟨b,o,cap,rfl,_,_⟩⟩:=h4.sl
  ·exact ⟨h1,h2,none,0,vs,by rw [hk,h0],by rw [h0];exact h4,h6 ts hsc hki⟩
  ·exact ⟨h1,h2,_,cap,vs,by rw [hk],h4,h6 ts hsc hki⟩
 refine jB (Post:=fun v G' L'=>G' = G ∧ _) [(0,_),(1,_),(2,_)] Tryz.func44 Tryz.ntmps44 fun B hok hB hW=>?_
 repeat' (first | refine jR ?_ | (refine jo ?_;(refine aq rfl rfl rfl (cx_lka _) rfl ?_;rintro _ G hle ⟨av1,cv1,vs1,rfl,hR1,hT1⟩;skip)) | refine ad rfl rfl ?_)
 subst hT1
 have hg0:=hle
 have hu1:=hR1.sl.one
 have cx_dv:=fun {p : Int} (hp : 0 ≤ p ∧ p + nY 4 ≤ 600000000000)=>sJ hw hu1 4 (k:=k) (deep:=4) oM oM oM hki G r code p l hR1 (hs.mono hle) hp
 have hc4 : nY 4 = 453480:=by decide
 have ht4 : m8 4 = 2200080:=by decide
 rw [hc4,ht4] at cx_dv
 repeat' ((refine jo ?_;(refine eo rfl rfl rfl (cx_dv oM) rfl ?_;rintro _ G1 _ hle ⟨w1,b1,q1,rfl,hrep,htot,hone,rfl,hq1,hq2⟩;dsimp only [zA,fA];skip)))
 have hg1:=hle
 have hob:=lK hw hrep
 unfold iv at hob
 have cx_out:=fR hw hrep oM
 repeat' (first | refine jR ?_ | (refine jo ?_;refine ae rfl rfl rfl cx_out rfl ?_))
 refine aV (ι:=List UInt8 × Int × Int × Gh) (fun j=>Gh.le G1 j.2.2.2 ∧ (0 ≤ j.2.1 ∧ j.2.1 ≤ 3) ∧ (1 ≤ j.1.length ∧ j.1.length ≤ 2 * m8 (j.2.1.toNat + 1)) ∧ p ≤ j.2.2.1 ∧ j.2.2.1 ≤ p + 500000 * (4 - j.2.1)) (fun j=>[(0,Pt r 0),(2,S k),(7,.slice av1 vs1.length cv1),(9,S j.1),(10,I j.2.1)]) (fun j=>j.2.2.2) (fun j=>[ee r code j.2.2.1 dk]) (fun j=>j.2.1.toNat) (w1.out,3,q1,G1) ?_ tU rfl a8 (fun j Hj=>?_)
 ·refine ⟨Gh.le.refl _,by dsimp only;omega,⟨hone,?_⟩,by dsimp only;omega,by dsimp only;omega⟩
  show w1.out.length ≤ 2 * m8 4
  omega
 obtain ⟨t,d,q,Gq⟩:=j
 dsimp only at Hj ⊢
 obtain ⟨hgq,hd,⟨ht1,ht2⟩,hq3,hq4⟩:=Hj
 have hs2:=hs.mono ((hg0.trans hg1).trans hgq)
 clear cx_dv cx_out hrep
 by_cases hgo : 150 < t.length ∧ 0 < d
 ·obtain ⟨hgo1,hgo2⟩:=hgo
  have hcm:=wi d.toNat oM
  have cx_dv:=fun {p : Int} (hp : 0 ≤ p ∧ p + 500000 ≤ 600000000000)=>((sJ hw hu1 d.toNat (k:=k) (deep:=d) oM oM oM hki).le hcm.2.1 (Nat.le_refl _)) Gq r code p l (hR1.mono (hg1.trans hgq)) hs2 hp
  repeat' (first | refine jR ?_ | (refine jo ?_;first | refine aN rfl ?_ | (refine eo rfl rfl rfl (cx_dv oM) rfl ?_;rintro _ G1 _ hle ⟨w1,b1,q1,rfl,hrep,htot,hone,rfl,hq1,hq2⟩;dsimp only [zA,fA];skip)) | refine aH rfl rfl (ay oM) ?_ | refine ac rfl (ay ‹_›) ?_)
  have hob:=lK hw hrep
  unfold iv at hob
  have cx_out:=fR hw hrep oM
  have e : (d - 1).toNat + 1 = d.toNat:=oM
  repeat' (first | refine jM ?_ | (refine jo ?_;refine ae rfl rfl rfl cx_out rfl ?_))
  exact bj (w1.out,d - 1,q1,G1) ⟨hgq.trans hle,by dsimp only;omega,⟨hone,by dsimp only;rw [e];omega⟩,by dsimp only;omega,by dsimp only;omega⟩ (by dsimp only;omega) tU rfl a8
 ·have hx : t.length ≤ 150 ∨ d ≤ 0:=oM
  have hl : t.length ≤ 8480:=by
   rcases hx with hx | hx
   ·omega
   ·have e : d = 0:=oM
    subst e
    have : m8 (Int.toNat 0 + 1) = 4240:=by decide
    omega
  repeat' (first | refine jR ?_ | (refine jo ?_;first | refine aN rfl ?_ | refine aC rfl ?_ | (refine aI rfl rfl rfl (cT ?_ (by (repeat (assumption));done)) rfl ?_;(focus omega);rintro _ _ ⟨k,rfl,rfl,hk0,hk1⟩;dsimp only [zA,fA])) | refine eQ rfl rfl (fun _=>?_) (fun _=>?_) | (refine ad rfl (by first | rfl | (refine decide_eq_false ?_;(omega))) ?_) | refine er rfl (fun _=>?_) (fun _=>?_))
  all_goals refine Nx.base hok hB ?_
  all_goals (first | exact aW (vs:=[_]) rfl ⟨rfl,trivial⟩ rfl a8 ⟨rfl,_,_,rfl,by (omega),rfl,oM,oM⟩ | skip)
  all_goals (refine am (an (id:=11) [] (fun _ h=>absurd h (by simp)) al ?_);refine jW 7 [0,1,2,4,9,10,11,12] (aa 15 7703) ?_;refine b8 [3,5] kR dC ⟨?_,?_,trivial⟩;(focus (refine aO rfl rfl ?_;(refine jF fun _=>?_);refine jK (aa 15 7711) ?_;refine jA 5 rfl ?_;((refine aI rfl rfl rfl (cT ?_ (by (repeat (assumption));done)) rfl ?_;(focus omega);rintro _ _ ⟨k,rfl,rfl,hk0,hk1⟩;dsimp only [zA,fA]));refine jK (aa 15 7743) ?_;((refine jG (aa 15 7807) 6 rfl (aM rfl rfl ?_) ?_;focus omega));refine jA 7 rfl ?_;((refine eN 64 rfl rfl rfl ?_ rfl (fun xs hxs=>?_);(focus ((simp only [List.length_append,List.length_cons,List.length_nil,List.length_take];omega);done))));refine jK (aa 15 7935) ?_;refine jW 0 [8,13,14] (aa 15 32767) ?_;refine jQ ?_));rotate_left 1;(focus (refine aO rfl rfl ?_;((refine aI rfl rfl rfl (cT ?_ (by (repeat (assumption));done)) rfl ?_;(focus omega);rintro _ _ ⟨k,rfl,rfl,hk0,hk1⟩;dsimp only [zA,fA]));refine jK (aa 15 7735) ?_;refine jA 3 rfl ?_;(refine jF fun _=>?_);refine jK (aa 15 7743) ?_;((refine jG (aa 15 7807) 6 rfl (aM rfl rfl ?_) ?_;focus omega));refine jA 7 rfl ?_;((refine eN 64 rfl rfl rfl ?_ rfl (fun xs hxs=>?_);(focus ((simp only [List.length_append,List.length_cons,List.length_nil,List.length_take];omega);done))));refine jK (aa 15 7935) ?_;refine jW 0 [8,13,14] (aa 15 32767) ?_;refine jQ ?_));rotate_left 1)
  all_goals repeat' (refine jR ?_)
  all_goals exact aW (vs:=[_]) rfl ⟨rfl,trivial⟩ rfl sB ⟨rfl,_,_,rfl,by (simp only [List.length_append,List.length_cons,List.length_nil,List.length_take,List.length_drop];omega),rfl,oM,oM⟩
abbrev mt : TypeId:=9
def LvC (G : Gh) (b : Nat) (v : V) : Prop:=∀ (q : List Int) (a : Option Addr) (m cap : Nat) (out : List (List UInt8)),m = out.length → m + v.tot ≤ 100000 → (∀ n ∈ q,0 ≤ n ∧ n ≤ 999999) → q.length + v.tot ≤ 100000 →
 dA Tryz.prog 114 [Pt b 0,S (aR q),.slice a m cap] G [.acc (.slice a m cap) mt 1 m (aj cm out)]
  (fun r L'=>∃ a' cap',r = .slice a' (m + v.size) cap' ∧ L' = [.acc (.slice a' (m + v.size) cap') mt 1 (m + v.size) (aj cm (out ++ f7 q v))])
theorem ww {ts : List Ty} (hw : SchW ts) {v : V} {k : List UInt8} {b : Nat} (h : RepR G ts v k b) : LvC G b v:=by
 induction h with
 | leaf w x k tx b h1 h2 =>
  intro q a m cap out hm hto hqn hql
  have hn82 : ¬ tx = [82]:=by
   rcases h2 with ⟨_,_,rfl,h⟩ | ⟨_,_,rfl⟩ | ⟨_,_,rfl,h⟩
   ·rintro rfl;exact absurd (h 82 (by simp)) dC
   ·simp
   ·rcases h with rfl | rfl <;> decide
  have hrow : aj cm out ++ [S (aR q)] = aj cm (out ++ [aR q]):=(bO cm out (aR q)).symm
  have key : dA Tryz.prog 114 [Pt b 0,S (aR q),.slice a m cap] G [.acc (.slice a m cap) mt 1 m (aj cm out)]
    (fun r L'=>∃ a' cap',r = .slice a' (m + 1) cap' ∧ L' = [.acc (.slice a' (m + 1) cap') mt 1 (m + 1) (aj cm (out ++ [aR q]))]):=by
   rcases h2 with ⟨rfl,rfl,_⟩ | ⟨rfl,rfl,_⟩ | ⟨rfl,rfl,_⟩
   all_goals
    refine jH [(0,_),(1,_),(2,_)] Tryz.func114 Tryz.ntmps114 fun B hB hW=>?_
    repeat' (first | refine jX ?_ | (refine jo ?_;first | refine jV (ah rfl rfl aS rfl rfl) ?_ | refine jV (af rfl) ?_ | refine aC rfl ?_ | refine jF fun _=>?_ | refine bC rfl rfl rfl rfl rfl rfl rfl rfl rfl oM fun _ _=>?_) | (refine ar rfl rfl (by first | rfl | (refine decide_eq_false ?_;(assumption))) ?_) | refine ac rfl rfl ?_ | refine ad rfl rfl ?_)
    rw [hrow]
    refine aW (vs:=[_]) rfl ⟨rfl,trivial⟩ rfl sB ⟨rfl,_,_,rfl,rfl⟩
  have hwl : cP w true = true:=by rcases h2 with ⟨rfl,_⟩ | ⟨rfl,_⟩ | ⟨rfl,_⟩ <;> rfl
  have hsz : V.size (.nd w x 0 []) = 1:=mE hwl
  rw [hsz,ox hwl]
  exact key
 | lst k b ks bs a' c h1 h2 h3 hk ih =>
  intro q a m cap out hm hto hqn hql
  rw [br] at hto hql
  have hsz : V.size (.nd 91 [] 0 ks) = V.sizes ks:=by rw [V.size,if_neg (by unfold cP;simp)]
  have hst:=eY ks
  have hkl:=c7 ks
  rw [hsz,pr (si) dC]
  have hk0 : bt (91 :: k) (Int.toNat 0) = 91:=bh 91 k
  have hkl2 : (91 :: k).length = k.length + 1:=rfl
  by_cases hne : ks.length = 0
  ·obtain rfl : ks = []:=List.length_eq_zero_iff.1 hne
   rw [jt,List.append_nil]
   refine jH [(0,_),(1,_),(2,_)] Tryz.func114 Tryz.ntmps114 fun B hB hW=>?_
   repeat' (first | refine jM ?_ | (refine jo ?_;first | refine jV (ah rfl rfl aS rfl rfl) ?_ | refine jV (af rfl) ?_ | refine aN rfl ?_) | refine aH rfl rfl rfl ?_ | refine ac rfl rfl ?_)
   refine aW (vs:=[_]) rfl ⟨rfl,trivial⟩ rfl a8 ⟨rfl,_,_,rfl,rfl⟩
  obtain ⟨kb,ko,kc,e,hs⟩:=h2.expl oM
  simp only [Value.slice.injEq] at e
  obtain ⟨rfl,-,rfl⟩:=e
  refine jH [(0,_),(1,_),(2,_)] Tryz.func114 Tryz.ntmps114 fun B hB hW=>?_
  repeat' (first | refine jR ?_ | (refine jo ?_;first | refine jV (ah rfl rfl aS rfl rfl) ?_ | refine jV (af rfl) ?_) | refine ad rfl (aG oM) ?_)
  rw [show aj cm out = aj cm (out ++ eZ q (ks.take 0) 91 0) by rw [List.take_zero,jt,List.append_nil]]
  refine aV (ι:=Nat × Option Addr × Nat) (fun i=>i.1 ≤ ks.length) (fun i=>[(0,Pt b 0),(1,S (aR q)),(2,.slice i.2.1 (m + V.sizes (ks.take i.1)) i.2.2),(7,I i.1)]) (fun _=>G) (fun i=>[.acc (.slice i.2.1 (m + V.sizes (ks.take i.1)) i.2.2) mt 1 (m + V.sizes (ks.take i.1)) (aj cm (out ++ eZ q (ks.take i.1) 91 0))]) (fun i=>ks.length - i.1) (0,a,cap) ?_ tU rfl a8 (fun i Hi=>?_)
  ·exact Nat.zero_le _
  obtain ⟨i,a,cap⟩:=i
  dsimp only at Hi ⊢
  by_cases hi : i < ks.length
  ·have hti:=gu (ks:=ks) hi
   have hsn : m + V.sizes (ks.take (i + 1)) = m + V.sizes (ks.take i) + (ab ks i).size:=by rw [cD oM,gF,Nat.add_assoc]
   have hls : out ++ eZ q (ks.take (i + 1)) 91 0 = out ++ eZ q (ks.take i) 91 0 ++ f7 (q ++ [(i : Int)]) (ab ks i):=by rw [cD oM,lM,show eA 91 0 (ks.take i).length (ab ks i) = (i : Int) by rw [List.length_take,Nat.min_eq_left oM];rfl,List.append_assoc]
   have hlen : m + V.sizes (ks.take i) = (out ++ eZ q (ks.take i) 91 0).length:=by rw [List.length_append,ny,hm]
   have hs1:=eY (ks.take i)
   have htk:=eW ks i
   have htk1:=eW ks (i + 1)
   rw [cD (by (omega)),dT] at htk1
   simp only [V.tots] at htk1
   have hxi : ab bs i = ab bs i:=rfl
   have hpl:=dz hqn
   have hq2 : ∀ n ∈ q ++ [(i : Int)],0 ≤ n ∧ n ≤ 999999:=kZ hqn ⟨oM,oM⟩
   have hdl:=gI (hq2 (i : Int) (by simp)).2
   have cx_lv:=ih i hi (q ++ [(i : Int)]) a (m + V.sizes (ks.take i)) cap _ hlen oM hq2 (by simp only [List.length_append,List.length_singleton];omega)
   by_cases hq : q = []
   ·have hp : aR q = []:=fN.2 hq
    rw [show aR (q ++ [(i : Int)]) = bE (i : Int) by rw [hq];rfl] at cx_lv
    clear hq
    repeat' (first | refine jM ?_ | (refine jo ?_;first | refine jV (ah rfl rfl aS rfl rfl) ?_ | (refine jV (bU rfl rfl aS ?_ aS rfl) ?_;focus omega) | refine jV (af rfl) ?_ | refine jV (ak rfl rfl oM) ?_ | refine ae rfl rfl rfl (dn oM) rfl ?_ | (refine fF rfl rfl rfl cx_lv rfl ?_;rintro _ _ ⟨av,cv,rfl,rfl⟩;dsimp only [zA,fA])) | refine ac rfl (ay oM) ?_ | (refine ad rfl ?_ ?_;(focus ((first | rfl | (simp [*];done));done))))
    exact bj (i + 1,av,cv) (by dsimp only;omega) (by dsimp only;omega) (by dsimp only;rw [hsn];repeat (first | exact trivial | refine ⟨rfl,?_⟩)) rfl (by dsimp only;rw [hsn,hls];repeat (exact List.Sublist.refl _))
   ·have hp : aR q ≠ []:=fun h=>hq (fN.1 h)
    rw [← iW hq] at cx_lv
    clear hq
    repeat' (first | refine jX ?_ | (refine jo ?_;first | refine jV (ah rfl rfl aS rfl rfl) ?_ | (refine jV (bU rfl rfl aS ?_ aS rfl) ?_;focus omega) | refine jV (af rfl) ?_ | refine jV (ak rfl rfl oM) ?_ | refine ae rfl rfl rfl (dn oM) rfl ?_ | (refine fF rfl rfl rfl cx_lv rfl ?_;rintro _ _ ⟨av,cv,rfl,rfl⟩;dsimp only [zA,fA])) | (refine ac rfl (by refine decide_eq_true ?_;first | assumption | omega) ?_) | refine ad rfl rfl ?_)
    exact bj (i + 1,av,cv) (by dsimp only;omega) (by dsimp only;omega) (by dsimp only;rw [hsn];repeat (first | exact trivial | refine ⟨rfl,?_⟩)) rfl (by dsimp only;rw [hsn,hls];repeat (exact List.Sublist.refl _))
  ·obtain rfl : i = ks.length:=oM
   rw [show ks.take (ks.length) = ks from List.take_of_length_le oM]
   repeat' (first | refine jR ?_ | (refine jo ?_;first | refine jV (ah rfl rfl aS rfl rfl) ?_ | refine jV (af rfl) ?_) | refine ad rfl (aG oM) ?_)
   refine aW (vs:=[_]) rfl ⟨rfl,trivial⟩ rfl a8 ⟨rfl,_,_,rfl,rfl⟩
 | non k b h1 =>
  intro q a m cap out hm hto hqn hql
  have hk0 : bt (63 :: k) (Int.toNat 0) = 63:=bh 63 k
  have hkl2 : (63 :: k).length = k.length + 1:=rfl
  have hrow : aj cm out ++ [S (aR q)] = aj cm (out ++ [aR q]):=(bO cm out (aR q)).symm
  have hsz : V.size (.nd 63 [] 0 []) = 1:=mE rfl
  rw [br] at hto hql
  rw [hsz,ox rfl]
  refine jH [(0,_),(1,_),(2,_)] Tryz.func114 Tryz.ntmps114 fun B hB hW=>?_
  repeat' (first | refine jM ?_ | (refine jo ?_;first | refine jV (ah rfl rfl aS rfl rfl) ?_ | refine jV (af rfl) ?_ | refine aC rfl ?_ | refine jF fun _=>?_ | refine bC rfl rfl rfl rfl rfl rfl rfl rfl rfl oM fun _ _=>?_) | refine ar rfl rfl rfl ?_ | refine ac rfl rfl ?_ | refine ad rfl rfl ?_)
  rw [hrow]
  refine aW (vs:=[_]) rfl ⟨rfl,trivial⟩ rfl sB ⟨rfl,_,_,rfl,rfl⟩
 | opt k b kb b' cc v h0 h1 h2 h3 ih =>
  intro q a m cap out hm hto hqn hql
  simp only [br,V.tots] at hto hql
  have hk0 : bt (63 :: k) (Int.toNat 0) = 63:=bh 63 k
  have hkl2 : (63 :: k).length = k.length + 1:=rfl
  have hsz : V.size (.nd 63 [] 0 [v]) = V.sizes [v]:=by rw [V.size,if_neg (by unfold cP;simp)]
  rw [hsz,pr (by simp [cP]) dC]
  refine jH [(0,_),(1,_),(2,_)] Tryz.func114 Tryz.ntmps114 fun B hB hW=>?_
  repeat' (first | refine jR ?_ | (refine jo ?_;first | refine jV (ah rfl rfl aS rfl rfl) ?_ | refine jV (af rfl) ?_) | refine ad rfl rfl ?_)
  rw [show aj cm out = aj cm (out ++ eZ q ([v].take 0) 63 0) by rw [List.take_zero,jt,List.append_nil]]
  refine aV (ι:=Nat × Option Addr × Nat) (fun i=>i.1 ≤ 1) (fun i=>[(0,Pt b 0),(1,S (aR q)),(2,.slice i.2.1 (m + V.sizes ([v].take i.1)) i.2.2),(7,I i.1)]) (fun _=>G) (fun i=>[.acc (.slice i.2.1 (m + V.sizes ([v].take i.1)) i.2.2) mt 1 (m + V.sizes ([v].take i.1)) (aj cm (out ++ eZ q ([v].take i.1) 63 0))]) (fun i=>1 - i.1) (0,a,cap) ?_ tU rfl a8 (fun i Hi=>?_)
  ·exact Nat.zero_le _
  obtain ⟨i,a,cap⟩:=i
  dsimp only at Hi ⊢
  by_cases hi : i < 1
  ·obtain rfl : i = 0:=oM
   have hsn : m + V.sizes ([v].take (0 + 1)) = m + V.sizes ([v].take 0) + (v).size:=by rw [cD oM,gF,show ab [v] 0 = v from rfl,Nat.add_assoc]
   have hls : out ++ eZ q ([v].take (0 + 1)) 63 0 = out ++ eZ q ([v].take 0) 63 0 ++ f7 (q ++ [((0 : Nat) : Int)]) (v):=by rw [cD oM,lM,show eA 63 0 (List.take 0 [v]).length (ab [v] 0) = ((0 : Nat) : Int) from rfl,show ab [v] 0 = v from rfl,List.append_assoc]
   have hlen : m + V.sizes ([v].take 0) = (out ++ eZ q ([v].take 0) 63 0).length:=by rw [List.length_append,ny,hm]
   have hs1:=eY ([v].take 0)
   have htk:=eW [v] 0
   have htk1:=eW [v] (0 + 1)
   rw [cD (by (omega)),dT] at htk1
   simp only [V.tots] at htk1
   have hnv : (ab [v] 0).tot = v.tot:=rfl
   have htv : V.tots [v] = v.tot:=by simp [V.tots]
   have hpl:=dz hqn
   have hq2 : ∀ n ∈ q ++ [((0 : Nat) : Int)],0 ≤ n ∧ n ≤ 999999:=kZ hqn ⟨oM,oM⟩
   have hdl:=gI (hq2 ((0 : Nat) : Int) (by simp)).2
   have cx_lv:=ih (q ++ [((0 : Nat) : Int)]) a (m + V.sizes ([v].take 0)) cap _ hlen oM hq2 (by simp only [List.length_append,List.length_singleton];omega)
   by_cases hq : q = []
   ·have hp : aR q = []:=fN.2 hq
    rw [show aR (q ++ [((0 : Nat) : Int)]) = bE ((0 : Nat) : Int) by rw [hq];rfl] at cx_lv
    clear hq
    repeat' (first | refine jM ?_ | (refine jo ?_;first | refine jV (ah rfl rfl aS rfl rfl) ?_ | refine jV (af rfl) ?_ | refine jV (ak rfl rfl oM) ?_ | refine ae rfl rfl rfl (dn oM) rfl ?_ | (refine fF rfl rfl rfl cx_lv rfl ?_;rintro _ _ ⟨av,cv,rfl,rfl⟩;dsimp only [zA,fA])) | refine ac rfl rfl ?_ | (refine ad rfl ?_ ?_;(focus ((first | rfl | (simp [*];done));done))))
    exact bj (0 + 1,av,cv) (by dsimp only;omega) (by dsimp only;omega) (by dsimp only;rw [hsn];repeat (first | exact trivial | refine ⟨rfl,?_⟩)) rfl (by dsimp only;rw [hsn,hls];repeat (exact List.Sublist.refl _))
   ·have hp : aR q ≠ []:=fun h=>hq (fN.1 h)
    rw [← iW hq] at cx_lv
    clear hq
    repeat' (first | refine jX ?_ | (refine jo ?_;first | refine jV (ah rfl rfl aS rfl rfl) ?_ | refine jV (af rfl) ?_ | refine jV (ak rfl rfl oM) ?_ | refine ae rfl rfl rfl (dn oM) rfl ?_ | (refine fF rfl rfl rfl cx_lv rfl ?_;rintro _ _ ⟨av,cv,rfl,rfl⟩;dsimp only [zA,fA])) | (refine ac rfl (by first | rfl | (refine decide_eq_true ?_;(assumption))) ?_) | refine ad rfl rfl ?_)
    exact bj (0 + 1,av,cv) (by dsimp only;omega) (by dsimp only;omega) (by dsimp only;rw [hsn];repeat (first | exact trivial | refine ⟨rfl,?_⟩)) rfl (by dsimp only;rw [hsn,hls];repeat (exact List.Sublist.refl _))
  ·obtain rfl : i = 1:=oM
   rw [show [v].take (1) = [v] from List.take_of_length_le (by simp)]
   repeat' (first | refine jR ?_ | (refine jo ?_;first | refine jV (ah rfl rfl aS rfl rfl) ?_ | refine jV (af rfl) ?_) | refine ad rfl rfl ?_)
   refine aW (vs:=[_]) rfl ⟨rfl,trivial⟩ rfl a8 ⟨rfl,_,_,rfl,rfl⟩
 | recd k b t fs bs a1 a2 c c2 h0 h1 h2 h3 h4 h5 hk ih =>
  intro q a m cap out hm hto hqn hql
  obtain ⟨r,rfl⟩:=df h0.1
  rw [br] at hto hql
  have hml : (fs.map (fun p : Fld × V=>V.nd 61 [] p.1.tag [p.2])).length = fs.length:=by simp
  have hnt : ∀ i,i < fs.length → ab (fs.map (fun p : Fld × V=>V.nd 61 [] p.1.tag [p.2])) i = V.nd 61 [] (ab fs i).1.tag [(ab fs i).2]:=fun i hi=>by rw [aA (by simpa using hi),aA hi];simp
  generalize hKS : fs.map (fun p : Fld × V=>V.nd 61 [] p.1.tag [p.2]) = KS at *
  have hsz : V.size (.nd 82 [] 0 KS) = V.sizes KS:=by rw [V.size,if_neg (by unfold cP;simp)]
  rw [hsz,pr sk dC]
  have hk0 : bt (64 :: r) (Int.toNat 0) = 64:=bh 64 r
  have hkl2 : (64 :: r).length = r.length + 1:=rfl
  have hst:=eY KS
  have hkl:=c7 KS
  by_cases hne : fs.length = 0
  ·obtain rfl : KS = []:=List.length_eq_zero_iff.1 oM
   rw [jt,List.append_nil]
   refine jH [(0,_),(1,_),(2,_)] Tryz.func114 Tryz.ntmps114 fun B hB hW=>?_
   repeat' (first | refine jM ?_ | (refine jo ?_;first | refine jV (ah rfl rfl aS rfl rfl) ?_ | refine jV (af rfl) ?_ | refine aN rfl ?_ | refine aC rfl ?_) | refine aH rfl rfl rfl ?_ | refine ar rfl rfl rfl ?_ | (refine ac rfl (by first | rfl | (refine decide_eq_true ?_;(omega))) ?_))
   refine aW (vs:=[_]) rfl ⟨rfl,trivial⟩ rfl a8 ⟨rfl,_,_,rfl,rfl⟩
  obtain ⟨kb,ko,kc,e,hs⟩:=h3.expl oM
  simp only [Value.slice.injEq] at e
  obtain ⟨rfl,-,rfl⟩:=e
  obtain ⟨tb2,to,tc,e,hts⟩:=h2.expl oM
  simp only [Value.slice.injEq] at e
  obtain ⟨rfl,-,rfl⟩:=e
  have hmt : (fs.map fun p : Fld × V=>p.1.tag).length = fs.length:=by simp
  have hnm : ∀ i,i < fs.length → ab (fs.map fun p : Fld × V=>p.1.tag) i = (ab fs i).1.tag:=fun i hi=>by rw [aA (by simpa using hi),aA hi];simp
  refine jH [(0,_),(1,_),(2,_)] Tryz.func114 Tryz.ntmps114 fun B hB hW=>?_
  repeat' (first | refine jR ?_ | (refine jo ?_;first | refine jV (ah rfl rfl aS rfl rfl) ?_ | refine jV (af rfl) ?_) | refine ad rfl (aG oM) ?_)
  rw [show aj cm out = aj cm (out ++ eZ q (KS.take 0) 82 0) by rw [List.take_zero,jt,List.append_nil]]
  refine aV (ι:=Nat × Option Addr × Nat) (fun i=>i.1 ≤ fs.length) (fun i=>[(0,Pt b 0),(1,S (aR q)),(2,.slice i.2.1 (m + V.sizes (KS.take i.1)) i.2.2),(7,I i.1)]) (fun _=>G) (fun i=>[.acc (.slice i.2.1 (m + V.sizes (KS.take i.1)) i.2.2) mt 1 (m + V.sizes (KS.take i.1)) (aj cm (out ++ eZ q (KS.take i.1) 82 0))]) (fun i=>fs.length - i.1) (0,a,cap) ?_ tU rfl a8 (fun i Hi=>?_)
  ·exact Nat.zero_le _
  obtain ⟨i,a,cap⟩:=i
  dsimp only at Hi ⊢
  by_cases hi : i < fs.length
  ·have hti:=gu (ks:=KS) (i:=i) oM
   have hxt:=hnm i hi
   have hti2 : (ab KS i).tot = 20 + (ab fs i).2.tot:=by rw [hnt i hi];simp [br,V.tots]
   have hsk : (ab KS i).size = (ab fs i).2.size:=by rw [hnt i hi,V.size,if_neg (by unfold cP;simp),V.sizes,V.sizes];rfl
   have htg:=((hw.ty t (bn h0.1)).fld _ (h5 i hi)).tag
   have hsn : m + V.sizes (KS.take (i + 1)) = m + V.sizes (KS.take i) + ((ab fs i).2).size:=by rw [cD oM,gF,hsk,Nat.add_assoc]
   have hls : out ++ eZ q (KS.take (i + 1)) 82 0 = out ++ eZ q (KS.take i) 82 0 ++ f7 (q ++ [(ab fs i).1.tag]) ((ab fs i).2):=by rw [cD oM,lM,show eA 82 0 (KS.take i).length (ab KS i) = (ab fs i).1.tag by rw [hnt i hi];rfl,hnt i hi,yO,List.append_assoc]
   have hlen : m + V.sizes (KS.take i) = (out ++ eZ q (KS.take i) 82 0).length:=by rw [List.length_append,ny,hm]
   have hs1:=eY (KS.take i)
   have htk:=eW KS i
   have htk1:=eW KS (i + 1)
   rw [cD (by (omega)),dT] at htk1
   simp only [V.tots] at htk1
   have hxi : ab bs i = ab bs i:=rfl
   have hpl:=dz hqn
   have hq2 : ∀ n ∈ q ++ [(ab fs i).1.tag],0 ≤ n ∧ n ≤ 999999:=kZ hqn ⟨oM,oM⟩
   have hdl:=gI (hq2 ((ab fs i).1.tag) (by simp)).2
   have cx_lv:=ih i hi (q ++ [(ab fs i).1.tag]) a (m + V.sizes (KS.take i)) cap _ hlen oM hq2 (by simp only [List.length_append,List.length_singleton];omega)
   by_cases hq : q = []
   ·have hp : aR q = []:=fN.2 hq
    rw [show aR (q ++ [(ab fs i).1.tag]) = bE ((ab fs i).1.tag) by rw [hq];rfl] at cx_lv
    clear hq
    repeat' (first | refine jM ?_ | (refine jo ?_;first | refine jV (ah rfl rfl aS rfl rfl) ?_ | (refine jV (bU rfl rfl aS ?_ aS rfl) ?_;focus omega) | refine jV (af rfl) ?_ | refine jV (ak rfl rfl oM) ?_ | refine ae rfl rfl rfl (dn oM) rfl ?_ | (refine fF rfl rfl rfl cx_lv rfl ?_;rintro _ _ ⟨av,cv,rfl,rfl⟩;dsimp only [zA,fA])) | (refine ac rfl (by first | rfl | (refine decide_eq_true ?_;(omega))) ?_) | (refine ad rfl ?_ ?_;(focus ((simp [*];done);done))))
    exact bj (i + 1,av,cv) (by dsimp only;omega) (by dsimp only;omega) (by dsimp only;rw [hsn];repeat (first | exact trivial | refine ⟨rfl,?_⟩)) rfl (by dsimp only;rw [hsn,hls];repeat (exact List.Sublist.refl _))
   ·have hp : aR q ≠ []:=fun h=>hq (fN.1 h)
    rw [← iW hq] at cx_lv
    clear hq
    repeat' (first | refine jX ?_ | (refine jo ?_;first | refine jV (ah rfl rfl aS rfl rfl) ?_ | (refine jV (bU rfl rfl aS ?_ aS rfl) ?_;focus omega) | refine jV (af rfl) ?_ | refine jV (ak rfl rfl oM) ?_ | refine ae rfl rfl rfl (dn oM) rfl ?_ | (refine fF rfl rfl rfl cx_lv rfl ?_;rintro _ _ ⟨av,cv,rfl,rfl⟩;dsimp only [zA,fA])) | (refine ac rfl (by first | rfl | (refine decide_eq_true ?_;first | assumption | omega)) ?_))
    exact bj (i + 1,av,cv) (by dsimp only;omega) (by dsimp only;omega) (by dsimp only;rw [hsn];repeat (first | exact trivial | refine ⟨rfl,?_⟩)) rfl (by dsimp only;rw [hsn,hls];repeat (exact List.Sublist.refl _))
  ·obtain rfl : i = fs.length:=oM
   rw [show KS.take (fs.length) = KS from List.take_of_length_le oM]
   repeat' (first | refine jR ?_ | (refine jo ?_;first | refine jV (ah rfl rfl aS rfl rfl) ?_ | refine jV (af rfl) ?_) | refine ad rfl (aG oM) ?_)
   refine aW (vs:=[_]) rfl ⟨rfl,trivial⟩ rfl a8 ⟨rfl,_,_,rfl,rfl⟩
 | enm k b tgb t d h0 h1 h2 h3 =>
  intro q a m cap out hm hto hqn hql
  obtain ⟨r,rfl⟩:=df h0.1
  have hk0 : bt (64 :: r) (Int.toNat 0) = 64:=bh 64 r
  have hkl2 : (64 :: r).length = r.length + 1:=rfl
  have hrow : aj cm out ++ [S (aR q)] = aj cm (out ++ [aR q]):=(bO cm out (aR q)).symm
  have hsz : V.size (.nd 69 [] d.tag []) = 1:=mE rfl
  rw [br] at hto hql
  rw [hsz,ox rfl]
  refine jH [(0,_),(1,_),(2,_)] Tryz.func114 Tryz.ntmps114 fun B hB hW=>?_
  repeat' (first | refine jM ?_ | (refine jo ?_;first | refine jV (ah rfl rfl aS rfl rfl) ?_ | refine jV (af rfl) ?_ | refine aC rfl ?_ | refine jF fun _=>?_ | refine bC rfl rfl rfl rfl rfl rfl rfl rfl rfl oM fun _ _=>?_) | refine ar rfl rfl rfl ?_ | refine ac rfl rfl ?_ | refine ad rfl rfl ?_)
  rw [hrow]
  refine aW (vs:=[_]) rfl ⟨rfl,trivial⟩ rfl sB ⟨rfl,_,_,rfl,rfl⟩
 | uni k b tgb kb b' cc t d v hcc h0 h1 h2 h3 h4 hk ih =>
  intro q a m cap out hm hto hqn hql
  obtain ⟨r,rfl⟩:=df h0.1
  simp only [br,V.tots] at hto hql
  have hk0 : bt (64 :: r) (Int.toNat 0) = 64:=bh 64 r
  have hkl2 : (64 :: r).length = r.length + 1:=rfl
  have htg:=((hw.ty t (bn h0.1)).fld _ h1).tag
  have hsz : V.size (.nd 85 [] d.tag [v]) = V.sizes [v]:=by rw [V.size,if_neg (by unfold cP;simp)]
  rw [hsz,pr sj dC]
  refine jH [(0,_),(1,_),(2,_)] Tryz.func114 Tryz.ntmps114 fun B hB hW=>?_
  repeat' (first | refine jR ?_ | (refine jo ?_;first | refine jV (ah rfl rfl aS rfl rfl) ?_ | refine jV (af rfl) ?_) | refine ad rfl rfl ?_)
  rw [show aj cm out = aj cm (out ++ eZ q ([v].take 0) 85 d.tag) by rw [List.take_zero,jt,List.append_nil]]
  refine aV (ι:=Nat × Option Addr × Nat) (fun i=>i.1 ≤ 1) (fun i=>[(0,Pt b 0),(1,S (aR q)),(2,.slice i.2.1 (m + V.sizes ([v].take i.1)) i.2.2),(7,I i.1)]) (fun _=>G) (fun i=>[.acc (.slice i.2.1 (m + V.sizes ([v].take i.1)) i.2.2) mt 1 (m + V.sizes ([v].take i.1)) (aj cm (out ++ eZ q ([v].take i.1) 85 d.tag))]) (fun i=>1 - i.1) (0,a,cap) ?_ tU rfl a8 (fun i Hi=>?_)
  ·exact Nat.zero_le _
  obtain ⟨i,a,cap⟩:=i
  dsimp only at Hi ⊢
  by_cases hi : i < 1
  ·obtain rfl : i = 0:=oM
   have hsn : m + V.sizes ([v].take (0 + 1)) = m + V.sizes ([v].take 0) + (v).size:=by rw [cD oM,gF,show ab [v] 0 = v from rfl,Nat.add_assoc]
   have hls : out ++ eZ q ([v].take (0 + 1)) 85 d.tag = out ++ eZ q ([v].take 0) 85 d.tag ++ f7 (q ++ [d.tag]) (v):=by rw [cD oM,lM,show eA 85 d.tag (List.take 0 [v]).length (ab [v] 0) = d.tag from rfl,show ab [v] 0 = v from rfl,List.append_assoc]
   have hlen : m + V.sizes ([v].take 0) = (out ++ eZ q ([v].take 0) 85 d.tag).length:=by rw [List.length_append,ny,hm]
   have hs1:=eY ([v].take 0)
   have htk:=eW [v] 0
   have htk1:=eW [v] (0 + 1)
   rw [cD (by (omega)),dT] at htk1
   simp only [V.tots] at htk1
   have hnv : (ab [v] 0).tot = v.tot:=rfl
   have htv : V.tots [v] = v.tot:=by simp [V.tots]
   have hpl:=dz hqn
   have hq2 : ∀ n ∈ q ++ [d.tag],0 ≤ n ∧ n ≤ 999999:=kZ hqn ⟨oM,oM⟩
   have hdl:=gI (hq2 (d.tag) (by simp)).2
   have cx_lv:=ih (q ++ [d.tag]) a (m + V.sizes ([v].take 0)) cap _ hlen oM hq2 (by simp only [List.length_append,List.length_singleton];omega)
   by_cases hq : q = []
   ·have hp : aR q = []:=fN.2 hq
    rw [show aR (q ++ [d.tag]) = bE (d.tag) by rw [hq];rfl] at cx_lv
    clear hq
    repeat' (first | refine jM ?_ | (refine jo ?_;first | refine jV (ah rfl rfl aS rfl rfl) ?_ | refine jV (af rfl) ?_ | refine jV (ak rfl rfl oM) ?_ | refine ae rfl rfl rfl (dn oM) rfl ?_ | (refine fF rfl rfl rfl cx_lv rfl ?_;rintro _ _ ⟨av,cv,rfl,rfl⟩;dsimp only [zA,fA])) | refine ac rfl rfl ?_ | (refine ad rfl ?_ ?_;(focus ((simp [*];done);done))))
    exact bj (0 + 1,av,cv) (by dsimp only;omega) (by dsimp only;omega) (by dsimp only;rw [hsn];repeat (first | exact trivial | refine ⟨rfl,?_⟩)) rfl (by dsimp only;rw [hsn,hls];repeat (exact List.Sublist.refl _))
   ·have hp : aR q ≠ []:=fun h=>hq (fN.1 h)
    rw [← iW hq] at cx_lv
    clear hq
    repeat' (first | refine jX ?_ | (refine jo ?_;first | refine jV (ah rfl rfl aS rfl rfl) ?_ | refine jV (af rfl) ?_ | refine jV (ak rfl rfl oM) ?_ | refine ae rfl rfl rfl (dn oM) rfl ?_ | (refine fF rfl rfl rfl cx_lv rfl ?_;rintro _ _ ⟨av,cv,rfl,rfl⟩;dsimp only [zA,fA])) | (refine ac rfl (by first | rfl | (refine decide_eq_true ?_;(assumption))) ?_))
    exact bj (0 + 1,av,cv) (by dsimp only;omega) (by dsimp only;omega) (by dsimp only;rw [hsn];repeat (first | exact trivial | refine ⟨rfl,?_⟩)) rfl (by dsimp only;rw [hsn,hls];repeat (exact List.Sublist.refl _))
  ·obtain rfl : i = 1:=oM
   rw [show [v].take (1) = [v] from List.take_of_length_le (by simp)]
   repeat' (first | refine jR ?_ | (refine jo ?_;first | refine jV (ah rfl rfl aS rfl rfl) ?_ | refine jV (af rfl) ?_) | refine ad rfl rfl ?_)
   refine aW (vs:=[_]) rfl ⟨rfl,trivial⟩ rfl a8 ⟨rfl,_,_,rfl,rfl⟩
def gA (s k w : List UInt8) : Option (List (List UInt8)):=match cL s k w with
 | some u=>if (u.leaves.all fun r=>decide (r.length ≤ 8)) = true then some (f7 [] u) else none
 | none=>none
theorem kV : ∀ (n : Nat) (v : V),v.tot ≤ n → ∀ r ∈ v.leaves,r.length ≤ n
 | 0,v,h,_,_=>by have:=gY v;omega
 | n + 1,.nd w x t ks,h,r,hr=>by
  rw [br] at h
  rw [V.leaves] at hr
  split at hr
  ·simp only [List.mem_singleton] at hr;subst hr;simp
  ·split at hr
   ·have : ∀ (ks : List V),V.tots ks ≤ n → r ∈ V.leavesF ks → r.length ≤ n:=fun ks=>by
     induction ks with
     | nil=>intro _ hr;rw [V.leavesF] at hr;cases hr
     | cons v ks ih =>
      intro ht hr
      rw [V.tots] at ht
      rw [V.leavesF] at hr
      rcases List.mem_append.1 hr with hr | hr
      ·exact kV n v oM r hr
      ·exact ih oM hr
    have:=this ks oM hr
    omega
   ·obtain ⟨j,q,h1,rfl,h3⟩:=fW hr
    have:=gu h1
    have:=kV n (ab ks j) oM q h3
    simp only [List.length_cons];omega
theorem p9 {u : V} {i : Nat} (h : i < u.leaves.length) : ab (f7 [] u) i = aR (ab u.leaves i):=by
 unfold f7
 rw [aA (by simpa using h),aA h];simp
theorem jc {s k w : List UInt8} (h : s.length ≤ 1048576 ∧ k.length ≤ 1048576 ∧ w.length ≤ 1048576) : bB Tryz.prog 80 [S s,S k,S w] G (fun v G'=>∃ a c ls,v = Tu [.slice a ls.length c,Bo (gA s k w).isSome] ∧ aP G' (.slice a ls.length c) 1 ls.length (aj cm ls) ∧ (∀ l,gA s k w = some l → ls = l) ∧ (gA s k w = none → ls = [])):=by
 unfold gA
 cases hg : cL s k w with
 | none =>
  have cx_l40:=jx (G:=G) h hg
  refine jB [(0,_),(1,_),(2,_)] Tryz.func80 Tryz.ntmps80 fun B hok hB hW=>?_
  repeat' (first | refine jR ?_ | (refine jo ?_;first | refine jF fun _=>?_ | (refine aq rfl rfl rfl cx_l40 rfl ?_;rintro _ G hle ⟨uu,q1,rfl⟩;skip)) | refine ac rfl rfl ?_)
  rename_i x
  refine Nx.blkAcc (m:=0) (sz:=1) .here rfl ?_
  refine Nx.sealS (v:=.slice (some ⟨x,0,none⟩) 0 0) fun G2 hG2 hsl=>?_
  refine jZ (vs:=[_,_]) rfl ⟨rfl,rfl,trivial⟩ rfl ⟨(Gh.le.trans aS hG2),rfl,?_⟩
  exact ⟨_,_,[],rfl,hsl,fun l h=>(by cases h),fun _=>rfl⟩
 | some u =>
  obtain ⟨ts,hs,hki,hvo,hto,hwf⟩:=cQ hg
  have hw:=dE hs
  have cx_l4x:=lj (G:=G) (s:=s) (k:=k) (w:=w) h hs hki hvo
  have hok:=qQ hw (da hvo)
  have hdp:=kV u.tot u (Nat.le_refl _)
  have hll : (f7 [] u).length = u.size:=uh
  have hl2 : u.leaves.length = u.size:=(iO u).symm
  have hsz:=mC u
  dsimp only
  refine jB [(0,_),(1,_),(2,_)] Tryz.func80 Tryz.ntmps80 fun B hok hB hW=>?_
  repeat' (first | refine jR ?_ | (refine jo ?_;first | refine jF fun _=>?_ | (refine aq rfl rfl rfl cx_l4x rfl ?_;rintro _ G hle ⟨av1,cv1,vs1,b1,rfl,hR1,hT1,hrep⟩;skip)) | refine ad rfl rfl ?_)
  rename_i y
  subst hT1
  refine Nx.blkAcc (m:=0) (sz:=1) .here rfl ?_
  have cx_lv:=ww hw hrep [] (some ⟨y,0,none⟩) 0 0 [] rfl oM (by simp) (by simp only [List.length_nil];omega)
  repeat' (first | refine jR ?_ | (refine jo ?_;(refine fF rfl rfl rfl cx_lv rfl ?_;rintro _ _ ⟨av,cv,rfl,rfl⟩;dsimp only [zA,fA])))
  rw [Nat.zero_add]
  have hle0:=hle
  refine Nx.sealS (v:=.slice av u.size cv) fun G2 hG2 hsl=>?_
  have hok8 : ∀ i,i < u.leaves.length → cS (ab (f7 [] u) i) = if (ab u.leaves i).length ≤ 8 then some (ab u.leaves i) else none:=fun i hi=>by
   rw [p9 hi];exact mP (hok _ (be hi)).1
  have hxl : ∀ i,i < u.leaves.length → (ab (f7 [] u) i).length ≤ 1048576:=fun i hi=>by
   rw [p9 hi]
   have h1:=dz (hok _ (be hi)).1
   have h2:=hdp _ (be hi)
   omega
  have hall : (∀ i,i < u.leaves.length → (ab u.leaves i).length ≤ 8) → (u.leaves.all fun r=>decide (r.length ≤ 8)) = true:=fun h=>by
   rw [List.all_eq_true]
   intro r hr
   obtain ⟨i,hi,rfl⟩:=List.mem_iff_getElem.1 hr
   have:=h i hi
   rw [aA hi] at this
   exact decide_eq_true this
  have hex : ∀ i,i < u.leaves.length → ¬ (ab u.leaves i).length ≤ 8 → (u.leaves.all fun r=>decide (r.length ≤ 8)) = false:=fun i hi h=>by
   cases hb : u.leaves.all fun r=>decide (r.length ≤ 8) with
   | false=>rfl
   | true =>
    rw [List.all_eq_true] at hb
    exact absurd (of_decide_eq_true (hb _ (be hi))) h
  clear cx_lv hok hdp
  generalize f7 [] u = xs at *
  generalize u.leaves = ls at *
  obtain ⟨obv,hob⟩ : ∃ b,(ls.all fun r=>decide (r.length ≤ 8)) = b:=⟨_,rfl⟩
  rw [hob]
  rw [hob] at hall
  rw [← hll] at hsl ⊢
  refine aV (ι:=Nat × Gh) (fun i=>(i.1 ≤ xs.length ∧ ∀ j,j < i.1 → (ab ls j).length ≤ 8) ∧ Gh.le G i.2 ∧ aP i.2 (.slice av xs.length cv) 1 xs.length (aj cm xs)) (fun i=>[(11,.slice av xs.length cv),(12,I i.1)]) (fun i=>i.2) (fun i=>[]) (fun i=>xs.length - i.1) (0,G2) ?_ tU rfl a8 (fun i Hi=>?_)
  ·exact ⟨⟨Nat.zero_le _,fun j hj=>absurd hj (Nat.not_lt_zero _)⟩,hG2,hsl⟩
  obtain ⟨i,Gq⟩:=i
  dsimp only at Hi ⊢
  obtain ⟨⟨hi0,hj8⟩,hgq,hsq⟩:=Hi
  by_cases hi : i < xs.length
  ·obtain ⟨xb,xo,xc,e,hsx⟩:=hsq.expl oM
   simp only [Value.slice.injEq] at e
   obtain ⟨rfl,-,rfl⟩:=e
   have hxi : ab xs i = ab xs i:=rfl
   have hpo:=hok8 i oM
   by_cases h8 : (ab ls i).length ≤ 8
   ·rw [if_pos h8] at hpo
    have cx_sp:=ky (hxl i oM) hpo
    repeat' (first | refine jM ?_ | (refine jo ?_;first | refine jV (af rfl) ?_ | refine jV (ak rfl rfl oM) ?_ | (refine jV (eD rfl rfl aS ?_) ?_;focus omega) | (refine aq rfl rfl rfl (cx_sp _) rfl ?_;rintro _ G hle ⟨sa,sc,sn,rfl,hsp⟩;skip)) | refine ac rfl (ay oM) ?_ | refine ad rfl rfl ?_)
    exact bj (i + 1,_) ⟨⟨by dsimp only;omega,fun j hj=>by
     rcases Nat.lt_or_ge j i with h | h
     ·exact hj8 j h
     ·obtain rfl : j = i:=by dsimp only at hj;omega
      exact h8⟩,Gh.le.trans hgq aS,hsq.mono aS⟩ (by dsimp only;omega) tU rfl a8
   ·rw [if_neg h8] at hpo
    have cx_sp:=lA (hxl i oM) hpo
    obtain rfl : obv = false:=by rw [← hob];exact hex i oM h8
    repeat' (first | refine jR ?_ | (refine jo ?_;first | refine jF fun _=>?_ | refine jV (af rfl) ?_ | refine jV (ak rfl rfl oM) ?_ | (refine jV (eD rfl rfl aS ?_) ?_;focus omega) | (refine aq rfl rfl rfl (cx_sp _) rfl ?_;rintro _ G hle ⟨sa,sc,sn,rfl,hsp⟩;skip)) | (refine ac rfl (by first | rfl | (refine decide_eq_true ?_;(omega))) ?_))
    rename_i z
    refine Nx.blkAcc (m:=0) (sz:=1) .here rfl ?_
    refine Nx.sealS (v:=.slice (some ⟨z,0,none⟩) 0 0) fun G3 hG3 hsl3=>?_
    refine jZ (vs:=[_,_]) rfl ⟨rfl,rfl,trivial⟩ rfl ⟨(hle0.trans (hgq.trans (hle.trans hG3))),rfl,?_⟩
    exact ⟨_,_,[],rfl,hsl3,fun l h=>(by cases h),fun _=>rfl⟩
  ·obtain rfl : i = xs.length:=oM
   obtain rfl : obv = true:=hall fun j hj=>hj8 j oM
   repeat' (first | refine jR ?_ | (refine jo ?_;refine jV (af rfl) ?_) | refine ad rfl (aG oM) ?_)
   refine jZ (vs:=[_,_]) rfl ⟨rfl,rfl,trivial⟩ rfl ⟨(hle0.trans hgq),rfl,?_⟩
   exact ⟨_,_,xs,rfl,hsq,fun l h=>by simpa using h,fun h=>(by cases h)⟩
theorem tD {s k w : List UInt8} {ls : List (List UInt8)} (h : gA s k w = some ls) : ∀ i,i < ls.length → (ab ls i).length ≤ 56:=fun i hi=>by
 unfold gA at h
 cases hg : cL s k w with
 | none=>rw [hg] at h;cases h
 | some u =>
  rw [hg] at h
  dsimp only at h
  split at h
  ·rename_i hall
   simp only [Option.some.injEq] at h
   subst h
   obtain ⟨ts,hs,hki,hvo,hto,hwf⟩:=cQ hg
   have hok:=qQ (dE hs) (da hvo)
   have hi2 : i < u.leaves.length:=by simpa [f7] using hi
   rw [p9 hi2]
   have h1:=dz (hok _ (be hi2)).1
   rw [List.all_eq_true] at hall
   have h2:=of_decide_eq_true (hall _ (be hi2))
   omega
  ·cases h
theorem wg {k : Nat} {s : List UInt8} : 1 ≤ (aY k s).length:=by
 rw [km]
 split <;> simp
theorem tF {s k w : List UInt8} {ls : List (List UInt8)} (h : gA s k w = some ls) : ls.length ≤ 40000:=by
 unfold gA at h
 cases hg : cL s k w with
 | none=>rw [hg] at h;cases h
 | some u =>
  rw [hg] at h
  dsimp only at h
  split at h
  ·simp only [Option.some.injEq] at h
   subst h
   obtain ⟨ts,hs,hki,hvo,hto,hwf⟩:=cQ hg
   have:=mC u
   rw [uh];omega
  ·cases h
theorem wA {r : Nat} {code : Value} {p : Int} {l s k w : List UInt8} (hp : 0 ≤ p ∧ p ≤ 500000000000) (hs : aP G code 1 l.length (ck l)) (hsz : s.length ≤ 1048576 ∧ k.length ≤ 1048576 ∧ w.length ≤ 1048576) :
  dA Tryz.prog 46 [Pt r 0,S s,S k,S w] G [ee r code p dk] (fun v L'=>∃ x q,v = S x ∧ x.length ≤ 400 ∧ L' = [ee r code q dk] ∧ p ≤ q ∧ q ≤ p + 20):=by
 cases hl : gA s k w with
 | none =>
  have cx_pls : bB Tryz.prog 80 [S s,S k,S w] G (fun v _=>∃ a n c,v = Tu [.slice a n c,Bo false]):=(jc hsz).mono fun v G' L' ⟨h1,h2,a,c,ls,h3,_⟩=>⟨h1,h2,a,ls.length,c,by rw [h3,hl];rfl⟩
  refine jB (Post:=fun v G' L'=>G' = G ∧ _) [(0,_),(1,_),(2,_),(3,_)] Tryz.func46 Tryz.ntmps46 fun B hok hB hW=>?_
  repeat' (first | refine jR ?_ | (refine jo ?_;first | refine aN rfl ?_ | refine jF fun _=>?_ | refine jV (aM rfl rfl oM) ?_ | (refine eN 64 rfl rfl rfl ?_ rfl (fun xs hxs=>?_);(focus ((simp only [List.length_append,List.length_cons,List.length_nil,List.length_take];omega);done))) | (refine aq rfl rfl rfl cx_pls rfl ?_;rintro _ G hle ⟨pa1,pn1,pc1,rfl⟩;skip) | (refine aI rfl rfl rfl (cT ?_ (by (repeat (first | assumption | refine aP.mono ?_ aS));done)) rfl ?_;(focus omega);rintro _ _ ⟨k,rfl,rfl,hk0,hk1⟩;dsimp only [zA,fA])) | refine aH rfl rfl rfl ?_ | refine ac rfl rfl ?_)
  all_goals refine Nx.base hok hB ?_
  all_goals exact aW (vs:=[_]) rfl ⟨rfl,trivial⟩ rfl sB ⟨rfl,_,_,rfl,by (omega),rfl,oM,oM⟩
 | some ls =>
  have hlen:=tD hl
  have hcnt:=tF hl
  by_cases hne : ls.length = 0
  ·have cx_plt : bB Tryz.prog 80 [S s,S k,S w] G (fun v _=>∃ a n c,v = Tu [.slice a 0 c,Bo true] ∧ n = 0):=(jc hsz).mono fun v G' L' ⟨h1,h2,a,c,ls',h3,h4,h5,_⟩=>by
    obtain rfl:=h5 ls hl
    exact ⟨h1,h2,a,0,c,by rw [h3,hl];exact congrArg (fun n=>Tu [.slice a n c,Bo true]) hne,rfl⟩
   refine jB (Post:=fun v G' L'=>G' = G ∧ _) [(0,_),(1,_),(2,_),(3,_)] Tryz.func46 Tryz.ntmps46 fun B hok hB hW=>?_
   repeat' (first | refine jR ?_ | (refine jo ?_;first | refine jV (af rfl) ?_ | refine aN rfl ?_ | refine aC rfl ?_ | refine jF fun _=>?_ | refine jV (aM rfl rfl oM) ?_ | (refine eN 64 rfl rfl rfl ?_ rfl (fun xs hxs=>?_);(focus ((simp only [List.length_append,List.length_cons,List.length_nil,List.length_take];omega);done))) | (refine aq rfl rfl rfl cx_plt rfl ?_;rintro _ G hle ⟨pa1,pn1,pc1,rfl,_⟩;skip) | (refine aI rfl rfl rfl (cT ?_ (by (repeat (first | assumption | refine aP.mono ?_ aS));done)) rfl ?_;(focus omega);rintro _ _ ⟨k,rfl,rfl,hk0,hk1⟩;dsimp only [zA,fA])) | refine aH rfl rfl rfl ?_ | refine ar rfl rfl rfl ?_ | refine ac rfl rfl ?_)
   all_goals refine Nx.base hok hB ?_
   all_goals exact aW (vs:=[_]) rfl ⟨rfl,trivial⟩ rfl sB ⟨rfl,_,_,rfl,by (omega),rfl,oM,oM⟩
  ·have cx_plu : bB Tryz.prog 80 [S s,S k,S w] G (fun v G'=>∃ b o c,v = Tu [.slice (some ⟨b,o,none⟩) ls.length c,Bo true] ∧ b7 G' b o (aj cm ls)):=(jc hsz).mono fun v G' L' ⟨h1,h2,a,c,ls',h3,h4,h5,_⟩=>by
    obtain rfl:=h5 ls hl
    obtain ⟨b,o,c',e,hs⟩:=h4.expl oM
    simp only [Value.slice.injEq] at e
    obtain ⟨rfl,-,rfl⟩:=e
    exact ⟨h1,h2,b,o,c,by rw [h3,hl];rfl,hs⟩
   have hcl : ∀ i,i < ls.length → (ab (aY 47 (ab ls i)) 0).length ≤ 56:=fun i hi=>by
    have h1:=hlen i hi
    have h2:=wg (k:=47) (s:=ab ls i)
    have h3:=c5 (be (show 0 < (aY 47 (ab ls i)).length by omega))
    omega
   have cx_cutg : ∀ {G : Gh} (i : Nat),i < ls.length → bB Tryz.prog 65 [S (ab ls i),U8 47] G (fun v G'=>∃ b o c,v = .slice (some ⟨b,o,none⟩) (aY 47 (ab ls i)).length c ∧ 1 ≤ (aY 47 (ab ls i)).length ∧ b7 G' b o (aj cm (aY 47 (ab ls i)))):=fun {G} i hi=>(ma (G:=G) (k:=47) (by have:=hlen i hi;omega)).mono fun v G' L' ⟨h1,h2,h3⟩=>by
    have h5:=wg (k:=47) (s:=ab ls i)
    obtain ⟨la,lc,rfl⟩:=h3.sl
    obtain ⟨b,o,c,e,hsg⟩:=h3.expl oM
    exact ⟨h1,h2,b,o,c,e,h5,hsg⟩
   clear hl
   refine jB (Post:=fun v G' L'=>G' = G ∧ _) [(0,_),(1,_),(2,_),(3,_)] Tryz.func46 Tryz.ntmps46 fun B hok hB hW=>?_
   repeat' (first | refine jR ?_ | (refine jo ?_;first | refine jV (af rfl) ?_ | refine aC rfl ?_ | refine jF fun _=>?_ | refine jV (aM rfl rfl oM) ?_ | (refine eN 64 rfl rfl rfl ?_ rfl (fun xs hxs=>?_);(focus ((simp only [List.length_append,List.length_cons,List.length_nil,List.length_take];omega);done))) | (refine jV (eD rfl rfl aS ?_) ?_;focus omega) | (refine aq rfl rfl rfl cx_plu rfl ?_;rintro _ G hle ⟨pb1,po1,pc1,rfl,hlvs⟩;skip) | (refine aI rfl rfl rfl (cT ?_ (by (repeat (first | assumption | refine aP.mono ?_ aS));done)) rfl ?_;(focus omega);rintro _ _ ⟨k,rfl,rfl,hk0,hk1⟩;dsimp only [zA,fA]) | (refine aq rfl rfl rfl ((cx_cutg _) oM) rfl ?_;rintro _ G hle ⟨b1,o1,cap1,rfl,hcc,hseg⟩;skip)) | (refine ar rfl rfl (by first | rfl | (refine decide_eq_false ?_;(omega))) ?_) | refine er rfl (fun _=>?_) (fun _=>?_))
   all_goals (first | (refine Nx.base hok hB ?_;exact aW (vs:=[_]) rfl ⟨rfl,trivial⟩ rfl sB ⟨rfl,_,_,rfl,by (omega),rfl,oM,oM⟩) | skip)
   all_goals refine Nx.base hok hB ?_
   ·exact aW (vs:=[_]) rfl ⟨rfl,trivial⟩ rfl a8 ⟨rfl,_,_,rfl,Nat.le_trans (hcl _ oM) dC,rfl,oM,oM⟩
   ·exact aW (vs:=[_]) rfl ⟨rfl,trivial⟩ rfl a8 ⟨rfl,_,_,rfl,Nat.le_trans (hlen _ oM) dC,rfl,oM,oM⟩
section
variable {P : Program} {n : Nat} {D : List Deferred} {E : bN} {B : Base} {G : Gh} {L : List Own} {K : Act → World → Prop} {Q : Exit → Act → World → Prop} {ty : TypeId} {pos : String} {aft : Array Edge}
theorem aca {fo : Operand} {l : List Operand} {ag : Array TypeId} {d : Nat} {g : Option (Nat × Bool)} {f : FuncId} {fi ca az vs : List Value} {Post : Value → Gh → List Own → Prop}
  (hf : ev E fo = some (.func (.func f) fi.toArray ca.toArray)) (ha : evs E l = some az) (hv : fi ++ az ++ ca = vs) (hc : fw P f vs G [] Post) (hlt : Nat.blt d n = true)
  (k : ∀ v G' L',Gh.le G G' → Post v G' L' → Nx n D ((d,v) :: E) B G' (L' ++ L) K) : Nx n D E B G L (ow P ⟨some d,.call ⟨.value fo,l.toArray,ag⟩,ty,pos,aft,g⟩ Q K) :=
 i6 (Lp:=[]) hf ha hv hc (List.Perm.refl _) hlt fun v G' L' h=>k v G' L' h.1 h.2
end
variable {G : Gh}
theorem aP.pre {p : Option Addr} {n c sz m : Nat} {xs : List Value} (h : aP G (.slice p n c) sz n xs) (hm : m ≤ n) : aP G (.slice p m c) sz m (xs.take (m * sz)):=by
 obtain ⟨h1,⟨h2,h3⟩ | ⟨b',o',cap',e,hc,hs⟩⟩:=h
 ·simp only [Value.slice.injEq] at h2
  obtain ⟨rfl,rfl,rfl⟩:=h2
  obtain rfl : m = 0:=oM
  exact ⟨by simp [h3],.inl ⟨rfl,by simp [h3]⟩⟩
 ·simp only [Value.slice.injEq] at e
  obtain ⟨rfl,-,rfl⟩:=e
  refine ⟨by rw [List.length_take,h1];exact Nat.min_eq_left (Nat.mul_le_mul_right _ hm),.inr ⟨b',o',_,rfl,oM,?_⟩⟩
  obtain ⟨cs,h3,h4⟩:=hs
  refine ⟨cs,h3,fun i v hv=>h4 i v ?_⟩
  rw [List.getElem?_take] at hv
  split at hv
  ·exact hv
  ·cases hv
theorem xy (l : List Ch) (m : Nat) : aj eM (l.take m) = (aj eM l).take (m * 2):=by
 induction l generalizing m with
 | nil=>simp [aj]
 | cons c l ih =>
  cases m with
  | zero=>simp [aj]
  | succ m =>
   rw [List.take_succ_cons,g7,g7,ih,Nat.succ_mul]
   rfl
theorem xz (l : List Ch) (m : Nat) : aj eM (l.drop m) = (aj eM l).drop (m * 2):=by
 induction l generalizing m with
 | nil=>simp [aj]
 | cons c l ih =>
  cases m with
  | zero=>simp [aj]
  | succ m =>
   rw [List.drop_succ_cons,g7,ih,Nat.succ_mul]
   rfl
theorem zq {p : Option Addr} {c m : Nat} {l : List Ch} (h : aP G (.slice p l.length c) 2 l.length (aj eM l)) (hm : m ≤ l.length) : aP G (.slice p m c) 2 (l.take m).length (aj eM (l.take m)) ∧ (l.take m).length = m:=by
 have e : (l.take m).length = m:=by rw [List.length_take];omega
 rw [e,xy]
 exact ⟨h.pre hm,rfl⟩
abbrev wO (c : Ch) : Prop:=c.1.length ≤ 1000 ∧ c.2.length ≤ 1000
theorem wO.all {l : List Ch} (h : ∀ x ∈ l,wO x) : ∀ x ∈ l,wP x:=fun x hx=>by have:=h x hx;exact ⟨oM,oM⟩
theorem tp {s k w t : List UInt8} (h : s.length ≤ 1048576 ∧ k.length ≤ 1048576 ∧ w.length ≤ 1048576 ∧ t.length ≤ 1048576) :
  fw Tryz.prog 16 [S s,S k,S w,S t] G [] (fun v _ L'=>∃ p c ls ok,v = Tu [.slice p ls.length c,Bo ok] ∧ L' = [.acc (.slice p ls.length c) lv 2 ls.length (aj eM ls)] ∧ ls.length ≤ 30 ∧ ∀ x ∈ ls,wO x):=by
 refine (tq h).mono ?_
 rintro v G' L' ⟨h1,p,c,h2,h3⟩
 refine ⟨h1,p,c,_,_,h2,h3,?_⟩
 cases e : d9 s k w t with
 | none=>exact ⟨by simp,fun x hx=>by cases hx⟩
 | some l =>
  obtain ⟨g1,g2⟩:=tI e
  exact ⟨g1,fun x hx=>by have:=g2 x hx;exact ⟨oM,oM⟩⟩
theorem pO {v : Value} {l : List UInt8} (hs : aP G v 1 l.length (ck l)) : bB Tryz.prog 18 [v] G (fun r G'=>∃ s k x p c cl,r = Tu [S s,S k,S x,.slice p cl.length c] ∧ (True → aP G' (.slice p cl.length c) 2 cl.length (aj eM cl)) ∧ (s.length ≤ 1048576 ∧ k.length ≤ 1048576 ∧ x.length ≤ 1048576) ∧ cl.length ≤ 40 ∧ ∀ x ∈ cl,wO x):=by
 have cx_chw:=fun (G : Gh) (s k w t : List UInt8)=>@tp G s k w t
 refine jB [(0,_)] Tryz.func18 Tryz.ntmps18 fun B hok hB hW=>?_
 repeat' (first | refine jR ?_ | (refine jo ?_;first | refine jF fun _=>?_ | refine jV (aM rfl rfl oM) ?_ | (refine eN 64 rfl rfl rfl ?_ rfl (fun xs hxs=>?_);(focus ((simp only [List.length_append,List.length_cons,List.length_nil,List.length_take];omega);done))) | refine jV (ax rfl rfl) ?_ | refine bC rfl rfl rfl rfl rfl rfl rfl rfl rfl oM fun _ _=>?_ | (refine fB rfl rfl rfl (xG (by (repeat (assumption));done)) rfl ?_;rintro _ _ ⟨b,code,l,rfl,rfl,hcd,hcl⟩;dsimp only [zA,fA]) | (refine aI rfl rfl rfl (tL ?_ (by (repeat (assumption));done)) rfl ?_;(focus omega);rintro _ _ ⟨sc,q1,rfl,hsc,rfl,hq1,hq2⟩;dsimp only [zA,fA]) | (refine aI rfl rfl rfl (wz ?_ (by (repeat (assumption));done) ?_) rfl ?_;(focus omega);(focus omega);rintro _ _ ⟨kd,q1,rfl,hkd,rfl,hq1,hq2⟩;dsimp only [zA,fA]) | (refine aI rfl rfl rfl (zJ ?_ (by (repeat (assumption));done) ?_ ?_) rfl ?_;(focus omega);(focus omega);(focus omega);rintro _ _ ⟨tx,q1,rfl,htx,rfl,hq1,hq2⟩;dsimp only [zA,fA]) | (refine aca rfl rfl rfl ((cx_chw _ _ _ _ _) oM) rfl ?_;rintro _ G1 _ hle ⟨pl,pc,ls,ok1,rfl,rfl,hln,hlc⟩;dsimp only [zA,fA];skip) | (refine aI rfl rfl rfl (cT ?_ (by (repeat (first | assumption | refine aP.mono ?_ aS));done)) rfl ?_;(focus omega);rintro _ _ ⟨k,rfl,rfl,hk0,hk1⟩;dsimp only [zA,fA]) | (refine aI rfl rfl rfl (wA ?_ (by (repeat (first | assumption | refine aP.mono ?_ aS));done) ?_) rfl ?_;(focus omega);(focus omega);rintro _ _ ⟨pth,q1,rfl,hpth,rfl,hq1,hq2⟩;dsimp only [zA,fA])) | refine er rfl (fun _=>?_) (fun _=>?_))
 ·rename_i b' c'
  have hrow : aj eM (ls ++ [(pth,xs)]) = aj eM ls ++ [S pth,S xs]:=bO eM ls _
  refine Nx.sealS (v:=.slice (some ⟨b',0,none⟩) (ls.length + 1) c') fun G2 hG2 hsl=>?_
  refine jZ (vs:=[_,_,_,_]) rfl ⟨rfl,rfl,rfl,rfl,trivial⟩ rfl ⟨(hle.trans hG2),rfl,?_⟩
  exact ⟨_,_,_,some ⟨b',0,none⟩,c',ls ++ [(pth,xs)],by rw [List.length_append];rfl,fun _=>by rw [List.length_append,hrow];exact hsl,⟨oM,oM,oM⟩,by rw [List.length_append];show ls.length + 1 ≤ 40;omega,fun x hx=>by
   rcases List.mem_append.1 hx with hx | hx
   ·exact hlc x hx
   ·rw [List.mem_singleton.1 hx]
    exact ⟨by dsimp only;omega,by dsimp only;omega⟩⟩
 ·refine Nx.sealS (v:=.slice pl ls.length pc) fun G2 hG2 hsl=>?_
  refine jZ (vs:=[_,_,_,_]) rfl ⟨rfl,rfl,rfl,rfl,trivial⟩ rfl ⟨(hle.trans hG2),rfl,?_⟩
  exact ⟨_,_,_,pl,pc,ls,rfl,fun _=>hsl,⟨oM,oM,oM⟩,oM,hlc⟩
section
variable {P : Program} {n : Nat} {D : List Deferred} {E : bN} {M : World → Prop} {d : Option Nat} {ty : TypeId} {pos : String} {aft : Array Edge} {gd : Option (Nat × Bool)}
theorem abL {T el : TypeId} {x lo : Operand} {desc' : TypeDesc} {size bytes size' bytes' : Nat} {zero zero' : Value} {k : IntKind} {m : Int} [TI P T (.slice el) size bytes zero] [TI P el desc' size' bytes' zero']
  (hx : ev E x = some (.slice none 0 0)) (hl : ev E lo = some (.int k m)) (h0 : m = 0) :
  Gives P n D E M ⟨d,.slice T x (some lo) none none,ty,pos,aft,gd⟩ (.slice none 0 0):=Gives.mk fun a w hs _=>by
 subst h0
 simp only [execOp,hs.ev hx,Option.map_some,Option.map_none,hs.ev hl,Instr.sliceAt,Instr.slice,Sem.run_bind,cr (desc:=.slice el) (size:=size) (bytes:=bytes) (zero:=zero),Result.andThen_ok,Instr.sliceBounds,Sem.run_pure,
  dL (P:=P) (m:=0) (y:=0) ⟨Int.le_refl _,Int.le_refl _⟩,dF (desc:=desc') (size:=size') (bytes:=bytes') (zero:=zero')]
 simp
end
section
variable {P : Program} {n : Nat} {D : List Deferred} {E : bN} {B : Base} {G : Gh} {L : List Own} {K : Act → World → Prop} {Q : Exit → Act → World → Prop} {ty : TypeId} {pos : String} {aft : Array Edge} {gd : Option (Nat × Bool)} {d : Nat}
theorem ab2 {T el : TypeId} {x lo : Operand} {desc' : TypeDesc} {size bytes size' bytes' : Nat} {zero zero' : Value} {k : IntKind} {m : Int} {p : Option Addr} {len cap : Nat} {xs : List Value} [TI P T (.slice el) size bytes zero] [TI P el desc' size' bytes' zero']
  (hx : ev E x = some (.slice p len cap)) (hl : ev E lo = some (.int k m)) (h0 : 0 ≤ m ∧ m ≤ len) (hs : aP G (.slice p len cap) size' len xs) (hlt : Nat.blt d n = true)
  (kk : ∀ p',aP G (.slice p' (len - m.toNat) (cap - m.toNat)) size' (len - m.toNat) (xs.drop (m.toNat * size')) → Nx n D ((d,.slice p' (len - m.toNat) (cap - m.toNat)) :: E) B G L K) :
  Nx n D E B G L (ow P ⟨some d,.slice T x (some lo) none none,ty,pos,aft,gd⟩ Q K):=by
 obtain ⟨h1,⟨h2,h3⟩ | ⟨b',o',cap',e,hc,hsg⟩⟩:=id hs
 ·simp only [Value.slice.injEq] at h2
  obtain ⟨rfl,rfl,rfl⟩:=h2
  obtain rfl : m = 0:=oM
  obtain rfl : xs = []:=List.length_eq_zero_iff.1 (by rw [h1];simp)
  exact i8 (abL hx hl rfl) rfl hlt (kk none ⟨by simp,.inl ⟨rfl,by simp⟩⟩)
 ·simp only [Value.slice.injEq] at e
  obtain ⟨rfl,-,rfl⟩:=e
  exact i8 (nz hx hl h0) rfl hlt (kk _ (hs.cutAt oM))
end
variable {G : Gh}
theorem zp {p : Option Addr} {c m : Nat} {l : List Ch} (h : aP G (.slice p (l.length - m) c) 2 (l.length - m) ((aj eM l).drop (m * 2))) : aP G (.slice p (l.drop m).length c) 2 (l.drop m).length (aj eM (l.drop m)):=by
 rw [List.length_drop,xz]
 exact h
theorem wX {p : Option Addr} {n c sz : Nat} {xs : List Value} (h : aP G (.slice p n c) sz n xs) : n ≤ c:=by
 obtain ⟨_,⟨e,_⟩ | ⟨b,o,c',e,hc,_⟩⟩:=h
 ·simp only [Value.slice.injEq] at e;omega
 ·simp only [Value.slice.injEq] at e;omega
theorem zm {s k w z : List UInt8} {l : List Ch} (h : gH s k w l = some z) (hw : w.length ≤ 1048576) : z.length ≤ 1048576:=by
 unfold gH at h
 split at h
 ·exact oJ oM hw h
 ·cases h
theorem rp {v : Value} {l : List UInt8} {v2 : Value} {l2 : List UInt8} (hs : aP G v 1 l.length (ck l)) (hs2 : aP G v2 1 l2.length (ck l2)) : a9 Tryz.prog 5 [v,v2] G (· = Bo true):=by
 obtain ⟨a,cap,rfl⟩:=hs.sl
 obtain ⟨a2,cap2,rfl⟩:=hs2.sl
 refine jB (Post:=fun v G' L'=>G' = G ∧ L' = [] ∧ _) [(0,_),(1,_)] Tryz.func5 Tryz.ntmps5 fun B hok hB hW=>?_
 repeat' (first | refine jR ?_ | (refine jo ?_;first | refine jV (af rfl) ?_ | refine aN rfl ?_ | refine aC rfl ?_ | (refine aq rfl rfl rfl (pO (by (repeat (assumption));done)) rfl ?_;rintro _ G hle ⟨s1,k1,x1,pl,pc,ls,rfl,hls,hsz,hln,hlm⟩;skip)) | refine eQ rfl rfl (fun _=>?_) (fun _=>?_) | refine ac rfl rfl ?_ | refine er rfl (fun _=>?_) (fun _=>?_))
 ·refine Nx.base hok hB ?_
  refine jY (vs:=[_]) ?_
  rfl
 ·refine Nx.base hok hB ?_
  refine jY (vs:=[_]) ?_
  rfl
 have hu:=hls trivial
 have hlc:=wO.all hlm
 have hlc':=fun (_ : True)=>hlc
 have cx_d1:=kw (G:=G) hsz hu oM hlc
 have cx_d2:=tr (G:=G) hsz hu oM hlc
 unfold k4 at cx_d1 cx_d2
 have hpc:=wX hu
 cases h : gH s1 k1 x1 ls with
 | none =>
  rw [h] at cx_d1 cx_d2
  simp only [Option.getD_none,Option.isSome_none] at cx_d1 cx_d2
  clear hu hlc
  repeat' (first | refine jR ?_ | (refine jo ?_;first | refine aN rfl ?_ | refine aC rfl ?_ | refine ae rfl rfl rfl cx_d1 rfl ?_ | refine ae rfl rfl rfl cx_d2 rfl ?_) | refine aH rfl rfl rfl ?_ | refine ar rfl rfl rfl ?_ | refine ac rfl rfl ?_)
  all_goals refine Nx.base hok hB ?_
  all_goals refine jY (vs:=[_]) ?_
  all_goals rfl
 | some z =>
  have hm0 : 0 ≤ (l2.length : Int) % ((ls.length : Int) + 1):=Int.emod_nonneg _ oM
  have hm1 : (l2.length : Int) % ((ls.length : Int) + 1) < (ls.length : Int) + 1:=Int.emod_lt_of_pos _ oM
  obtain ⟨y,g1,g2,g3,g4,g5⟩:=v9 ((l2.length : Int) % ((ls.length : Int) + 1)).toNat h
  have hyl:=oJ (m:=1048576) oM hsz.2.2 g5
  have hzl:=(zm h hsz.2.2)
  obtain ⟨sl1,e1⟩:=zq hu (m:=((l2.length : Int) % ((ls.length : Int) + 1)).toNat) oM
  have cx_d3:=kw (G:=G) hsz sl1 (by rw [e1];omega) (fun x hx=>hlc x (List.mem_of_mem_take hx))
  rw [g1] at cx_d3
  have cx_o1:=pM (G:=G) (s:=s1) (k:=k1) (w:=z) ⟨hsz.1,hsz.2.1,hzl⟩
  rw [g3] at cx_o1
  rw [h] at cx_d1 cx_d2
  unfold k4 at cx_d3
  simp only [Option.getD_some,Option.isSome_some] at cx_d1 cx_d2 cx_d3
  have hu':=fun (_ : True)=>hu
  clear hu sl1 hlc
  repeat' (first | refine jM ?_ | (refine jo ?_;first | refine jV (af rfl) ?_ | refine aN rfl ?_ | refine aC rfl ?_ | refine jV (pz rfl rfl oM) ?_ | refine ae rfl rfl rfl cx_d1 rfl ?_ | refine ae rfl rfl rfl cx_d3 rfl ?_ | refine ae rfl rfl rfl cx_d2 rfl ?_) | refine aH rfl rfl (ay rfl) ?_ | refine ar rfl rfl rfl ?_ | refine ad rfl rfl ?_)
  refine jo ?_
  refine ab2 rfl rfl ⟨oM,oM⟩ (hu' trivial) rfl ?_
  intro p' sl2
  have sl2:=zp sl2
  have cx_d4:=kw (G:=G) ⟨hsz.1,hsz.2.1,hyl⟩ sl2 (by rw [List.length_drop];omega) (fun x hx=>hlc' trivial x (List.mem_of_mem_drop hx))
  rw [g2,List.length_drop] at cx_d4
  unfold k4 at cx_d4
  simp only [Option.getD_some,Option.isSome_some] at cx_d4
  clear sl2
  repeat' (first | refine jR ?_ | (refine jo ?_;first | refine aN rfl ?_ | refine ae rfl rfl rfl cx_d4 rfl ?_ | refine ae rfl rfl rfl cx_o1 rfl ?_) | (refine aH rfl rfl (by first | rfl | (refine decide_eq_true ?_;(rfl))) ?_))
  all_goals refine Nx.base hok hB ?_
  all_goals refine jY (vs:=[_]) ?_
  all_goals (rfl)
end Go.E
