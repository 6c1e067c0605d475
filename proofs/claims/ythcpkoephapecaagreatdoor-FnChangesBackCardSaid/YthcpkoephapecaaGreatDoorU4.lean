/- Contracts and plain laws that the statement rests on, part 4. Conditions: as each says. -/
import Derived.Test.YthcpkoephapecaaGreatDoorU3
set_option linter.unusedVariables false
set_option linter.unusedSimpArgs false
namespace Go.E
set_option maxRecDepth 20000
set_option maxHeartbeats 2000000
open Go.Proofs
variable {G : Gh}
abbrev c8 : TypeId:=68
abbrev aaI : TypeId:=9
theorem bA {w : Nat} {x : adA} {t : Int} {ks : List V} : V.tot (.nd w x t ks) = 20 + x.length + V.tots ks:=by rw [V.tot]
theorem lG : ∀ (n : Nat) {v : V} {c : VC},v.tot ≤ n → v.tot ≤ 1000000 → V.rep G v c → a9 adz 56 [Ag (bJ c)] G (· = S v.out):=by
 intro n
 induction n with
 | zero=>intro v c h1 _ _;have:=hC v;omega
 | succ n ih =>
  intro v c h1 h2 h
  obtain ⟨w,x,t,ks⟩:=v
  rw [bA] at h1 h2
  obtain ⟨a,k,cs,rfl,hw,ht,h61,hcl,hsl,hks⟩:=eT h
  have hkl:=di ks
  have hol:=ku ks
  have hjl:=oS hks
  have hj2:=gv 44 (V.outs ks)
  rw [hol] at hj2
  simp only [bJ,VC.sl]
  refine jB (Post:=fun v G' L'=>G' = G ∧ L' = [] ∧ _) [(0,_)] Tryz.func56 Tryz.ntmps56 fun B hok hB hW=>?_
  repeat' (first | refine jR ?_ | (refine jo ?_;first | refine jO fun _=>?_ | refine aD rfl ?_ | refine jV (af rfl) ?_))
  rename_i bv
  refine Nx.addNil aaI 1 ?_
  refine aT (ι:=Nat × Value) (fun q=>q.1 ≤ ks.length) (fun q=>[(1,Pt bv 0),(2,S []),(3,q.2),(8,.slice a ks.length k),(9,I ks.length),(10,I q.1)]) (fun _=>G) (fun q=>[.acc q.2 aaI 1 q.1 (ak cn ((V.outs ks).take q.1)),.blk bv (.cells (List.toArray [U8 w,S x,I t,.slice a ks.length k]) c8 (0,0))]) (fun q=>ks.length - q.1) (0,aQ) ?_ tU rfl a7 (fun q Hq=>?_)
  ·exact Nat.zero_le _
  obtain ⟨i,pv⟩:=q
  dsimp only at Hq ⊢
  by_cases hi : i < ks.length
  ·have hti:=gB hi
   have cx_pr:=ih oM oM (gX hks i hi)
   obtain ⟨bf,of,cf,e,hs⟩:=hsl.expl oM
   simp only [Value.slice.injEq] at e
   obtain ⟨rfl,-,rfl⟩:=e
   repeat' (first | refine jM ?_ | (refine jo ?_;first | (refine jV (dt rfl rfl aS ?_) ?_;focus omega) | refine bM rfl ?_ | refine jV (ag rfl rfl oM) ?_ | refine jL fun _=>?_ | refine jC rfl rfl rfl ?_ | refine jF fun _=>?_ | refine bD rfl rfl rfl rfl rfl rfl rfl rfl rfl oM fun _ _=>?_ | refine ae rfl rfl rfl cx_pr rfl ?_) | refine ac rfl (ay oM) ?_)
   have e2 : ak cn ((V.outs ks).take i) ++ [S (ab ks i).out] = ak cn ((V.outs ks).take (i + 1)):=by rw [co oM,bR,l7 hi];rfl
   rw [e2]
   exact bh (i + 1,_) (by dsimp only;omega) (by dsimp only;omega) tU rfl sB
  ·have hin : i = ks.length:=oM
   subst hin
   refine Nx.sealA .here fun G1 hG1 hsP=>?_
   rw [← hol,List.take_length] at hsP
   have cx_join:=abY (c:=44) hsP oM
   have hd:=gJ ht.2
   have hE : ks.isEmpty = decide (ks.length = 0):=by cases ks <;> simp
   repeat' (first | refine jX ?_ | (refine jo ?_;first | refine aD rfl ?_ | refine jV (af rfl) ?_ | refine ae rfl rfl rfl cx_join rfl ?_ | refine ae rfl rfl rfl (jP oM) rfl ?_) | refine ad rfl (aG oM) ?_ | refine eD rfl (fun _=>?_) (fun _=>?_))
   all_goals refine Nx.base hok hB ?_
   all_goals refine jY (vs:=[_]) ?_
   all_goals (rw [aP,V.out,hE];unfold cW;simp only [decide_eq_true_eq];repeat (first | rw [if_pos oM] | rw [if_neg oM]))
   all_goals (first | rfl | (simp;done))
theorem wO {x : adA} {t : Int} {u : V} : V.deep (.nd 61 x t [u]) = u.deep:=by rw [V.deep,if_pos rfl,V.deeps,V.deeps,Nat.max_zero]
theorem pX (v : V) : ∀ (ks : List V),V.deeps (ks ++ [v]) = max (V.deeps ks) v.deep
 | []=>by simp [V.deeps]
 | u :: r=>by simp only [List.cons_append,V.deeps,pX v r];omega
mutual
theorem o3 : ∀ v : V,v.deep ≤ v.tot
 | .nd w x t ks=>by
  have:=nz ks
  rw [V.deep,V.tot];split <;> omega
theorem nz : ∀ ks : List V,V.deeps ks ≤ V.tots ks
 | []=>by simp [V.deeps]
 | v :: r=>by
  have:=o3 v
  have:=nz r
  rw [V.deeps,V.tots];omega
end
theorem xg : ∀ (n : Nat) {v : V} {c : VC},v.tot ≤ n → v.tot ≤ 1000000 → V.rep G v c → a9 adz 93 [Ag (bJ c)] G (· = I (v.deep : Nat)):=by
 intro n
 induction n with
 | zero=>intro v c h1 _ _;have:=hC v;omega
 | succ n ih =>
  intro v c h1 h2 h
  obtain ⟨w,x,t,ks⟩:=v
  rw [bA] at h1 h2
  obtain ⟨a,k,cs,rfl,hw,ht,h61,hcl,hsl,hks⟩:=eT h
  have hkl:=di ks
  simp only [bJ,VC.sl]
  by_cases hq : w = 61
  ·have hk1:=h61 hq
   have hti:=gB (ks:=ks) (i:=0) oM
   have cx_dp:=ih oM oM (gX hks 0 oM)
   obtain ⟨bf,of,cf,e,hs⟩:=hsl.expl oM
   simp only [Value.slice.injEq] at e
   obtain ⟨rfl,-,rfl⟩:=e
   refine jE [(0,_)] Tryz.func93 Tryz.ntmps93 fun B hB=>?_
   repeat' (first | refine jR ?_ | (refine jo ?_;first | refine jO fun _=>?_ | refine aD rfl ?_ | (refine jV (dt rfl rfl aS ?_) ?_;focus omega) | refine jV (aN rfl rfl oM) ?_ | refine ae rfl rfl rfl cx_dp rfl ?_) | refine ac rfl (ay oM) ?_)
   refine jY (vs:=[_]) ?_
   rw [aP]
   obtain ⟨u,rfl⟩:=List.length_eq_one_iff.1 hk1
   subst hq
   rw [wO];rfl
  ·rw [d8 hq]
   refine jE [(0,_)] Tryz.func93 Tryz.ntmps93 fun B hB=>?_
   repeat' (first | refine jR ?_ | (refine jo ?_;first | refine jO fun _=>?_ | refine aD rfl ?_ | refine jV (af rfl) ?_) | refine ad rfl (aG oM) ?_)
   rename_i bv
   refine Nx.re (d:=3) (v':=I (V.deeps (ks.take 0) : Nat)) rfl rfl ?_
   refine aT (ι:=Nat) (fun i=>i ≤ ks.length) (fun i=>[(3,I (V.deeps (ks.take i) : Nat)),(15,.slice a ks.length k),(16,I ks.length),(17,I i)]) (fun _=>G) (fun i=>[]) (fun i=>ks.length - i) 0 ?_ tU rfl (by repeat (exact List.nil_sublist _)) (fun i Hi=>?_)
   ·exact Nat.zero_le _
   by_cases hi : i < ks.length
   ·have hti:=gB hi
    have cx_dp:=ih oM oM (gX hks i hi)
    obtain ⟨bf,of,cf,e,hs⟩:=hsl.expl oM
    simp only [Value.slice.injEq] at e
    obtain ⟨rfl,-,rfl⟩:=e
    repeat' (first | refine jM ?_ | (refine jo ?_;first | (refine jV (dt rfl rfl aS ?_) ?_;focus omega) | refine bM rfl ?_ | refine jV (ag rfl rfl oM) ?_ | refine jL fun _=>?_ | refine jC rfl rfl rfl ?_ | refine jV (acu rfl rfl) ?_ | refine ae rfl rfl rfl cx_dp rfl ?_) | refine ac rfl (ay oM) ?_)
    refine Nx.re (d:=3) (v':=I (V.deeps (ks.take (i + 1)) : Nat)) rfl (congrArg (Value.int .i64) (by rw [co hi,pX];omega)) ?_
    exact bh (i + 1) oM oM tU rfl (by repeat (exact List.nil_sublist _))
   ·have hin : i = ks.length:=oM
    subst hin
    rw [List.take_length]
    have hdt:=nz ks
    repeat' (first | refine jM ?_ | refine ad rfl (aG oM) ?_)
    refine jY (vs:=[_]) ?_
    rw [aP];congr 1
theorem fg : ∀ (ks : List V) (i : Nat),V.tots (ks.take i) ≤ V.tots ks
 | [],i=>by simp
 | u :: r,0=>by simp [V.tots]
 | u :: r,i + 1=>by have:=fg r i;simp only [List.take_succ_cons,V.tots];omega
abbrev adh : TypeId:=146
theorem tX {s p : adA} (hs : s.length ≤ 1000000 ∧ p.length ≤ 1000000) : a9 adz 168 [S s,S p] G (· = Tu [S (if p.isPrefixOf s = true then s.drop p.length else s),Bo (p.isPrefixOf s)]):=by
 have cx_hp : a9 adz 115 [S s,S p] G (· = Bo (p.isPrefixOf s)):=iD
 cases hp : p.isPrefixOf s with
 | false =>
  rw [hp] at cx_hp
  refine jE [(0,_),(1,_)] Tryz.func168 Tryz.ntmps168 fun B hB=>?_
  repeat' (first | refine jR ?_ | (refine jo ?_;refine ae rfl rfl rfl iD rfl ?_) | (refine ac rfl ?_ ?_;(focus ((simp [*];done);done))))
  refine jY (vs:=[_,_]) ?_
  rfl
 | true =>
  rw [hp] at cx_hp
  have hl : p.length ≤ s.length:=by
   have:=List.isPrefixOf_iff_prefix.1 hp
   exact this.length_le
  refine jE [(0,_),(1,_)] Tryz.func168 Tryz.ntmps168 fun B hB=>?_
  repeat' (first | refine jM ?_ | (refine jo ?_;refine ae rfl rfl rfl iD rfl ?_) | (refine ad rfl ?_ ?_;(focus ((simp [*];done);done))))
  refine jY (vs:=[_,_]) ?_
  rfl
theorem un {s p : adA} (hs : s.length ≤ 1000000 ∧ p.length ≤ 1000000) : a9 adz 148 [S s,S p] G (· = Tu [S (if p.isPrefixOf s = true then s.drop p.length else s),Bo (p.isPrefixOf s)]):=by
 have cx_cp:=tX (G:=G) hs
 refine jE [(0,_),(1,_)] Tryz.func148 Tryz.ntmps148 fun B hB=>?_
 repeat' (first | refine jR ?_ | (refine jo ?_;refine ae rfl rfl rfl cx_cp rfl ?_))
 refine jY (vs:=[_,_]) ?_
 rfl
def c9 (l s : adA) (b : Bool) : Bool:=!b && l.isPrefixOf s
def eB (l s : adA) (b : Bool) : adA:=if c9 l s b = true then s.drop l.length else s
abbrev eG (r sc : Nat) (s : adA) (b : Bool) : Own:=.blk r (.cells (List.toArray [Pt sc 0,S s,Bo b]) adh (0,0))
theorem iB {r sc : Nat} {s l : adA} {b : Bool} (hs : s.length ≤ 1000000 ∧ l.length ≤ 1000000) : dF adz 126 [Pt r 0,S l] G [eG r sc s b] (fun v L'=>v = Bo (c9 l s b) ∧ L' = [eG r sc (eB l s b) b]):=by
 have cx_cp:=un (G:=G) hs
 unfold eB c9
 cases hp : l.isPrefixOf s with
 | false =>
  rw [hp] at cx_cp
  refine jH [(0,_),(1,_)] Tryz.func126 Tryz.ntmps126 fun B hB hW=>?_
  repeat' (first | refine jR ?_ | (refine jo ?_;first | refine aD rfl ?_ | refine aC rfl ?_ | refine ae rfl rfl rfl cx_cp rfl ?_) | refine ar rfl rfl rfl ?_ | refine ad rfl rfl ?_)
  exact aW (vs:=[_]) rfl ⟨rfl,trivial⟩ rfl (List.Sublist.refl _) ⟨rfl,by cases b <;> rfl,by cases b <;> rfl⟩
 | true =>
  rw [hp] at cx_cp
  cases b with
  | true =>
   refine jH [(0,_),(1,_)] Tryz.func126 Tryz.ntmps126 fun B hB hW=>?_
   repeat' (first | refine jR ?_ | (refine jo ?_;first | refine aD rfl ?_ | refine aM rfl ?_ | refine ae rfl rfl rfl cx_cp rfl ?_) | refine aF rfl rfl rfl ?_ | refine ad rfl rfl ?_)
   exact aW (vs:=[_]) rfl ⟨rfl,trivial⟩ rfl (List.Sublist.refl _) ⟨rfl,rfl,rfl⟩
  | false =>
   refine jH [(0,_),(1,_)] Tryz.func126 Tryz.ntmps126 fun B hB hW=>?_
   repeat' (first | refine jR ?_ | (refine jo ?_;first | refine aD rfl ?_ | refine aM rfl ?_ | refine jD rfl rfl rfl ?_ | refine ae rfl rfl rfl cx_cp rfl ?_) | refine aF rfl rfl rfl ?_ | refine ac rfl rfl ?_)
   exact aW (vs:=[_]) rfl ⟨rfl,trivial⟩ rfl (List.Sublist.refl _) ⟨rfl,rfl,rfl⟩
theorem dU {r sc : Nat} {s l : adA} {b : Bool} (hs : s.length ≤ 1000000 ∧ l.length ≤ 1000000) : dF adz 127 [Pt r 0,S l] G [eG r sc s b] (fun v L'=>L' = [eG r sc (eB l s b) (!c9 l s b)]):=by
 have cx_tk:=iB (G:=G) (r:=r) (sc:=sc) (b:=b) hs
 cases ht : c9 l s b with
 | false =>
  rw [ht] at cx_tk
  refine jH [(0,_),(1,_)] Tryz.func127 Tryz.ntmps127 fun B hB hW=>?_
  repeat' (first | refine jR ?_ | (refine jo ?_;first | refine jD rfl rfl rfl ?_ | (refine aI rfl rfl rfl cx_tk rfl ?_;rintro _ _ ⟨rfl,rfl⟩;dsimp only [zA,fA])) | refine ac rfl rfl ?_)
  exact kz (vs:=[]) rfl trivial rfl (List.Sublist.refl _) ⟨rfl,rfl⟩
 | true =>
  have hb : b = false:=by unfold c9 at ht;cases b <;> simp_all
  subst hb
  rw [ht] at cx_tk
  refine jH [(0,_),(1,_)] Tryz.func127 Tryz.ntmps127 fun B hB hW=>?_
  repeat' (first | refine jR ?_ | (refine jo ?_;(refine aI rfl rfl rfl cx_tk rfl ?_;rintro _ _ ⟨rfl,rfl⟩;dsimp only [zA,fA])) | refine ad rfl rfl ?_)
  exact kz (vs:=[]) rfl trivial rfl (List.Sublist.refl _) ⟨rfl,rfl⟩
theorem lO {p : Nat → Bool} {q : UInt8 → Bool} (h : ∀ c : UInt8,p c.toNat = q c) : ∀ s : adA,dL p s = s.dropWhile q
 | []=>rfl
 | c :: r=>by
  rw [dL,h c,List.dropWhile_cons]
  cases q c with
  | true=>simp only [if_true];exact lO h r
  | false=>simp
theorem abA : ∀ c : UInt8,fQ [48,49,50,51,52,53,54,55,56,57] c.toNat = bn c:=by
 intro c
 have : ∀ n : Nat,n < 256 → fQ [48,49,50,51,52,53,54,55,56,57] n = decide (48 ≤ n ∧ n ≤ 57):=by decide +kernel
 exact this _ c.toNat_lt
def txB : adA:=[97,98,99,100,101,102,103,104,105,106,107,108,109,110,111,112,113,114,115,116,117,118,119,120,121,122,48,49,50,51,52,53,54,55,56,57,32]
def dk (c : UInt8) : Bool:=decide (jq c.toNat)
theorem aaG : ∀ c : UInt8,fQ txB c.toNat = dk c:=by
 intro c
 have : ∀ n : Nat,n < 256 → fQ txB n = decide (jq n):=by decide +kernel
 exact this _ c.toNat_lt
theorem kJ (q : UInt8 → Bool) (s : adA) : s.take (s.length - (s.dropWhile q).length) = s.takeWhile q:=by
 have h:=List.takeWhile_append_dropWhile (p:=q) (l:=s)
 have hl : (s.takeWhile q).length + (s.dropWhile q).length = s.length:=by
  have:=congrArg List.length h
  rwa [List.length_append] at this
 have e : s.length - (s.dropWhile q).length = (s.takeWhile q).length:=oM
 rw [e]
 have h2 : (s.takeWhile q ++ s.dropWhile q).take (s.takeWhile q).length = s.takeWhile q:=List.take_left
 rwa [h] at h2
theorem eA (q : UInt8 → Bool) (s : adA) : (s.takeWhile q).length + (s.dropWhile q).length = s.length:=by
 have h:=List.takeWhile_append_dropWhile (p:=q) (l:=s)
 have:=congrArg List.length h
 rwa [List.length_append] at this
theorem qr (x : adA) : dW (39 :: (x ++ [39])) = true ↔ x.length ≤ 12 ∧ ∀ c ∈ x,dk c = true:=by
 unfold dW
 rw [decide_eq_true_eq]
 unfold TxP
 have e0 : bt (39 :: (x ++ [39])) 0 = 39:=bj _ _
 have e1 : (39 :: (x ++ [39]) : adA).length = x.length + 2:=by simp
 have e2 : bt (39 :: (x ++ [39])) (x.length + 1) = 39:=by
  rw [er];simp [bt]
 have e3 : ∀ i,i < x.length → bt (39 :: (x ++ [39])) (i + 1) = bt x i:=fun i hi=>by
  rw [er];simp [bt,List.getD,List.getElem?_append_left hi]
 rw [e1,show x.length + 2 - 1 = x.length + 1 by omega]
 constructor
 ·rintro ⟨⟨_,h1⟩,_,_,h2⟩
  refine ⟨oM,fun c hc=>?_⟩
  obtain ⟨i,hi,rfl⟩:=List.mem_iff_getElem.1 hc
  have:=h2 (i + 1) oM
  rw [e3 i hi] at this
  have h3 : bt x i = (x[i]).toNat:=by simp [bt,List.getD,List.getElem?_eq_getElem hi]
  rw [h3] at this
  unfold dk
  rw [decide_eq_true_eq]
  rcases this with h | h
  ·omega
  ·exact h
 ·rintro ⟨h1,h2⟩
  refine ⟨⟨oM,oM⟩,e0,e2,fun i hi=>?_⟩
  cases i with
  | zero=>exact .inl rfl
  | succ i =>
   have hi' : i < x.length:=oM
   rw [e3 i hi']
   have h3 : bt x i = (x[i]).toNat:=by simp [bt,List.getD,List.getElem?_eq_getElem hi']
   rw [h3]
   have:=h2 _ (List.getElem_mem hi')
   unfold dk at this
   rw [decide_eq_true_eq] at this
   exact .inr this
theorem aa2 {c : UInt8} (h : c.toNat = 39) : dk c = false:=by
 have : c = 39:=UInt8.toNat_inj.1 h
 subst this;decide
theorem wu (s : adA) : dJ s = match s with
  | []=>none
  | c :: r=>if c.toNat = 39 then (match r.dropWhile dk with
   | []=>none
   | d :: t=>if d.toNat = 39 ∧ (r.takeWhile dk).length ≤ 12 then some (.nd 116 (r.takeWhile dk) 0 [],t) else none) else none:=by
 cases s with
 | nil=>rfl
 | cons c r =>
  unfold dJ
  dsimp only
  by_cases hc : c.toNat = 39
  ·rw [if_pos hc,if_pos hc]
   have hcut : ∀ r : adA,aH 39 r = match r.dropWhile dk with
    | []=>(r,[],false)
    | d :: t=>if d.toNat = 39 then (r.takeWhile dk,t,true) else (r.takeWhile dk ++ (aH 39 (d :: t)).1,(aH 39 (d :: t)).2):=by
    intro r
    induction r with
    | nil=>rfl
    | cons x r ih =>
     rw [List.dropWhile_cons,List.takeWhile_cons]
     by_cases hx : dk x = true
     ·rw [if_pos hx,if_pos hx]
      have h39 : ¬ x.toNat = 39:=fun h=>by rw [aa2 h] at hx;cases hx
      rw [aH,if_neg h39,ih]
      cases hd : r.dropWhile dk with
      | nil=>rfl
      | cons d t =>
       dsimp only
       split
       ·rfl
       ·rfl
     ·rw [if_neg hx,if_neg hx]
      dsimp only
      split
      ·rename_i h39;rw [aH,if_pos h39]
      ·simp
   rw [hcut]
   cases hd : r.dropWhile dk with
   | nil=>rfl
   | cons d t =>
    dsimp only
    by_cases h39 : d.toNat = 39
    ·rw [if_pos h39]
     dsimp only
     by_cases h12 : (r.takeWhile dk).length ≤ 12
     ·rw [if_pos ((qr _).2 ⟨h12,fun c hc=>List.all_eq_true.1 (List.all_takeWhile (l:=r) (p:=dk)) c hc⟩),if_pos ⟨h39,h12⟩]
     ·rw [if_neg (fun h=>h12 ((qr _).1 h).1),if_neg (fun h=>h12 h.2)]
    ·rw [if_neg h39,if_neg (fun h=>h39 h.1)]
     cases hcc : aH 39 (d :: t) with
     | mk a b =>
      obtain ⟨b,f⟩:=b
      cases f with
      | false=>rfl
      | true =>
       dsimp only
       rw [if_neg]
       intro h
       have hall:=((qr _).1 h).2
       have hdx : dk d = false:=by
        have:=List.head_dropWhile_not (p:=dk) (l:=r) (by rw [hd];simp)
        simpa [hd] using this
       have ha : d ∈ a:=by
        rw [aH,if_neg h39] at hcc
        simp only [Prod.mk.injEq] at hcc
        rw [← hcc.1];simp
       have:=hall d (List.mem_append_right _ ha)
       rw [hdx] at this;cases this
  ·rw [if_neg hc,if_neg hc]
theorem mB {r sc : Nat} {s : adA} {b : Bool} {top : Int} (hs : s.length ≤ 1000000) : dF adz 128 [Pt r 0,I top] G [eG r sc s b]
  (fun v L'=>∃ n,v = I n ∧ (0 ≤ n ∧ n ≤ 999999) ∧ (∀ m,aK (s.takeWhile bn) top = some m → n = m) ∧ L' = [eG r sc (s.dropWhile bn) (b || (aK (s.takeWhile bn) top).isNone)]):=by
 have hwl:=eA bn s
 have cx_tl : a9 adz 138 [S s,S [48,49,50,51,52,53,54,55,56,57]] G (· = S (s.dropWhile bn)):=by
  rw [← lO abA]
  exact mF rfl kR rfl
 have e1 : s.take (((s.length : Nat) : Int) - (((s.dropWhile bn).length : Nat) : Int)).toNat = s.takeWhile bn:=by
  rw [← kJ];congr 1;omega
 have cx_pnB:=lH (G:=G) (s:=s.takeWhile bn) (top:=top) oM
 rw [← e1] at cx_pnB
 cases hnum2 : (aK (s.takeWhile bn) top) with
 | none =>
  rw [← e1] at hnum2
  have hno : (!(aK (s.take (((s.length : Nat) : Int) - (((s.dropWhile bn).length : Nat) : Int)).toNat) top).isSome) = true:=by rw [hnum2];rfl
  refine jH [(0,_),(1,_)] Tryz.func128 Tryz.ntmps128 fun B hB hW=>?_
  repeat' (first | refine jR ?_ | (refine jo ?_;first | refine aD rfl ?_ | refine jD rfl rfl rfl ?_ | refine ae rfl rfl rfl cx_tl rfl ?_) | refine ac rfl ‹_› ?_ | (refine am (ao (id:=2) _ (fun _ h=>h) al ?_);refine jT 11 [0,1,2,4,5,6,9,10,13] (aa 20 9847) ?_;(refine jG (aa 20 9855) 3 rfl (aX rfl rfl rfl) ?_);(refine jG (aa 20 9983) 7 rfl (aX rfl rfl rfl) ?_);refine jW 6 [8,11,12] (aa 20 16383) ?_;refine jA 14 rfl ?_;(refine eF rfl rfl rfl cx_pnB rfl ?_;rintro _ ⟨n,rfl,hnum,hn0,hn1⟩);refine jS (aa 20 32767) ?_;refine jT 0 [15,16,17,18,19] (aa 20 1048575) ?_;refine jQ ?_))
  exact aW (vs:=[_]) rfl ⟨rfl,trivial⟩ rfl (List.Sublist.refl _) ⟨rfl,_,rfl,⟨hn0,hn1⟩,fun m hm=>(by cases hm),by simp⟩
 | some m =>
  rw [← e1] at hnum2
  have hno : (!(aK (s.take (((s.length : Nat) : Int) - (((s.dropWhile bn).length : Nat) : Int)).toNat) top).isSome) = false:=by rw [hnum2];rfl
  refine jH [(0,_),(1,_)] Tryz.func128 Tryz.ntmps128 fun B hB hW=>?_
  repeat' (first | refine jR ?_ | (refine jo ?_;first | refine aD rfl ?_ | refine jD rfl rfl rfl ?_ | refine ae rfl rfl rfl cx_tl rfl ?_) | refine ad rfl ‹_› ?_ | (refine am (ao (id:=2) _ (fun _ h=>h) al ?_);refine jT 11 [0,1,2,4,5,6,9,10,13] (aa 20 9847) ?_;(refine jG (aa 20 9855) 3 rfl (aX rfl rfl rfl) ?_);(refine jG (aa 20 9983) 7 rfl (aX rfl rfl rfl) ?_);refine jW 6 [8,11,12] (aa 20 16383) ?_;refine jA 14 rfl ?_;(refine eF rfl rfl rfl cx_pnB rfl ?_;rintro _ ⟨n,rfl,hnum,hn0,hn1⟩);refine jS (aa 20 32767) ?_;refine jT 0 [15,16,17,18,19] (aa 20 1048575) ?_;refine jQ ?_))
  exact aW (vs:=[_]) rfl ⟨rfl,trivial⟩ rfl (List.Sublist.refl _) ⟨rfl,_,rfl,⟨hn0,hn1⟩,fun m' hm=>hnum m' (by rw [hnum2];exact hm),by simp⟩
theorem ke {l s : adA} {b : Bool} : (eB l s b).length ≤ s.length:=by unfold eB;split <;> simp
theorem f5 {c : UInt8} {s : adA} : c9 [c] s false = true ↔ ∃ r,s = c :: r:=by
 cases s with
 | nil =>
  constructor
  ·intro h;simp [c9,List.isPrefixOf] at h
  ·rintro ⟨r,h⟩;cases h
 | cons d r =>
  constructor
  ·intro h
   have : c = d:=by simpa [c9,List.isPrefixOf] using h
   exact ⟨r,by rw [this]⟩
  ·rintro ⟨r',h⟩
   simp only [List.cons.injEq] at h
   simp [c9,List.isPrefixOf,h.1]
theorem gL {c : UInt8} {r : adA} : eB [c] (c :: r) false = r:=by unfold eB;rw [if_pos (f5.2 ⟨r,rfl⟩)];rfl
theorem hJ {l s : adA} : c9 l s true = false:=by simp [c9]
theorem jm {l s : adA} : eB l s true = s:=by simp [eB,hJ]
theorem gV {l s : adA} {b : Bool} (h : c9 l s b = false) : eB l s b = s:=by simp [eB,h]
def QuP (s : adA) (b : Bool) (x s' : adA) (b' : Bool) : Prop :=
 x.length + s'.length ≤ s.length ∧ (b' = false → b = false ∧ dJ s = some (.nd 116 x 0 [],s')) ∧ (b' = true → b = true ∨ dJ s = none)
theorem aaX (s : adA) (b : Bool) : QuP s b ((eB [39] s b).takeWhile dk) (eB [39] ((eB [39] s b).dropWhile dk) (!c9 [39] s b)) (!c9 [39] ((eB [39] s b).dropWhile dk) (!c9 [39] s b) || decide (12 < ((eB [39] s b).takeWhile dk).length)):=by
 have hl : ((eB [39] s b).takeWhile dk).length + (eB [39] ((eB [39] s b).dropWhile dk) (!c9 [39] s b)).length ≤ s.length:=by
  have h1:=ke (l:=[39]) (s:=s) (b:=b)
  have h2:=eA dk (eB [39] s b)
  have h3:=ke (l:=[39]) (s:=(eB [39] s b).dropWhile dk) (b:=!c9 [39] s b)
  omega
 refine ⟨hl,?_⟩
 rw [wu]
 cases b with
 | true=>rw [jm,hJ];simp [hJ]
 | false =>
  cases ht : c9 [39] s false with
  | false =>
   simp only [Bool.not_false,hJ,Bool.true_or]
   refine ⟨fun h=>(by cases h),fun _=>.inr ?_⟩
   cases s with
   | nil=>rfl
   | cons c r =>
    dsimp only
    rw [if_neg]
    intro hc
    have : c9 [39] (c :: r) false = true:=f5.2 ⟨r,by rw [show c = 39 from UInt8.toNat_inj.1 hc]⟩
    rw [this] at ht;cases ht
  | true =>
   obtain ⟨r,rfl⟩:=f5.1 ht
   rw [gL]
   dsimp only
   rw [if_pos (show (39 : UInt8).toNat = 39 from rfl),Bool.not_true]
   cases ht2 : c9 [39] (r.dropWhile dk) false with
   | false =>
    simp only [Bool.not_false,Bool.true_or]
    refine ⟨fun h=>(by cases h),fun _=>.inr ?_⟩
    cases hd : r.dropWhile dk with
    | nil=>rfl
    | cons d t =>
     dsimp only
     rw [if_neg]
     rintro ⟨hc,_⟩
     have : c9 [39] (r.dropWhile dk) false = true:=f5.2 ⟨t,by rw [hd,show d = 39 from UInt8.toNat_inj.1 hc]⟩
     rw [this] at ht2;cases ht2
   | true =>
    obtain ⟨t,hd⟩:=f5.1 ht2
    rw [hd,gL]
    dsimp only
    by_cases h12 : 12 < (r.takeWhile dk).length
    ·rw [decide_eq_true h12,if_neg (fun h=>by omega)]
     exact ⟨fun h=>(by cases h),fun _=>.inr rfl⟩
    ·rw [decide_eq_false h12,if_pos ⟨rfl,oM⟩]
     exact ⟨fun _=>⟨rfl,rfl⟩,fun h=>(by cases h)⟩
theorem aak {r sc : Nat} {s : adA} {b : Bool} (hs : s.length ≤ 1000000) : dF adz 129 [Pt r 0] G [eG r sc s b]
  (fun v L'=>∃ x s' b',v = S x ∧ QuP s b x s' b' ∧ L' = [eG r sc s' b']):=by
 have hq:=aaX s b
 have h1:=ke (l:=[39]) (s:=s) (b:=b)
 have h2:=eA dk (eB [39] s b)
 have h3:=ke (l:=[39]) (s:=(eB [39] s b).dropWhile dk) (b:=!c9 [39] s b)
 have cx_wa:=dU (G:=G) (r:=r) (sc:=sc) (s:=s) (l:=[39]) (b:=b) ⟨hs,by simp⟩
 have cx_wb:=dU (G:=G) (r:=r) (sc:=sc) (s:=(eB [39] s b).dropWhile dk) (l:=[39]) (b:=!c9 [39] s b) ⟨oM,by simp⟩
 have cx_tl : a9 adz 138 [S (eB [39] s b),S [97,98,99,100,101,102,103,104,105,106,107,108,109,110,111,112,113,114,115,116,117,118,119,120,121,122,48,49,50,51,52,53,54,55,56,57,32]] G (· = S ((eB [39] s b).dropWhile dk)):=by
  rw [← lO aaG]
  exact mF rfl kR rfl
 have e1 : (eB [39] s b).take ((((eB [39] s b).length : Nat) : Int) - ((((eB [39] s b).dropWhile dk).length : Nat) : Int)).toNat = (eB [39] s b).takeWhile dk:=by
  rw [← kJ];congr 1;omega
 by_cases h12 : 12 < ((eB [39] s b).takeWhile dk).length
 ·rw [decide_eq_true h12,Bool.or_true] at hq
  rw [← e1] at h12
  refine jH [(0,_)] Tryz.func129 Tryz.ntmps129 fun B hB hW=>?_
  repeat' (first | refine jR ?_ | (refine jo ?_;first | refine aD rfl ?_ | refine jD rfl rfl rfl ?_ | (refine aI rfl rfl rfl cx_wa rfl ?_;rintro _ _ rfl;dsimp only [zA,fA]) | (refine aI rfl rfl rfl cx_wb rfl ?_;rintro _ _ rfl;dsimp only [zA,fA]) | refine ae rfl rfl rfl cx_tl rfl ?_) | refine ac rfl (ay oM) ?_ | (refine am (ao (id:=3) _ (fun _ h=>h) al ?_);refine jT 6 [0,1,2,4,5,6,9,10] (aa 14 1655) ?_;(refine jG (aa 14 1663) 3 rfl (aX rfl rfl rfl) ?_);(refine jG (aa 14 1791) 7 rfl (aX rfl rfl rfl) ?_);refine jW 0 [8,11,12,13] (aa 14 16383) ?_;refine jQ ?_))
  all_goals exact aW (vs:=[_]) rfl ⟨rfl,trivial⟩ rfl (List.Sublist.refl _) ⟨rfl,_,_,_,rfl,by rw [e1];exact hq,rfl⟩
 ·rw [decide_eq_false h12,Bool.or_false] at hq
  rw [← e1] at h12
  refine jH [(0,_)] Tryz.func129 Tryz.ntmps129 fun B hB hW=>?_
  repeat' (first | refine jR ?_ | (refine jo ?_;first | refine aD rfl ?_ | refine jD rfl rfl rfl ?_ | (refine aI rfl rfl rfl cx_wa rfl ?_;rintro _ _ rfl;dsimp only [zA,fA]) | (refine aI rfl rfl rfl cx_wb rfl ?_;rintro _ _ rfl;dsimp only [zA,fA]) | refine ae rfl rfl rfl cx_tl rfl ?_) | refine ad rfl (aG oM) ?_ | (refine am (ao (id:=3) _ (fun _ h=>h) al ?_);refine jT 6 [0,1,2,4,5,6,9,10] (aa 14 1655) ?_;(refine jG (aa 14 1663) 3 rfl (aX rfl rfl rfl) ?_);(refine jG (aa 14 1791) 7 rfl (aX rfl rfl rfl) ?_);refine jW 0 [8,11,12,13] (aa 14 16383) ?_;refine jQ ?_))
  all_goals exact aW (vs:=[_]) rfl ⟨rfl,trivial⟩ rfl (List.Sublist.refl _) ⟨rfl,_,_,_,rfl,by rw [e1];exact hq,rfl⟩
def RdP (f : adA → Option (V × adA)) (s : adA) (b : Bool) (u : V) (s' : adA) (b' : Bool) : Prop :=
 s'.length ≤ s.length ∧ (b' = false → b = false ∧ f s = some (u,s')) ∧ (b' = true → (b = true ∨ f s = none) ∧ u.tot + 100 * s'.length ≤ 100 * s.length + 100)
def iT (f : adA → Option (V × adA)) (r sc : Nat) (s : adA) (b : Bool) (v : Value) (G' : Gh) (L' : List Own) : Prop :=
 ∃ u c s' b',v = Ag (bJ c) ∧ V.rep G' u c ∧ L' = [eG r sc s' b'] ∧ RdP f s b u s' b'
def nK (n sc : Nat) (qs : List dp) : Prop:=∀ (G : Gh) (r : Nat) (k s : adA) (b : Bool),ScI G sc qs → aB (aq qs) k = true → s.length < n → s.length ≤ 1000 →
 fK adz 92 [Pt r 0,Ag (c5 k)] G [eG r sc s b] (iT (rd (aq qs) n k) r sc s b)
def fM (f : adA → Option (V × adA)) : adA → Option (V × adA)
 | []=>none
 | d :: s'=>if d.toNat = 91 then (match s' with
   | []=>none
   | e :: r=>if e.toNat = 93 then some (.nd 91 [] 0 [],r) else (bK f 20 s' []).map fun x=>(.nd 91 [] 0 x.1,x.2)) else none
theorem m6 {f : adA → Option (V × adA)} (hf : ∀ s x,f s = some x → x.2.length < s.length) : ∀ (m M : Nat) (s : adA) (acc : List V),s.length < M →
  bK f m s acc = match bK f M s acc with
   | none=>none
   | some x=>if x.1.length ≤ acc.length + m then some x else none
 | 0,M,s,acc,hM=>by
  cases hr : bK f M s acc with
  | none=>rfl
  | some x =>
   have : acc.length + 1 ≤ x.1.length:=by
    clear hM
    induction M generalizing s acc with
    | zero=>cases hr
    | succ M ih =>
     unfold bK at hr
     cases hfs : f s with
     | none=>rw [hfs] at hr;cases hr
     | some y =>
      rw [hfs] at hr
      obtain ⟨v,r⟩:=y
      cases r with
      | nil=>cases hr
      | cons c r =>
       dsimp only at hr
       split at hr
       ·have:=ih _ _ hr;simp at this;omega
       ·split at hr
        ·simp only [Option.some.injEq] at hr;subst hr;simp
        ·cases hr
   dsimp only
   rw [if_neg oM];rfl
 | m + 1,0,s,acc,hM=>by omega
 | m + 1,M + 1,s,acc,hM=>by
  rw [bK,bK]
  cases hfs : f s with
  | none=>rfl
  | some y =>
   have hlt:=hf _ _ hfs
   obtain ⟨v,r⟩:=y
   cases r with
   | nil=>rfl
   | cons c r =>
    simp only [List.length_cons] at hlt
    dsimp only
    split
    ·rw [m6 hf m M r (acc ++ [v]) oM]
     cases bK f M r (acc ++ [v]) with
     | none=>rfl
     | some x=>dsimp only;simp only [List.length_append,List.length_singleton];congr 1;simp;omega
    ·split
     ·dsimp only;rw [if_pos (by simp)]
     ·rfl
theorem jJ {f : adA → Option (V × adA)} {t : adA} {vs : List V} : ∀ {m : Nat},(f t = none ∨ ∃ u,f t = some (u,[])) → bK f m t vs = none
 | 0,_=>rfl
 | m + 1,h=>by
  rw [bK]
  rcases h with h | ⟨u,h⟩ <;> rw [h]
theorem jI {f : adA → Option (V × adA)} {t t2 : adA} {c : UInt8} {u : V} {vs : List V} {m : Nat} (h : f t = some (u,c :: t2)) (hm : 0 < m) :
  bK f m t vs = if c.toNat = 44 then bK f (m - 1) t2 (vs ++ [u]) else if c.toNat = 93 then some (vs ++ [u],t2) else none:=by
 obtain ⟨m,rfl⟩ : ∃ k,m = k + 1:=⟨m - 1,oM⟩
 rw [bK,h];rfl
theorem iM {ts : List Ty} {n : Nat} {k s : adA} {x : V × adA} (h : rd ts n k s = some x) : x.2.length < s.length:=by
 have:=gt n k s x h
 have:=hC x.1
 omega
abbrev fD : TypeId:=65
abbrev ro (b : Nat) (cs : List Value) : Own:=.blk b (.cells cs.toArray c8 (0,0))
theorem abR {n r sc : Nat} {qs : List dp} {k s : adA} {b : Bool} (hV : nK n sc qs) (hS : ScI G sc qs) (hk : aB (aq qs) k = true) (hs : s.length ≤ n ∧ s.length ≤ 1000) :
  fK adz 125 [Pt r 0,Ag (c5 k)] G [eG r sc s b] (iT (fM (rd (aq qs) n k)) r sc s b):=by
 have cx_wa:=dU (G:=G) (r:=r) (sc:=sc) (s:=s) (l:=[91]) (b:=b) ⟨oM,by simp⟩
 have cx_tk:=iB (G:=G) (r:=r) (sc:=sc) (s:=eB [91] s b) (l:=[93]) (b:=!c9 [91] s b) ⟨by have:=ke (l:=[91]) (s:=s) (b:=b);omega,by simp⟩
 simp only [c5]
 cases ht : c9 [91] s b with
 | false =>
  rw [ht,gV ht] at cx_wa cx_tk
  rw [Bool.not_false,hJ,jm] at cx_tk
  have cx_wb:=dU (G:=G) (r:=r) (sc:=sc) (s:=s) (l:=[93]) (b:=true) ⟨oM,by simp⟩
  rw [hJ,jm] at cx_wb
  refine bY [(0,_),(1,_)] Tryz.func125 kR Tryz.ntmps125 rfl rfl tU fun B hB hW=>?_
  repeat' (first | refine jR ?_ | (refine jo ?_;first | refine jO fun _=>?_ | refine jL fun _=>?_ | refine jV (ax rfl rfl) ?_ | refine jC rfl rfl rfl ?_ | (refine aI rfl rfl rfl cx_wa rfl ?_;rintro _ _ rfl;dsimp only [zA,fA]) | (refine aI rfl rfl rfl cx_tk rfl ?_;rintro _ _ ⟨rfl,rfl⟩;dsimp only [zA,fA])) | refine ad rfl rfl ?_)
  rename_i x3 x4 x5 _
  refine aT (ι:=Unit) (fun i=>True) (fun i=>[(0,Pt r 0),(4,Pt x4 0),(5,Pt x5 0)]) (fun _=>G) (fun i=>[eG r sc s true,ro x5 [U8 91,S [],I 0,aQ],ro x4 [U8 0,S [],I 0,aQ]]) (fun i=>0) () ?_ tU rfl sB (fun i Hi=>?_)
  ·trivial
  repeat' (first | refine jR ?_ | (refine jo ?_;first | refine jC rfl rfl rfl ?_ | refine aD rfl ?_ | refine bM rfl ?_ | refine jV (af rfl) ?_ | (refine aI rfl rfl rfl cx_wb rfl ?_;rintro _ _ rfl;dsimp only [zA,fA])) | refine ad rfl rfl ?_)
  refine aW (vs:=[_]) rfl ⟨aJ rfl rfl rfl rfl,trivial⟩ rfl sB ⟨Gh.le.refl _,.nd 91 [] 0 [],⟨91,[],0,none,0,0⟩,s,true,rfl,cZ dC dC,rfl,Nat.le_refl _,fun h=>(by cases h),fun _=>⟨?_,by simp only [V.tot,V.tots,List.length_nil];omega⟩⟩
  cases b with
  | true=>exact .inl rfl
  | false =>
   right
   cases s with
   | nil=>rfl
   | cons d r' =>
    unfold fM
    dsimp only
    rw [if_neg]
    intro h91
    have : c9 [91] (d :: r') false = true:=f5.2 ⟨r',by rw [show d = 91 from UInt8.toNat_inj.1 h91]⟩
    rw [this] at ht;cases ht
 | true =>
  have hb : b = false:=by cases b with | true=>rw [hJ] at ht;cases ht | false=>rfl
  subst hb
  obtain ⟨s1,rfl⟩:=f5.1 ht
  rw [ht,gL] at cx_wa cx_tk
  rw [Bool.not_true] at cx_wa cx_tk
  simp only [List.length_cons] at hs
  cases ht2 : c9 [93] s1 false with
  | true =>
   obtain ⟨s2,rfl⟩:=f5.1 ht2
   rw [ht2,gL] at cx_tk
   refine bY [(0,_),(1,_)] Tryz.func125 kR Tryz.ntmps125 rfl rfl tU fun B hB hW=>?_
   repeat' (first | refine jR ?_ | (refine jo ?_;first | refine jO fun _=>?_ | refine jL fun _=>?_ | refine jV (ax rfl rfl) ?_ | refine jC rfl rfl rfl ?_ | refine bM rfl ?_ | (refine aI rfl rfl rfl cx_wa rfl ?_;rintro _ _ rfl;dsimp only [zA,fA]) | (refine aI rfl rfl rfl cx_tk rfl ?_;rintro _ _ ⟨rfl,rfl⟩;dsimp only [zA,fA])) | refine ac rfl rfl ?_)
   refine aW (vs:=[_]) rfl ⟨aJ rfl rfl rfl rfl,trivial⟩ rfl sB ⟨Gh.le.refl _,.nd 91 [] 0 [],⟨91,[],0,none,0,0⟩,s2,false,rfl,cZ dC dC,rfl,by simp only [List.length_cons];omega,fun _=>⟨rfl,rfl⟩,fun h=>(by cases h)⟩
  | false =>
   rw [ht2,gV ht2] at cx_tk
   have hR : fM (rd (aq qs) n k) (91 :: s1) = (bK (rd (aq qs) n k) 20 s1 []).map fun x=>(.nd 91 [] 0 x.1,x.2):=by
    unfold fM
    dsimp only
    rw [if_pos (show (91 : UInt8).toNat = 91 from rfl)]
    cases s1 with
    | nil =>
     have : rd (aq qs) n k [] = none:=by
      cases h : rd (aq qs) n k [] with
      | none=>rfl
      | some x=>have:=iM h;simp at this
     simp [bK,this]
    | cons e r' =>
     dsimp only
     rw [if_neg]
     intro h93
     have : c9 [93] (e :: r') false = true:=f5.2 ⟨r',by rw [show e = 93 from UInt8.toNat_inj.1 h93]⟩
     rw [this] at ht2;cases ht2
   have hmore:=m6 (f:=rd (aq qs) n k) (fun s x h=>iM h) 20 (s1.length + 1) s1 [] oM
   refine bY [(0,_),(1,_)] Tryz.func125 kR Tryz.ntmps125 rfl rfl tU fun B hB hW=>?_
   repeat' (first | refine jR ?_ | (refine jo ?_;first | refine jO fun _=>?_ | refine jL fun _=>?_ | refine jV (ax rfl rfl) ?_ | refine jC rfl rfl rfl ?_ | (refine aI rfl rfl rfl cx_wa rfl ?_;rintro _ _ rfl;dsimp only [zA,fA]) | (refine aI rfl rfl rfl cx_tk rfl ?_;rintro _ _ ⟨rfl,rfl⟩;dsimp only [zA,fA])) | refine ad rfl rfl ?_)
   rename_i x3 x4 x5 _
   refine Nx.addNil c8 4 (Nx.perm (List.Perm.swap _ _ _) ?_)
   refine aT (ι:=List V × List VC × Option Addr × Nat × adA × Nat × Gh) (fun q=>(V.reps q.2.2.2.2.2.2 q.1 q.2.1 ∧ Gh.le G q.2.2.2.2.2.2) ∧ (bK (rd (aq qs) n k) (s1.length + 1) s1 [] = bK (rd (aq qs) n k) q.2.2.2.2.2.1 q.2.2.2.2.1 q.1 ∧ q.2.2.2.2.1.length < q.2.2.2.2.2.1) ∧ (V.tots q.1 + 100 * q.2.2.2.2.1.length + 100 ≤ 100 * (s1.length + 1) ∧ q.2.2.2.2.1.length ≤ s1.length)) (fun q=>[(0,Pt r 0),(3,Pt x3 0),(4,Pt x4 0),(5,Pt x5 0)]) (fun q=>q.2.2.2.2.2.2) (fun q=>[eG r sc q.2.2.2.2.1 false,.acc (.slice q.2.2.1 q.1.length q.2.2.2.1) c8 4 q.1.length (ak bJ q.2.1),ro x5 [U8 91,S [],I 0,.slice q.2.2.1 q.1.length q.2.2.2.1],ro x4 [U8 0,S [],I 0,aQ],.blk x3 (.cells (List.toArray [S (sg k),S (bs k),S (nm k)]) fD (0,0))]) (fun q=>q.2.2.2.2.1.length) ([],[],none,0,s1,s1.length + 1,G) ?_ tU rfl a7 (fun q Hq=>?_)
   ·exact ⟨⟨rfl,Gh.le.refl _⟩,⟨rfl,by dsimp only;omega⟩,by dsimp only;simp only [V.tots];omega,Nat.le_refl _⟩
   obtain ⟨vs,cs,a,cap,t,m,Gq⟩:=q
   dsimp only at Hq ⊢
   obtain ⟨⟨hreps,hgq⟩,⟨hit,htm⟩,hT,htl⟩:=Hq
   have hcl:=gp hreps
   have hkl:=di vs
   have cx_vl:=hV Gq r k t false (hS.mono hgq) hk oM oM
   repeat' (first | refine jR ?_ | (refine jo ?_;refine aD rfl ?_) | refine ac rfl rfl ?_)
   (refine am (ao (id:=6) [.blk x3 (.cells (List.toArray [S (sg k),S (bs k),S (nm k)]) fD (0,0))] (by intro y hy;simp only [List.mem_cons,List.not_mem_nil,or_false] at hy ⊢;simp [hy]) al ?_);refine jW 7 [0,2] (aa 9 5) ?_;(refine jG (aa 9 13) 3 rfl (bP rfl rfl rfl rfl) ?_);refine b8 [1,4] kR dC ⟨?_,?_,trivial⟩;(focus (refine aO rfl rfl ?_;(refine aD rfl ?_);refine jK (aa 9 15) ?_;refine jA 4 rfl ?_;(refine eH rfl rfl rfl cx_vl rfl ?_;rintro _ G1 _ hle ⟨u1,c1,t1,b1,rfl,hrep,rfl,hP⟩;dsimp only [zA,fA];skip);refine jK (aa 9 31) ?_;refine jA 5 rfl ?_;(refine jF fun _=>?_);refine jK (aa 9 63) ?_;refine jA 6 rfl ?_;((refine bD rfl rfl rfl rfl rfl rfl rfl rfl rfl ?_ fun _ _=>?_;focus omega));refine jK (aa 9 127) ?_;refine jW 1 [7] (aa 9 255) ?_;refine jA 8 rfl ?_;(refine jD rfl rfl rfl ?_);refine jK (aa 9 511) ?_;refine jQ ?_));rotate_left 1;(focus (refine aO rfl rfl ?_;(refine eH rfl rfl rfl cx_vl rfl ?_;rintro _ G1 _ hle ⟨u1,c1,t1,b1,rfl,hrep,rfl,hP⟩;dsimp only [zA,fA];skip);refine jK (aa 9 29) ?_;refine b8 [1,5] kR dC ⟨?_,?_,trivial⟩;(focus (refine aO rfl rfl ?_;(refine aD rfl ?_);refine jK (aa 9 31) ?_;refine jA 5 rfl ?_;(refine jF fun _=>?_);refine jK (aa 9 63) ?_;refine jA 6 rfl ?_;((refine bD rfl rfl rfl rfl rfl rfl rfl rfl rfl ?_ fun _ _=>?_;focus omega));refine jK (aa 9 127) ?_;refine jW 1 [7] (aa 9 255) ?_;refine jA 8 rfl ?_;(refine jD rfl rfl rfl ?_);refine jK (aa 9 511) ?_;refine jQ ?_));rotate_left 1;(focus (refine aO rfl rfl ?_;(refine jF fun _=>?_);refine jK (aa 9 61) ?_;refine jA 1 rfl ?_;(refine aD rfl ?_);refine jK (aa 9 63) ?_;refine jA 6 rfl ?_;((refine bD rfl rfl rfl rfl rfl rfl rfl rfl rfl ?_ fun _ _=>?_;focus omega));refine jK (aa 9 127) ?_;refine jW 1 [7] (aa 9 255) ?_;refine jA 8 rfl ?_;(refine jD rfl rfl rfl ?_);refine jK (aa 9 511) ?_;refine jQ ?_));rotate_left 1));rotate_left 2)
   all_goals
    rename_i y1 yc
    have hrow : ak bJ cs ++ [U8 (c1.what : Nat),S c1.text,I c1.tag,c1.sl] = ak bJ (cs ++ [c1]):=(bR bJ cs c1).symm
    have hr2 : V.reps G1 (vs ++ [u1]) (cs ++ [c1]):=hY hrep (cS hle hreps)
    have hvl : (vs ++ [u1]).length = vs.length + 1:=by simp
    have htu : V.tots (vs ++ [u1]) = V.tots vs + u1.tot:=by simp [dY,V.tots]
    have hgl:=hgq.trans hle
    obtain ⟨hPl,hP0,hP1⟩:=hP
    rw [hrow]
    cases b1 with
    | true =>
     obtain ⟨hno,hto⟩:=hP1 rfl
     have hno : rd (aq qs) n k t = none:=by
      rcases hno with h | h
      ·cases h
      ·exact h
     have hit2 : bK (rd (aq qs) n k) m t vs = none:=jJ (.inl hno)
     have cx_tm:=iB (G:=G1) (r:=r) (sc:=sc) (s:=t1) (l:=[44]) (b:=true) ⟨oM,by simp⟩
     have cx_wb:=dU (G:=G1) (r:=r) (sc:=sc) (s:=t1) (l:=[93]) (b:=true) ⟨oM,by simp⟩
     rw [hJ,jm] at cx_tm cx_wb
     repeat' (first | refine jR ?_ | (refine jo ?_;first | refine jD rfl rfl rfl ?_ | refine jC rfl rfl rfl ?_ | refine aD rfl ?_ | refine bM rfl ?_ | refine jV (af rfl) ?_ | (refine aI rfl rfl rfl cx_wb rfl ?_;rintro _ _ rfl;dsimp only [zA,fA]) | (refine aI rfl rfl rfl cx_tm rfl ?_;rintro _ _ ⟨rfl,rfl⟩;dsimp only [zA,fA])) | refine ac rfl rfl ?_ | refine eD rfl (fun _=>?_) (fun _=>?_))
     all_goals (refine Nx.sealS (v:=.slice (some ⟨y1,0,none⟩) (vs.length + 1) yc) fun G2 hG2 hsl=>?_)
     all_goals refine aW (vs:=[_]) rfl ⟨aJ rfl rfl rfl rfl,trivial⟩ rfl sB ⟨hgl.trans hG2,.nd 91 [] 0 (vs ++ [u1]),⟨91,[],0,some ⟨y1,0,none⟩,vs.length + 1,yc⟩,t1,true,rfl,dS dC dC (fun h=>absurd h dC) hvl.symm (by rw [List.length_append,List.length_singleton,hcl];exact hsl) (cS hG2 hr2),rfl,by simp only [List.length_cons];omega,fun h=>(by cases h),fun _=>⟨.inr (by rw [hR,hmore,hit,hit2];rfl),by rw [bA,htu];simp only [List.length_cons,List.length_nil];omega⟩⟩
    | false =>
     obtain ⟨_,hfs⟩:=hP0 rfl
     have htot:=gt n k t _ hfs
     dsimp only at htot
     have hup:=hC u1
     have cx_tm:=iB (G:=G1) (r:=r) (sc:=sc) (s:=t1) (l:=[44]) (b:=false) ⟨oM,by simp⟩
     cases ht3 : c9 [44] t1 false with
     | true =>
      obtain ⟨t2,rfl⟩:=f5.1 ht3
      rw [ht3,gL] at cx_tm
      have hit2:=jI (m:=m) (vs:=vs) hfs oM
      rw [if_pos (show (44 : UInt8).toNat = 44 from rfl)] at hit2
      simp only [List.length_cons] at htot hPl
      have hlt : t2.length < m - 1:=oM
      repeat' (first | refine jR ?_ | (refine jo ?_;(refine aI rfl rfl rfl cx_tm rfl ?_;rintro _ _ ⟨rfl,rfl⟩;dsimp only [zA,fA])) | refine ad rfl rfl ?_)
      exact bh (vs ++ [u1],cs ++ [c1],some ⟨y1,0,none⟩,yc,t2,m - 1,G1) ⟨⟨hr2,hgl⟩,⟨by rw [hit,hit2],hlt⟩,by dsimp only;omega,by dsimp only;omega⟩ (by dsimp only;omega) tU rfl (by rw [hvl];repeat (first | exact List.Sublist.refl _ | apply List.Sublist.cons_cons | apply List.Sublist.cons))
     | false =>
      rw [ht3,gV ht3] at cx_tm
      have cx_wb:=dU (G:=G1) (r:=r) (sc:=sc) (s:=t1) (l:=[93]) (b:=false) ⟨oM,by simp⟩
      cases ht4 : c9 [93] t1 false with
      | true =>
       obtain ⟨t2,rfl⟩:=f5.1 ht4
       rw [ht4,gL,Bool.not_true] at cx_wb
       have hit2:=jI (m:=m) (vs:=vs) hfs oM
       rw [if_neg (show ¬ (93 : UInt8).toNat = 44 by decide),if_pos (show (93 : UInt8).toNat = 93 from rfl)] at hit2
       simp only [List.length_cons] at htot hPl
       by_cases h20 : vs.length + 1 ≤ 20
       ·repeat' (first | refine jR ?_ | (refine jo ?_;first | refine jC rfl rfl rfl ?_ | refine aD rfl ?_ | refine bM rfl ?_ | refine jV (af rfl) ?_ | (refine aI rfl rfl rfl cx_wb rfl ?_;rintro _ _ rfl;dsimp only [zA,fA]) | (refine aI rfl rfl rfl cx_tm rfl ?_;rintro _ _ ⟨rfl,rfl⟩;dsimp only [zA,fA])) | refine ac rfl rfl ?_ | refine ad rfl (aG oM) ?_)
        refine Nx.sealS (v:=.slice (some ⟨y1,0,none⟩) (vs.length + 1) yc) fun G2 hG2 hsl=>?_
        refine aW (vs:=[_]) rfl ⟨aJ rfl rfl rfl rfl,trivial⟩ rfl sB ⟨hgl.trans hG2,.nd 91 [] 0 (vs ++ [u1]),⟨91,[],0,some ⟨y1,0,none⟩,vs.length + 1,yc⟩,t2,false,rfl,dS dC dC (fun h=>absurd h dC) hvl.symm (by rw [List.length_append,List.length_singleton,hcl];exact hsl) (cS hG2 hr2),rfl,by simp only [List.length_cons];omega,fun _=>⟨rfl,by rw [hR,hmore,hit,hit2];dsimp only;rw [if_pos (by simp;omega)];rfl⟩,fun h=>(by cases h)⟩
       ·repeat' (first | refine jR ?_ | (refine jo ?_;first | refine jD rfl rfl rfl ?_ | refine jC rfl rfl rfl ?_ | refine aD rfl ?_ | refine bM rfl ?_ | refine jV (af rfl) ?_ | (refine aI rfl rfl rfl cx_wb rfl ?_;rintro _ _ rfl;dsimp only [zA,fA]) | (refine aI rfl rfl rfl cx_tm rfl ?_;rintro _ _ ⟨rfl,rfl⟩;dsimp only [zA,fA])) | (refine ac rfl (by first | rfl | (refine decide_eq_true ?_;(omega))) ?_))
        refine Nx.sealS (v:=.slice (some ⟨y1,0,none⟩) (vs.length + 1) yc) fun G2 hG2 hsl=>?_
        refine aW (vs:=[_]) rfl ⟨aJ rfl rfl rfl rfl,trivial⟩ rfl sB ⟨hgl.trans hG2,.nd 91 [] 0 (vs ++ [u1]),⟨91,[],0,some ⟨y1,0,none⟩,vs.length + 1,yc⟩,t2,true,rfl,dS dC dC (fun h=>absurd h dC) hvl.symm (by rw [List.length_append,List.length_singleton,hcl];exact hsl) (cS hG2 hr2),rfl,by simp only [List.length_cons];omega,fun h=>(by cases h),fun _=>⟨.inr (by rw [hR,hmore,hit,hit2];dsimp only;rw [if_neg (by simp;omega)];rfl),by rw [bA,htu];simp only [List.length_cons,List.length_nil];omega⟩⟩
      | false =>
       rw [ht4,gV ht4,Bool.not_false] at cx_wb
       have hit2 : bK (rd (aq qs) n k) m t vs = none:=by
        cases t1 with
        | nil=>exact jJ (.inr ⟨u1,hfs⟩)
        | cons d t2 =>
         rw [jI hfs oM,if_neg,if_neg]
         ·intro h93
          have : c9 [93] (d :: t2) false = true:=f5.2 ⟨t2,by rw [show d = 93 from UInt8.toNat_inj.1 h93]⟩
          rw [this] at ht4;cases ht4
         ·intro h44
          have : c9 [44] (d :: t2) false = true:=f5.2 ⟨t2,by rw [show d = 44 from UInt8.toNat_inj.1 h44]⟩
          rw [this] at ht3;cases ht3
       repeat' (first | refine jR ?_ | (refine jo ?_;first | refine jD rfl rfl rfl ?_ | refine jC rfl rfl rfl ?_ | refine aD rfl ?_ | refine bM rfl ?_ | refine jV (af rfl) ?_ | (refine aI rfl rfl rfl cx_wb rfl ?_;rintro _ _ rfl;dsimp only [zA,fA]) | (refine aI rfl rfl rfl cx_tm rfl ?_;rintro _ _ ⟨rfl,rfl⟩;dsimp only [zA,fA])) | refine ac rfl rfl ?_ | refine eD rfl (fun _=>?_) (fun _=>?_))
       all_goals (refine Nx.sealS (v:=.slice (some ⟨y1,0,none⟩) (vs.length + 1) yc) fun G2 hG2 hsl=>?_)
       all_goals refine aW (vs:=[_]) rfl ⟨aJ rfl rfl rfl rfl,trivial⟩ rfl sB ⟨hgl.trans hG2,.nd 91 [] 0 (vs ++ [u1]),⟨91,[],0,some ⟨y1,0,none⟩,vs.length + 1,yc⟩,t1,true,rfl,dS dC dC (fun h=>absurd h dC) hvl.symm (by rw [List.length_append,List.length_singleton,hcl];exact hsl) (cS hG2 hr2),rfl,by simp only [List.length_cons];omega,fun h=>(by cases h),fun _=>⟨.inr (by rw [hR,hmore,hit,hit2];rfl),by rw [bA,htu];simp only [List.length_cons,List.length_nil];omega⟩⟩
def zVC : VC:=⟨0,[],0,none,0,0⟩
def ab4 (t : Ty) (bf of : Nat) (f : adA → adA → Option (V × adA)) (r sc : Nat) (s : adA) (b : Bool) (v : Value) (G' : Gh) (L' : List Own) : Prop :=
  ∃ s' b',L' = [eG r sc s' b'] ∧ s'.length ≤ s.length ∧
    ((v = Tu [Ag (bJ zVC),.pointer none] ∧ b' = true ∧ (b = true ∨ aY f t s = none)) ∨
     (∃ j u c,j < t.fields.length ∧ v = Tu [Ag (bJ c),Pt bf (of + j * 6)] ∧ V.rep G' (.nd 61 [] (ab t.fields j).tag [u]) c ∧ b = false ∧ u.tot + 100 * s'.length + 100 ≤ 100 * s.length ∧
       (b' = false → aY f t s = some ((ab t.fields j,u),s')) ∧ (b' = true → aY f t s = none)))
abbrev zP : Value:=Ag [U8 0,S [],I 0,aQ]
theorem fX {f : adA → adA → Option (V × adA)} {t : Ty} {s : adA} (h : aK (s.takeWhile bn) 200 = none ∨ ∃ m,aK (s.takeWhile bn) 200 = some m ∧ ck t.fields m = none) : aY f t s = none:=by
 unfold aY cK
 rcases h with h | ⟨m,h,h2⟩
 ·rw [h];rfl
 ·rw [h];dsimp only [Option.map_some];rw [h2]
theorem iy {f : adA → adA → Option (V × adA)} {t : Ty} {s : adA} {m : Int} (h : aK (s.takeWhile bn) 200 = some m) (h2 : ∀ s2,s.dropWhile bn ≠ 61 :: s2) : aY f t s = none:=by
 unfold aY cK
 rw [h];dsimp only [Option.map_some]
 cases ck t.fields m with
 | none=>rfl
 | some d =>
  dsimp only
  cases hd : s.dropWhile bn with
  | nil=>rfl
  | cons c r =>
   dsimp only
   rw [if_neg]
   intro hc
   exact h2 r (by rw [hd,show c = 61 from UInt8.toNat_inj.1 hc])
theorem mn {f : adA → adA → Option (V × adA)} {t : Ty} {s s2 : adA} {m : Int} {d : Fld} (h : aK (s.takeWhile bn) 200 = some m) (hd : ck t.fields m = some d) (h2 : s.dropWhile bn = 61 :: s2) : aY f t s = (f d.kind s2).map fun x=>((d,x.1),x.2):=by
 unfold aY cK
 rw [h];dsimp only [Option.map_some];rw [hd,h2];dsimp only;rw [if_pos (show (61 : UInt8).toNat = 61 from rfl)]
theorem pi {n r sc bt bf of cf : Nat} {qs : List dp} {t : Ty} {ln s : adA} {b : Bool} {fv : Value} (hV : nK n sc qs) (hS : ScI G sc qs) (hw : TyW t) (hkf : ∀ d ∈ t.fields,aB (aq qs) d.kind = true)
  (h1 : b9 G bt 0 [U8 t.sort,S t.name,fv,S ln]) (h2 : aU G fv 6 t.fields.length (ak iF t.fields)) (hfv : t.fields ≠ [] → fv = .slice (some ⟨bf,of,none⟩) t.fields.length cf ∧ b9 G bf of (ak iF t.fields)) (hs : s.length ≤ n ∧ s.length ≤ 1000) :
  fK adz 149 [Pt r 0,Pt bt 0] G [eG r sc s b] (ab4 t bf of (rd (aq qs) n) r sc s b):=by
 have hwl:=eA bn s
 have hfl:=hw.len
 have cx_nu:=mB (G:=G) (r:=r) (sc:=sc) (s:=s) (b:=b) (top:=200) oM
 have cx_wa:=dU (G:=G) (r:=r) (sc:=sc) (s:=s.dropWhile bn) (l:=[61]) (b:=(b || (aK (s.takeWhile bn) 200).isNone)) ⟨oM,by simp⟩
 have htl:=ke (l:=[61]) (s:=s.dropWhile bn) (b:=(b || (aK (s.takeWhile bn) 200).isNone))
 have hleft : ∀ (s' : adA),s'.length ≤ s.length → (b = true ∨ aY (rd (aq qs) n) t s = none) → ∀ G',ab4 t bf of (rd (aq qs) n) r sc s b (Tu [Ag (bJ zVC),.pointer none]) G' [eG r sc s' true]:=fun s' h3 h4 G'=>⟨s',true,rfl,h3,.inl ⟨rfl,rfl,h4⟩⟩
 refine bY [(0,_),(1,_)] Tryz.func149 kR Tryz.ntmps149 rfl rfl tU fun B hB hW=>?_
 repeat' (first | refine jR ?_ | (refine jo ?_;first | refine jL fun _=>?_ | (refine aI rfl rfl rfl cx_nu rfl ?_;rintro _ _ ⟨n1,rfl,⟨hn0,hn1⟩,hnum,rfl⟩;dsimp only [zA,fA])))
 rename_i x4
 cases hft : ck t.fields n1 with
 | none =>
  have hno : aY (rd (aq qs) n) t s = none:=by
   cases hm : aK (s.takeWhile bn) 200 with
   | none=>exact fX (.inl hm)
   | some m=>exact fX (.inr ⟨m,hm,by rw [← hnum m hm];exact hft⟩)
  have cx_fld:=jj h1 h2 oM hft
  repeat' (first | refine jR ?_ | (refine jo ?_;first | refine jV (db rfl rfl) ?_ | refine aM rfl ?_ | refine jD rfl rfl rfl ?_ | refine jC rfl rfl rfl ?_ | refine jV (ax rfl rfl) ?_ | refine ae rfl rfl rfl cx_fld rfl ?_ | (refine aI rfl rfl rfl cx_wa rfl ?_;rintro _ _ rfl;dsimp only [zA,fA])) | refine aF rfl rfl rfl ?_ | refine ac rfl rfl ?_)
  refine aW (vs:=[_,_]) rfl ⟨aJ rfl rfl rfl rfl,rfl,trivial⟩ rfl sB ⟨Gh.le.refl _,hleft _ oM (.inr hno) _⟩
 | some d =>
  obtain ⟨j,hj,hjn,hjt,hjd⟩:=ia hft
  subst hjd
  obtain ⟨rfl,hsf⟩:=hfv (fun h=>by rw [h] at hj;simp at hj)
  have cx_fld:=ij h1 hsf oM hj hjn hjt
  cases ht : c9 [61] (s.dropWhile bn) (b || (aK (s.takeWhile bn) 200).isNone) with
  | false =>
   rw [ht,Bool.not_false] at cx_wa
   have hno : b = true ∨ aY (rd (aq qs) n) t s = none:=by
    cases b with
    | true=>exact .inl rfl
    | false =>
     right
     cases hm : aK (s.takeWhile bn) 200 with
     | none=>exact fX (.inl hm)
     | some m =>
      refine iy hm (fun s2 h=>?_)
      rw [hm,h] at ht
      have : c9 [61] (61 :: s2) false = true:=f5.2 ⟨s2,rfl⟩
      rw [show (false || (some m).isNone) = false from rfl,this] at ht;cases ht
   repeat' (first | refine jR ?_ | (refine jo ?_;first | refine jV (db rfl rfl) ?_ | refine aD rfl ?_ | refine aC rfl ?_ | refine jD rfl rfl rfl ?_ | refine jC rfl rfl rfl ?_ | refine jV (ax rfl rfl) ?_ | refine ae rfl rfl rfl cx_fld rfl ?_ | (refine aI rfl rfl rfl cx_wa rfl ?_;rintro _ _ rfl;dsimp only [zA,fA])) | refine ar rfl rfl rfl ?_ | refine ac rfl rfl ?_)
   refine aW (vs:=[_,_]) rfl ⟨aJ rfl rfl rfl rfl,rfl,trivial⟩ rfl sB ⟨Gh.le.refl _,hleft _ oM hno _⟩
  | true =>
   have hb0 : (b || (aK (s.takeWhile bn) 200).isNone) = false:=by
    cases hb : (b || (aK (s.takeWhile bn) 200).isNone) with
    | false=>rfl
    | true=>rw [hb,hJ] at ht;cases ht
   rw [hb0] at ht cx_wa htl
   rw [hb0]
   simp only [Bool.or_eq_false_iff] at hb0
   obtain ⟨hb,hnn⟩:=hb0
   obtain ⟨m,hm⟩ : ∃ m,aK (s.takeWhile bn) 200 = some m:=by
    cases hm : aK (s.takeWhile bn) 200 with
    | none=>rw [hm] at hnn;cases hnn
    | some m=>exact ⟨m,rfl⟩
   obtain ⟨s2,hs2⟩:=f5.1 ht
   rw [ht,hs2,gL,Bool.not_true] at cx_wa
   have hdig : 1 ≤ (s.takeWhile bn).length:=by
    have h3:=(d6 hm).2.1
    rw [h3];exact gy m
   rw [hs2,List.length_cons] at hwl
   have hfd : ∀ x,aY (rd (aq qs) n) t s = some x ↔ (rd (aq qs) n (ab t.fields j).kind s2).map (fun x=>((ab t.fields j,x.1),x.2)) = some x:=fun x=>by
    rw [mn hm (d:=ab t.fields j) (by rw [← hnum m hm,hft]) hs2]
   have hkd:=hkf (ab t.fields j) (bc hj)
   have cx_vl:=hV G r (ab t.fields j).kind s2 false hS hkd oM oM
   rw [hs2]
   repeat' (first | refine jR ?_ | (refine jo ?_;first | refine jL fun _=>?_ | refine jV (db rfl rfl) ?_ | refine aD rfl ?_ | (refine jV (iv rfl rfl aS ?_ rfl rfl) ?_;focus omega) | refine aC rfl ?_ | refine jC rfl rfl rfl ?_ | refine ae rfl rfl rfl cx_fld rfl ?_ | (refine aI rfl rfl rfl cx_wa rfl ?_;rintro _ _ rfl;dsimp only [zA,fA]) | (refine eH rfl rfl rfl cx_vl rfl ?_;rintro _ G1 _ hle ⟨u1,c1,t1,b1,rfl,hrep,rfl,hP⟩;dsimp only [zA,fA];skip)) | refine ar rfl rfl rfl ?_ | refine ad rfl rfl ?_)
   have hsf1:=hsf.mono hle
   have htag:=(hw.fld _ (bc hj)).tag
   repeat' (first | refine jR ?_ | (refine am (d4 (id:=7) (tt:=4) rfl al ?_);refine jW 6 [0,1,2,7] (aa 10 135) ?_;((refine jG (aa 10 143) 3 rfl (bQ rfl rfl aS ?_ rfl rfl) ?_;focus omega));(refine jG (aa 10 159) 4 rfl (bP rfl rfl rfl rfl) ?_);refine jA 5 rfl ?_;(refine jF fun _=>?_);refine jK (aa 10 191) ?_;(refine jG (aa 10 255) 6 rfl (ax rfl rfl) ?_);refine jA 8 rfl ?_;(refine jC rfl rfl rfl ?_);refine jK (aa 10 511) ?_;refine jW 0 [9] (aa 10 1023) ?_;refine jQ ?_))
   rename_i y
   refine Nx.sealC (b:=y) fun G2 hG2 hsy=>?_
   have hsl : aU G2 (.slice (some ⟨y,0,none⟩) 1 1) 4 ([c1] : List VC).length (ak bJ [c1]):=⟨rfl,.inr ⟨y,0,1,rfl,Nat.le_refl _,hsy⟩⟩
   have hrp : V.rep G2 (.nd 61 [] (ab t.fields j).tag [u1]) ⟨61,[],(ab t.fields j).tag,some ⟨y,0,none⟩,1,1⟩:=dS dC oM (fun _=>rfl) rfl hsl ⟨c1,[],rfl,bE hG2 hrep,rfl⟩
   obtain ⟨hPl,hP0,hP1⟩:=hP
   have hf2:=fun x=>hfd x
   cases b1 with
   | false =>
    obtain ⟨_,hgood⟩:=hP0 rfl
    have htot:=gt n _ _ _ hgood
    dsimp only at htot
    refine aW (vs:=[_,_]) rfl ⟨aJ rfl rfl rfl rfl,rfl,trivial⟩ rfl sB ⟨hle.trans hG2,t1,false,rfl,oM,.inr ⟨j,u1,⟨61,[],(ab t.fields j).tag,some ⟨y,0,none⟩,1,1⟩,hj,rfl,hrp,hb,oM,fun _=>(hfd _).2 (by rw [hgood];rfl),fun h=>(by cases h)⟩⟩
   | true =>
    obtain ⟨hbad,hto⟩:=hP1 rfl
    have hbad2 : rd (aq qs) n (ab t.fields j).kind s2 = none:=by
     rcases hbad with h | h
     ·cases h
     ·exact h
    have hno : aY (rd (aq qs) n) t s = none:=by
     cases hx : aY (rd (aq qs) n) t s with
     | none=>rfl
     | some x=>have:=(hfd x).1 hx;rw [hbad2] at this;cases this
    refine aW (vs:=[_,_]) rfl ⟨aJ rfl rfl rfl rfl,rfl,trivial⟩ rfl sB ⟨hle.trans hG2,t1,true,rfl,oM,.inr ⟨j,u1,⟨61,[],(ab t.fields j).tag,some ⟨y,0,none⟩,1,1⟩,hj,rfl,hrp,hb,oM,fun h=>(by cases h),fun _=>hno⟩⟩
theorem ju {c : UInt8} {s : adA} (h : c9 [c] s false = false) : ∀ s2,s ≠ c :: s2:=fun s2 e=>by
 have : c9 [c] s false = true:=f5.2 ⟨s2,e⟩
 rw [this] at h;cases h
theorem oH {ts : List Ty} {f : adA → adA → Option (V × adA)} {t : Ty} {s : adA} {c : UInt8} (hc : t.sort = 82 ∧ c = 123 ∨ t.sort = 69 ∧ c = 35 ∨ (t.sort ≠ 82 ∧ t.sort ≠ 69) ∧ c = 60) (h : ∀ s2,s ≠ c :: s2) : bC ts f t s = none:=by
 cases s with
 | nil=>rfl
 | cons d r =>
  have hd : d ≠ c:=fun e=>h r (by rw [e])
  unfold bC
  dsimp only
  have hn : ∀ k : Nat,k < 256 → c = UInt8.ofNat k → ¬ d.toNat = k:=fun k hk e h2=>hd (by rw [e,bX h2 hk])
  rcases hc with ⟨h1,h2⟩ | ⟨h1,h2⟩ | ⟨⟨h1,h1'⟩,h2⟩
  ·rw [if_pos h1,if_neg (hn 123 dC h2)]
  ·rw [if_neg oM,if_pos h1,if_neg (hn 35 dC h2)]
  ·rw [if_neg h1,if_neg h1',if_neg (hn 60 dC h2)]
theorem acG {n r sc bt : Nat} {qs : List dp} {t : Ty} {s : adA} {b : Bool} (hT : oF G bt t) (hw : TyW t) (hso : t.sort = 69) (hs : s.length ≤ n ∧ s.length ≤ 1000) :
  fK adz 130 [Pt r 0,Pt bt 0] G [eG r sc s b] (iT (bC (aq qs) (rd (aq qs) n) t) r sc s b):=by
 obtain ⟨fv,ln,h1,h2⟩:=hT
 have hfl:=hw.len
 have hso' : (t.sort : Int) = 69:=oM
 have cx_wa:=dU (G:=G) (r:=r) (sc:=sc) (s:=s) (l:=[35]) (b:=b) ⟨oM,by simp⟩
 cases ht : c9 [35] s b with
 | false =>
  rw [ht,gV ht,Bool.not_false] at cx_wa
  have hno : b = true ∨ bC (aq qs) (rd (aq qs) n) t s = none:=by
   cases b with
   | true=>exact .inl rfl
   | false=>exact .inr (oH (.inr (.inl ⟨hso,rfl⟩)) (ju ht))
  have cx_nu:=mB (G:=G) (r:=r) (sc:=sc) (s:=s) (b:=true) (top:=200) oM
  rw [Bool.true_or] at cx_nu
  have hwl:=eA bn s
  refine bY [(0,_),(1,_)] Tryz.func130 kR Tryz.ntmps130 rfl rfl tU fun B hB hW=>?_
  repeat' (first | refine jR ?_ | (refine jo ?_;first | refine jL fun _=>?_ | refine aD rfl ?_ | refine jV (aj rfl rfl aS rfl rfl) ?_ | refine jV (ax rfl rfl) ?_ | refine jD rfl rfl rfl ?_ | refine jC rfl rfl rfl ?_ | (refine aI rfl rfl rfl cx_wa rfl ?_;rintro _ _ rfl;dsimp only [zA,fA]) | (refine aI rfl rfl rfl cx_nu rfl ?_;rintro _ _ ⟨n1,rfl,⟨hn0,hn1⟩,hnum,rfl⟩;dsimp only [zA,fA])) | refine ac rfl (ay ‹_›) ?_)
  cases hft : ck t.fields n1 with
  | none =>
   have cx_fld:=jj h1 h2 oM hft
   repeat' (first | refine jR ?_ | (refine jo ?_;first | refine bM rfl ?_ | refine jD rfl rfl rfl ?_ | refine jC rfl rfl rfl ?_ | refine jV (db rfl rfl) ?_ | refine ae rfl rfl rfl cx_fld rfl ?_) | refine ac rfl rfl ?_)
   refine aW (vs:=[_]) rfl ⟨aJ rfl rfl rfl rfl,trivial⟩ rfl sB ⟨Gh.le.refl _,.nd 69 [] n1 [],⟨69,[],n1,none,0,0⟩,s.dropWhile bn,true,by rw [hso];rfl,cZ dC ⟨hn0,hn1⟩,rfl,oM,fun h=>(by cases h),fun _=>⟨hno,by simp only [V.tot,V.tots,List.length_nil];omega⟩⟩
  | some d =>
   obtain ⟨j,hj,hjn,hjt,hjd⟩:=ia hft
   obtain ⟨bf,of,cf,rfl,hsf⟩:=h2.expl oM
   have cx_fld:=ij h1 hsf oM hj hjn hjt
   repeat' (first | refine jR ?_ | (refine jo ?_;first | refine bM rfl ?_ | refine jC rfl rfl rfl ?_ | refine jV (db rfl rfl) ?_ | refine ae rfl rfl rfl cx_fld rfl ?_) | refine ad rfl rfl ?_)
   refine aW (vs:=[_]) rfl ⟨aJ rfl rfl rfl rfl,trivial⟩ rfl sB ⟨Gh.le.refl _,.nd 69 [] n1 [],⟨69,[],n1,none,0,0⟩,s.dropWhile bn,true,by rw [hso];rfl,cZ dC ⟨hn0,hn1⟩,rfl,oM,fun h=>(by cases h),fun _=>⟨hno,by simp only [V.tot,V.tots,List.length_nil];omega⟩⟩
 | true =>
  have hb : b = false:=by cases b with | true=>rw [hJ] at ht;cases ht | false=>rfl
  subst hb
  obtain ⟨s1,rfl⟩:=f5.1 ht
  rw [ht,gL,Bool.not_true] at cx_wa
  simp only [List.length_cons] at hs
  have cx_nu:=mB (G:=G) (r:=r) (sc:=sc) (s:=s1) (b:=false) (top:=200) oM
  rw [Bool.false_or] at cx_nu
  have hwl:=eA bn s1
  have hRT : bC (aq qs) (rd (aq qs) n) t (35 :: s1) = match cK 200 s1 with
    | none=>none
    | some (n,r)=>if (ck t.fields n).isSome = true then some (.nd 69 [] n [],r) else none:=by
   unfold bC
   dsimp only
   rw [if_neg oM,if_pos hso,if_pos (show (35 : UInt8).toNat = 35 from rfl)]
   cases cK 200 s1 <;> rfl
  cases hnu : aK (s1.takeWhile bn) 200 with
  | none =>
   have hno : bC (aq qs) (rd (aq qs) n) t (35 :: s1) = none:=by rw [hRT];unfold cK;rw [hnu];rfl
   rw [hnu] at cx_nu
   refine bY [(0,_),(1,_)] Tryz.func130 kR Tryz.ntmps130 rfl rfl tU fun B hB hW=>?_
   repeat' (first | refine jR ?_ | (refine jo ?_;first | refine jL fun _=>?_ | refine aD rfl ?_ | refine jV (aj rfl rfl aS rfl rfl) ?_ | refine jV (ax rfl rfl) ?_ | refine jD rfl rfl rfl ?_ | refine jC rfl rfl rfl ?_ | (refine aI rfl rfl rfl cx_wa rfl ?_;rintro _ _ rfl;dsimp only [zA,fA]) | (refine aI rfl rfl rfl cx_nu rfl ?_;rintro _ _ ⟨n1,rfl,⟨hn0,hn1⟩,hnum,rfl⟩;dsimp only [zA,fA])) | refine ac rfl (ay ‹_›) ?_)
   cases hft : ck t.fields n1 with
   | none =>
    have cx_fld:=jj h1 h2 oM hft
    repeat' (first | refine jR ?_ | (refine jo ?_;first | refine bM rfl ?_ | refine jD rfl rfl rfl ?_ | refine jC rfl rfl rfl ?_ | refine jV (db rfl rfl) ?_ | refine ae rfl rfl rfl cx_fld rfl ?_) | refine ac rfl rfl ?_)
    refine aW (vs:=[_]) rfl ⟨aJ rfl rfl rfl rfl,trivial⟩ rfl sB ⟨Gh.le.refl _,.nd 69 [] n1 [],⟨69,[],n1,none,0,0⟩,s1.dropWhile bn,true,by rw [hso];rfl,cZ dC ⟨hn0,hn1⟩,rfl,by simp only [List.length_cons];omega,fun h=>(by cases h),fun _=>⟨.inr hno,by simp only [V.tot,V.tots,List.length_nil,List.length_cons];omega⟩⟩
   | some d =>
    obtain ⟨j,hj,hjn,hjt,hjd⟩:=ia hft
    obtain ⟨bf,of,cf,rfl,hsf⟩:=h2.expl oM
    have cx_fld:=ij h1 hsf oM hj hjn hjt
    repeat' (first | refine jR ?_ | (refine jo ?_;first | refine bM rfl ?_ | refine jC rfl rfl rfl ?_ | refine jV (db rfl rfl) ?_ | refine ae rfl rfl rfl cx_fld rfl ?_) | refine ad rfl rfl ?_)
    refine aW (vs:=[_]) rfl ⟨aJ rfl rfl rfl rfl,trivial⟩ rfl sB ⟨Gh.le.refl _,.nd 69 [] n1 [],⟨69,[],n1,none,0,0⟩,s1.dropWhile bn,true,by rw [hso];rfl,cZ dC ⟨hn0,hn1⟩,rfl,by simp only [List.length_cons];omega,fun h=>(by cases h),fun _=>⟨.inr hno,by simp only [V.tot,V.tots,List.length_nil,List.length_cons];omega⟩⟩
  | some m =>
   rw [hnu] at cx_nu
   have hRT2 : bC (aq qs) (rd (aq qs) n) t (35 :: s1) = if (ck t.fields m).isSome = true then some (.nd 69 [] m [],s1.dropWhile bn) else none:=by rw [hRT];unfold cK;rw [hnu];rfl
   refine bY [(0,_),(1,_)] Tryz.func130 kR Tryz.ntmps130 rfl rfl tU fun B hB hW=>?_
   repeat' (first | refine jR ?_ | (refine jo ?_;first | refine jL fun _=>?_ | refine aD rfl ?_ | refine jV (aj rfl rfl aS rfl rfl) ?_ | refine jV (ax rfl rfl) ?_ | refine jD rfl rfl rfl ?_ | refine jC rfl rfl rfl ?_ | (refine aI rfl rfl rfl cx_wa rfl ?_;rintro _ _ rfl;dsimp only [zA,fA]) | (refine aI rfl rfl rfl cx_nu rfl ?_;rintro _ _ ⟨n1,rfl,⟨hn0,hn1⟩,hnum,rfl⟩;dsimp only [zA,fA])) | refine ac rfl (ay ‹_›) ?_)
   obtain rfl : n1 = m:=hnum m rfl
   cases hft : ck t.fields n1 with
   | none =>
    rw [hft] at hRT2
    have cx_fld:=jj h1 h2 oM hft
    repeat' (first | refine jR ?_ | (refine jo ?_;first | refine bM rfl ?_ | refine jD rfl rfl rfl ?_ | refine jC rfl rfl rfl ?_ | refine jV (db rfl rfl) ?_ | refine ae rfl rfl rfl cx_fld rfl ?_) | refine ac rfl rfl ?_)
    refine aW (vs:=[_]) rfl ⟨aJ rfl rfl rfl rfl,trivial⟩ rfl sB ⟨Gh.le.refl _,.nd 69 [] n1 [],⟨69,[],n1,none,0,0⟩,s1.dropWhile bn,true,by rw [hso];rfl,cZ dC ⟨hn0,hn1⟩,rfl,by simp only [List.length_cons];omega,fun h=>(by cases h),fun _=>⟨.inr hRT2,by simp only [V.tot,V.tots,List.length_nil,List.length_cons];omega⟩⟩
   | some d =>
    rw [hft] at hRT2
    obtain ⟨j,hj,hjn,hjt,hjd⟩:=ia hft
    obtain ⟨bf,of,cf,rfl,hsf⟩:=h2.expl oM
    have cx_fld:=ij h1 hsf oM hj hjn hjt
    repeat' (first | refine jR ?_ | (refine jo ?_;first | refine bM rfl ?_ | refine jC rfl rfl rfl ?_ | refine jV (db rfl rfl) ?_ | refine ae rfl rfl rfl cx_fld rfl ?_) | refine ad rfl rfl ?_)
    refine aW (vs:=[_]) rfl ⟨aJ rfl rfl rfl rfl,trivial⟩ rfl sB ⟨Gh.le.refl _,.nd 69 [] n1 [],⟨69,[],n1,none,0,0⟩,s1.dropWhile bn,false,by rw [hso];rfl,cZ dC ⟨hn0,hn1⟩,rfl,by simp only [List.length_cons];omega,fun _=>⟨rfl,hRT2⟩,fun h=>(by cases h)⟩
theorem ux {G : Gh} {t : Int} {u : V} {c : VC} (h : V.rep G (.nd 61 [] t [u]) c) : ∃ (b o k : Nat) (d : VC),c = ⟨61,[],t,some ⟨b,o,none⟩,1,k⟩ ∧ (0 ≤ t ∧ t ≤ 999999) ∧ b9 G b o (ak bJ [d]) ∧ V.rep G u d ∧ V.rep G (.nd 85 [] t [u]) ⟨85,[],t,some ⟨b,o,none⟩,1,k⟩:=by
 obtain ⟨a,k,cs,rfl,_,ht,_,hcl,hsl,hks⟩:=eT h
 rw [V.reps] at hks
 obtain ⟨d,cs',rfl,hd,hcs⟩:=hks
 rw [V.reps] at hcs
 subst hcs
 obtain ⟨b,o,cap,e,hs⟩:=hsl.expl (by simp)
 simp only [Value.slice.injEq] at e
 obtain ⟨rfl,-,rfl⟩:=e
 exact ⟨b,o,k,d,rfl,ht,hs,hd,dS dC ht (fun h=>absurd h dC) rfl hsl ⟨d,[],rfl,hd,rfl⟩⟩
theorem acE {n r sc bt : Nat} {qs : List dp} {t : Ty} {s : adA} {b : Bool} (hV : nK n sc qs) (hS : ScI G sc qs) (hkf : ∀ d ∈ t.fields,aB (aq qs) d.kind = true) (hT : oF G bt t) (hw : TyW t) (hso : t.sort = 85) (hs : s.length ≤ n ∧ s.length ≤ 1000) :
  fK adz 130 [Pt r 0,Pt bt 0] G [eG r sc s b] (iT (bC (aq qs) (rd (aq qs) n) t) r sc s b):=by
 obtain ⟨fv,ln,h1,h2⟩:=hT
 have hfl:=hw.len
 have hso' : (t.sort : Int) = 85:=oM
 have hne : 0 < t.fields.length:=List.length_pos_iff.2 (hw.ne oM)
 obtain ⟨bf,of,cf,rfl,hsf⟩:=h2.expl hne
 have cx_wa:=dU (G:=G) (r:=r) (sc:=sc) (s:=s) (l:=[60]) (b:=b) ⟨oM,by simp⟩
 cases ht : c9 [60] s b with
 | false =>
  rw [ht,gV ht,Bool.not_false] at cx_wa
  have hno : b = true ∨ bC (aq qs) (rd (aq qs) n) t s = none:=by
   cases b with
   | true=>exact .inl rfl
   | false=>exact .inr (oH (.inr (.inr ⟨oM,rfl⟩)) (ju ht))
  have cx_fd:=pi (s:=s) (b:=true) (r:=r) hV hS hw hkf h1 h2 (fun _=>⟨rfl,hsf⟩) hs
  refine bY [(0,_),(1,_)] Tryz.func130 kR Tryz.ntmps130 rfl rfl tU fun B hB hW=>?_
  repeat' (first | refine jR ?_ | (refine jo ?_;first | refine jL fun _=>?_ | refine jV (aj rfl rfl aS rfl rfl) ?_ | refine jV (ax rfl rfl) ?_ | refine jC rfl rfl rfl ?_ | (refine aI rfl rfl rfl cx_wa rfl ?_;rintro _ _ rfl;dsimp only [zA,fA]) | (refine eH rfl rfl rfl cx_fd rfl ?_;rintro _ G1 _ hle ⟨t1,b1,rfl,htl,⟨rfl,rfl,hF⟩ | ⟨j,u1,c1,hj,rfl,hrep,hb0,hto,hg,hbd⟩⟩ <;> (dsimp only [zA,fA];skip))) | refine ac rfl (ay ‹_›) ?_ | refine ad rfl (aG oM) ?_)
  ·have cx_wb:=dU (G:=G1) (r:=r) (sc:=sc) (s:=t1) (l:=[62]) (b:=true) ⟨oM,by simp⟩
   rw [hJ,jm,Bool.not_false] at cx_wb
   repeat' (first | refine jR ?_ | (refine jo ?_;first | refine bM rfl ?_ | refine jC rfl rfl rfl ?_ | refine jV (iu rfl rfl) ?_ | (refine aI rfl rfl rfl cx_wb rfl ?_;rintro _ _ rfl;dsimp only [zA,fA])) | refine ad rfl rfl ?_)
   refine aW (vs:=[_]) rfl ⟨aJ rfl rfl rfl rfl,trivial⟩ rfl sB ⟨hle,.nd 85 [] 0 [],⟨85,[],0,none,0,0⟩,t1,true,by rw [hso];rfl,cZ dC dC,rfl,oM,fun h=>(by cases h),fun _=>⟨hno,by simp only [V.tot,V.tots,List.length_nil];omega⟩⟩
  ·cases hb0
 | true =>
  have hb : b = false:=by cases b with | true=>rw [hJ] at ht;cases ht | false=>rfl
  subst hb
  obtain ⟨s1,rfl⟩:=f5.1 ht
  rw [ht,gL,Bool.not_true] at cx_wa
  simp only [List.length_cons] at hs
  have hRT : bC (aq qs) (rd (aq qs) n) t (60 :: s1) = match aY (rd (aq qs) n) t s1 with
    | none=>none
    | some ((d,v),r)=>match r with
     | []=>none
     | c' :: r'=>if c'.toNat = 62 then some (.nd 85 [] d.tag [v],r') else none:=by
   unfold bC
   dsimp only
   rw [if_neg oM,if_neg oM,if_pos (show (60 : UInt8).toNat = 60 from rfl)]
   cases aY (rd (aq qs) n) t s1 <;> rfl
  have cx_fd:=pi (s:=s1) (b:=false) (r:=r) hV hS hw hkf h1 h2 (fun _=>⟨rfl,hsf⟩) ⟨oM,oM⟩
  refine bY [(0,_),(1,_)] Tryz.func130 kR Tryz.ntmps130 rfl rfl tU fun B hB hW=>?_
  repeat' (first | refine jR ?_ | (refine jo ?_;first | refine jL fun _=>?_ | refine jV (aj rfl rfl aS rfl rfl) ?_ | refine jV (ax rfl rfl) ?_ | refine jC rfl rfl rfl ?_ | (refine aI rfl rfl rfl cx_wa rfl ?_;rintro _ _ rfl;dsimp only [zA,fA]) | (refine eH rfl rfl rfl cx_fd rfl ?_;rintro _ G1 _ hle ⟨t1,b1,rfl,htl,⟨rfl,rfl,hF⟩ | ⟨j,u1,c1,hj,rfl,hrep,hb0,hto,hg,hbd⟩⟩ <;> (dsimp only [zA,fA];skip))) | refine ac rfl (ay ‹_›) ?_ | refine ad rfl (aG oM) ?_)
  ·have hno : bC (aq qs) (rd (aq qs) n) t (60 :: s1) = none:=by
    rcases hF with h | h
    ·cases h
    ·rw [hRT,h]
   have cx_wb:=dU (G:=G1) (r:=r) (sc:=sc) (s:=t1) (l:=[62]) (b:=true) ⟨oM,by simp⟩
   rw [hJ,jm,Bool.not_false] at cx_wb
   repeat' (first | refine jR ?_ | (refine jo ?_;first | refine bM rfl ?_ | refine jC rfl rfl rfl ?_ | refine jV (iu rfl rfl) ?_ | (refine aI rfl rfl rfl cx_wb rfl ?_;rintro _ _ rfl;dsimp only [zA,fA])) | refine ad rfl rfl ?_)
   refine aW (vs:=[_]) rfl ⟨aJ rfl rfl rfl rfl,trivial⟩ rfl sB ⟨hle,.nd 85 [] 0 [],⟨85,[],0,none,0,0⟩,t1,true,by rw [hso];rfl,cZ dC dC,rfl,by simp only [List.length_cons];omega,fun h=>(by cases h),fun _=>⟨.inr hno,by simp only [V.tot,V.tots,List.length_nil,List.length_cons];omega⟩⟩
  ·obtain ⟨kb,ko,kc,d,rfl,htg,hsd,hrd,hru⟩:=ux hrep
   have hsf1:=hsf.mono hle
   cases b1 with
   | true =>
    have hno : bC (aq qs) (rd (aq qs) n) t (60 :: s1) = none:=by rw [hRT,hbd rfl]
    have cx_wb:=dU (G:=G1) (r:=r) (sc:=sc) (s:=t1) (l:=[62]) (b:=true) ⟨oM,by simp⟩
    rw [hJ,jm,Bool.not_false] at cx_wb
    repeat' (first | refine jR ?_ | (refine jo ?_;first | refine jV (iu rfl rfl) ?_ | (refine aI rfl rfl rfl cx_wb rfl ?_;rintro _ _ rfl;dsimp only [zA,fA])) | refine ac rfl rfl ?_)
    rename_i x4 x5 _ x6 _
    dsimp only [VC.sl]
    (refine am (ao (id:=25) [.blk x6 (.cells (List.toArray [U8 ((61 : Nat) : Int),S [],I (ab t.fields j).tag,.slice (some ⟨kb,ko,none⟩) 1 kc]) c8 (0,0))] (by intro y hy;simp only [List.mem_cons,List.not_mem_nil,or_false] at hy ⊢;simp [hy]) al ?_);refine jW 6 [0,1,2,4] (aa 10 23) ?_;((refine jG (aa 10 31) 3 rfl (bQ rfl rfl aS ?_ rfl rfl) ?_;focus omega));refine jW 4 [6] (aa 10 95) ?_;(refine jG (aa 10 127) 5 rfl (aX rfl rfl rfl) ?_);refine jA 7 rfl ?_;(refine jD rfl rfl rfl ?_);refine jK (aa 10 255) ?_;refine jW 1 [8] (aa 10 511) ?_;refine jA 9 rfl ?_;(refine jD rfl rfl rfl ?_);refine jK (aa 10 1023) ?_;refine jQ ?_)
    all_goals repeat' (first | refine jR ?_ | (refine jo ?_;first | refine bM rfl ?_ | refine jC rfl rfl rfl ?_))
    all_goals refine aW (vs:=[_]) rfl ⟨aJ rfl rfl rfl rfl,trivial⟩ rfl sB ⟨hle,.nd 85 [] (ab t.fields j).tag [u1],⟨85,[],(ab t.fields j).tag,some ⟨kb,ko,none⟩,1,kc⟩,t1,true,by rw [hso];rfl,hru,rfl,by simp only [List.length_cons] at *;omega,fun h=>(by cases h),fun _=>⟨.inr hno,by simp only [V.tot,V.tots,List.length_nil,List.length_cons] at *;omega⟩⟩
   | false =>
    have hgd:=hg rfl
    have cx_wb:=dU (G:=G1) (r:=r) (sc:=sc) (s:=t1) (l:=[62]) (b:=false) ⟨oM,by simp⟩
    cases ht2 : c9 [62] t1 false with
    | true =>
     obtain ⟨t2,rfl⟩:=f5.1 ht2
     rw [ht2,gL,Bool.not_true] at cx_wb
     have hgood : bC (aq qs) (rd (aq qs) n) t (60 :: s1) = some (.nd 85 [] (ab t.fields j).tag [u1],t2):=by
      rw [hRT,hgd];dsimp only;rw [if_pos (show (62 : UInt8).toNat = 62 from rfl)]
     repeat' (first | refine jR ?_ | (refine jo ?_;first | refine jV (iu rfl rfl) ?_ | (refine aI rfl rfl rfl cx_wb rfl ?_;rintro _ _ rfl;dsimp only [zA,fA])) | refine ac rfl rfl ?_)
     rename_i x4 x5 _ x6 _
     dsimp only [VC.sl]
     (refine am (ao (id:=25) [.blk x6 (.cells (List.toArray [U8 ((61 : Nat) : Int),S [],I (ab t.fields j).tag,.slice (some ⟨kb,ko,none⟩) 1 kc]) c8 (0,0))] (by intro y hy;simp only [List.mem_cons,List.not_mem_nil,or_false] at hy ⊢;simp [hy]) al ?_);refine jW 6 [0,1,2,4] (aa 10 23) ?_;((refine jG (aa 10 31) 3 rfl (bQ rfl rfl aS ?_ rfl rfl) ?_;focus omega));refine jW 4 [6] (aa 10 95) ?_;(refine jG (aa 10 127) 5 rfl (aX rfl rfl rfl) ?_);refine jA 7 rfl ?_;(refine jD rfl rfl rfl ?_);refine jK (aa 10 255) ?_;refine jW 1 [8] (aa 10 511) ?_;refine jA 9 rfl ?_;(refine jD rfl rfl rfl ?_);refine jK (aa 10 1023) ?_;refine jQ ?_)
     all_goals repeat' (first | refine jR ?_ | (refine jo ?_;first | refine bM rfl ?_ | refine jC rfl rfl rfl ?_))
     all_goals refine aW (vs:=[_]) rfl ⟨aJ rfl rfl rfl rfl,trivial⟩ rfl sB ⟨hle,.nd 85 [] (ab t.fields j).tag [u1],⟨85,[],(ab t.fields j).tag,some ⟨kb,ko,none⟩,1,kc⟩,t2,false,by rw [hso];rfl,hru,rfl,by simp only [List.length_cons] at *;omega,fun _=>⟨rfl,hgood⟩,fun h=>(by cases h)⟩
    | false =>
     rw [ht2,gV ht2,Bool.not_false] at cx_wb
     have hno : bC (aq qs) (rd (aq qs) n) t (60 :: s1) = none:=by
      rw [hRT,hgd]
      dsimp only
      cases t1 with
      | nil=>rfl
      | cons e t2 =>
       dsimp only
       rw [if_neg]
       intro h62
       exact ju ht2 t2 (by rw [show e = 62 from UInt8.toNat_inj.1 h62])
     repeat' (first | refine jR ?_ | (refine jo ?_;first | refine jV (iu rfl rfl) ?_ | (refine aI rfl rfl rfl cx_wb rfl ?_;rintro _ _ rfl;dsimp only [zA,fA])) | refine ac rfl rfl ?_)
     rename_i x4 x5 _ x6 _
     dsimp only [VC.sl]
     (refine am (ao (id:=25) [.blk x6 (.cells (List.toArray [U8 ((61 : Nat) : Int),S [],I (ab t.fields j).tag,.slice (some ⟨kb,ko,none⟩) 1 kc]) c8 (0,0))] (by intro y hy;simp only [List.mem_cons,List.not_mem_nil,or_false] at hy ⊢;simp [hy]) al ?_);refine jW 6 [0,1,2,4] (aa 10 23) ?_;((refine jG (aa 10 31) 3 rfl (bQ rfl rfl aS ?_ rfl rfl) ?_;focus omega));refine jW 4 [6] (aa 10 95) ?_;(refine jG (aa 10 127) 5 rfl (aX rfl rfl rfl) ?_);refine jA 7 rfl ?_;(refine jD rfl rfl rfl ?_);refine jK (aa 10 255) ?_;refine jW 1 [8] (aa 10 511) ?_;refine jA 9 rfl ?_;(refine jD rfl rfl rfl ?_);refine jK (aa 10 1023) ?_;refine jQ ?_)
     all_goals repeat' (first | refine jR ?_ | (refine jo ?_;first | refine bM rfl ?_ | refine jC rfl rfl rfl ?_))
     all_goals refine aW (vs:=[_]) rfl ⟨aJ rfl rfl rfl rfl,trivial⟩ rfl sB ⟨hle,.nd 85 [] (ab t.fields j).tag [u1],⟨85,[],(ab t.fields j).tag,some ⟨kb,ko,none⟩,1,kc⟩,t1,true,by rw [hso];rfl,hru,rfl,by simp only [List.length_cons] at *;omega,fun h=>(by cases h),fun _=>⟨.inr hno,by simp only [V.tot,V.tots,List.length_nil,List.length_cons] at *;omega⟩⟩
theorem eE {ts : List Ty} {f : adA → adA → Option (V × adA)} {t : Ty} {s : adA} {vs : List V} {last : Int} : ∀ {m : Nat},aY f t s = none → cd ts f t m last s vs = none
 | 0,_=>rfl
 | m + 1,h=>by rw [cd,h]
theorem kV {ts : List Ty} {f : adA → adA → Option (V × adA)} {t : Ty} {s r : adA} {vs : List V} {last : Int} {d : Fld} {v : V} {m : Nat} (h : aY f t s = some ((d,v),r)) (hm : 0 < m) :
  cd ts f t m last s vs = if d.tag ≤ last ∨ v.out = bT ts d then none else match r with
   | []=>none
   | c :: r'=>if c.toNat = 44 then cd ts f t (m - 1) d.tag r' (vs ++ [.nd 61 [] d.tag [v]]) else if c.toNat = 125 then some (vs ++ [.nd 61 [] d.tag [v]],r') else none:=by
 obtain ⟨m,rfl⟩ : ∃ k,m = k + 1:=⟨m - 1,oM⟩
 rw [cd,h];rfl
theorem k9 {f : adA → adA → Option (V × adA)} {t : Ty} : aY f t [] = none:=by
 unfold aY cK
 have : aK (([] : adA).takeWhile bn) 200 = none:=by
  cases h : aK (([] : adA).takeWhile bn) 200 with
  | none=>rfl
  | some m =>
   have:=(d6 h).2.1
   have h2:=gy m
   rw [← this] at h2;simp at h2
 rw [this];rfl
theorem acF {n r sc bt : Nat} {qs : List dp} {t : Ty} {s : adA} {b : Bool} (hV : nK n sc qs) (hS : ScI G sc qs) (hW0 : SchW (aq qs)) (hkf : ∀ d ∈ t.fields,aB (aq qs) d.kind = true) (hT : oF G bt t) (hw : TyW t) (hso : t.sort = 82) (hs : s.length ≤ n ∧ s.length ≤ 1000) :
  fK adz 130 [Pt r 0,Pt bt 0] G [eG r sc s b] (iT (bC (aq qs) (rd (aq qs) n) t) r sc s b):=by
 obtain ⟨fv,ln,h1,h2⟩:=hT
 have hfl:=hw.len
 have hso' : (t.sort : Int) = 82:=oM
 have cx_wa:=dU (G:=G) (r:=r) (sc:=sc) (s:=s) (l:=[123]) (b:=b) ⟨oM,by simp⟩
 have cx_tk:=iB (G:=G) (r:=r) (sc:=sc) (s:=eB [123] s b) (l:=[125]) (b:=!c9 [123] s b) ⟨by have:=ke (l:=[123]) (s:=s) (b:=b);omega,by simp⟩
 cases ht : c9 [123] s b with
 | false =>
  rw [ht,gV ht] at cx_wa cx_tk
  rw [Bool.not_false,hJ,jm] at cx_tk
  have cx_wb:=dU (G:=G) (r:=r) (sc:=sc) (s:=s) (l:=[125]) (b:=true) ⟨oM,by simp⟩
  rw [hJ,jm] at cx_wb
  have hno : b = true ∨ bC (aq qs) (rd (aq qs) n) t s = none:=by
   cases b with
   | true=>exact .inl rfl
   | false=>exact .inr (oH (.inl ⟨hso,rfl⟩) (ju ht))
  refine bY [(0,_),(1,_)] Tryz.func130 kR Tryz.ntmps130 rfl rfl tU fun B hB hW=>?_
  repeat' (first | refine jR ?_ | (refine jo ?_;first | refine jL fun _=>?_ | refine jV (aj rfl rfl aS rfl rfl) ?_ | refine jV (ax rfl rfl) ?_ | refine jC rfl rfl rfl ?_ | (refine aI rfl rfl rfl cx_wa rfl ?_;rintro _ _ rfl;dsimp only [zA,fA]) | (refine aI rfl rfl rfl cx_tk rfl ?_;rintro _ _ ⟨rfl,rfl⟩;dsimp only [zA,fA])) | (refine ad rfl (by first | rfl | (refine decide_eq_false ?_;(omega))) ?_))
  rename_i x4 x5 _
  refine aT (ι:=Unit) (fun i=>True) (fun i=>[(0,Pt r 0),(1,Pt bt 0),(4,Pt x4 0),(5,Pt x5 0),(8,I 0)]) (fun _=>G) (fun i=>[eG r sc s true,ro x5 [U8 t.sort,S [],I 0,aQ],ro x4 [U8 0,S [],I 0,aQ]]) (fun i=>0) () ?_ tU rfl a7 (fun i Hi=>?_)
  ·trivial
  repeat' (first | refine jR ?_ | (refine jo ?_;first | refine aD rfl ?_ | refine bM rfl ?_ | refine jC rfl rfl rfl ?_ | (refine aI rfl rfl rfl cx_wb rfl ?_;rintro _ _ rfl;dsimp only [zA,fA])) | refine ad rfl rfl ?_)
  refine aW (vs:=[_]) rfl ⟨aJ rfl rfl rfl rfl,trivial⟩ rfl sB ⟨Gh.le.refl _,.nd 82 [] 0 [],⟨82,[],0,none,0,0⟩,s,true,by rw [hso];rfl,cZ dC dC,rfl,Nat.le_refl _,fun h=>(by cases h),fun _=>⟨hno,by simp only [V.tot,V.tots,List.length_nil];omega⟩⟩
 | true =>
  have hb : b = false:=by cases b with | true=>rw [hJ] at ht;cases ht | false=>rfl
  subst hb
  obtain ⟨s1,rfl⟩:=f5.1 ht
  rw [ht,gL] at cx_wa cx_tk
  rw [Bool.not_true] at cx_wa cx_tk
  simp only [List.length_cons] at hs
  cases ht2 : c9 [125] s1 false with
  | true =>
   obtain ⟨s2,rfl⟩:=f5.1 ht2
   rw [ht2,gL] at cx_tk
   have hgood : bC (aq qs) (rd (aq qs) n) t (123 :: 125 :: s2) = some (.nd 82 [] 0 [],s2):=by
    unfold bC
    dsimp only
    rw [if_pos hso,if_pos (show (123 : UInt8).toNat = 123 from rfl),if_pos (show (125 : UInt8).toNat = 125 from rfl)]
   refine bY [(0,_),(1,_)] Tryz.func130 kR Tryz.ntmps130 rfl rfl tU fun B hB hW=>?_
   repeat' (first | refine jR ?_ | (refine jo ?_;first | refine jL fun _=>?_ | refine bM rfl ?_ | refine jV (aj rfl rfl aS rfl rfl) ?_ | refine jV (ax rfl rfl) ?_ | refine jC rfl rfl rfl ?_ | (refine aI rfl rfl rfl cx_wa rfl ?_;rintro _ _ rfl;dsimp only [zA,fA]) | (refine aI rfl rfl rfl cx_tk rfl ?_;rintro _ _ ⟨rfl,rfl⟩;dsimp only [zA,fA])) | refine ac rfl rfl ?_ | refine ad rfl (aG oM) ?_)
   refine aW (vs:=[_]) rfl ⟨aJ rfl rfl rfl rfl,trivial⟩ rfl sB ⟨Gh.le.refl _,.nd 82 [] 0 [],⟨82,[],0,none,0,0⟩,s2,false,by rw [hso];rfl,cZ dC dC,rfl,by simp only [List.length_cons];omega,fun _=>⟨rfl,hgood⟩,fun h=>(by cases h)⟩
  | false =>
   rw [ht2,gV ht2] at cx_tk
   have hR : bC (aq qs) (rd (aq qs) n) t (123 :: s1) = (cd (aq qs) (rd (aq qs) n) t (s1.length + 1) 0 s1 []).map fun x=>(.nd 82 [] 0 x.1,x.2):=by
    unfold bC
    dsimp only
    rw [if_pos hso,if_pos (show (123 : UInt8).toNat = 123 from rfl)]
    cases s1 with
    | nil=>rw [eE k9];rfl
    | cons e r' =>
     dsimp only
     rw [if_neg]
     intro h93
     exact ju ht2 r' (by rw [show e = 125 from UInt8.toNat_inj.1 h93])
   refine bY [(0,_),(1,_)] Tryz.func130 kR Tryz.ntmps130 rfl rfl tU fun B hB hW=>?_
   repeat' (first | refine jR ?_ | (refine jo ?_;first | refine jL fun _=>?_ | refine jV (aj rfl rfl aS rfl rfl) ?_ | refine jV (ax rfl rfl) ?_ | refine jC rfl rfl rfl ?_ | (refine aI rfl rfl rfl cx_wa rfl ?_;rintro _ _ rfl;dsimp only [zA,fA]) | (refine aI rfl rfl rfl cx_tk rfl ?_;rintro _ _ ⟨rfl,rfl⟩;dsimp only [zA,fA])) | (refine ad rfl (by first | rfl | (refine decide_eq_false ?_;(omega))) ?_))
   rename_i x4 x5 _
   refine Nx.addNil c8 4 (Nx.perm (List.Perm.swap _ _ _) ?_)
   refine aT (ι:=List V × List VC × Option Addr × Nat × adA × Nat × Int × Gh) (fun q=>(V.reps q.2.2.2.2.2.2.2 q.1 q.2.1 ∧ Gh.le G q.2.2.2.2.2.2.2) ∧ (cd (aq qs) (rd (aq qs) n) t (s1.length + 1) 0 s1 [] = cd (aq qs) (rd (aq qs) n) t q.2.2.2.2.2.1 q.2.2.2.2.2.2.1 q.2.2.2.2.1 q.1 ∧ q.2.2.2.2.1.length < q.2.2.2.2.2.1) ∧ (V.tots q.1 + 100 * q.2.2.2.2.1.length + 100 ≤ 100 * (s1.length + 1) ∧ q.2.2.2.2.1.length ≤ s1.length)) (fun q=>[(0,Pt r 0),(1,Pt bt 0),(4,Pt x4 0),(5,Pt x5 0),(8,I q.2.2.2.2.2.2.1)]) (fun q=>q.2.2.2.2.2.2.2) (fun q=>[eG r sc q.2.2.2.2.1 false,.acc (.slice q.2.2.1 q.1.length q.2.2.2.1) c8 4 q.1.length (ak bJ q.2.1),ro x5 [U8 t.sort,S [],I 0,.slice q.2.2.1 q.1.length q.2.2.2.1],ro x4 [U8 0,S [],I 0,aQ]]) (fun q=>q.2.2.2.2.1.length) ([],[],none,0,s1,s1.length + 1,0,G) ?_ tU rfl a7 (fun q Hq=>?_)
   ·exact ⟨⟨rfl,Gh.le.refl _⟩,⟨rfl,by dsimp only;omega⟩,by dsimp only;simp only [V.tots];omega,Nat.le_refl _⟩
   obtain ⟨vs,cs,a,cap,t',m,last,Gq⟩:=q
   dsimp only at Hq ⊢
   obtain ⟨⟨hreps,hgq⟩,⟨hit,htm⟩,hT,htl'⟩:=Hq
   have hcl:=gp hreps
   have hkl:=di vs
   have hfv : t.fields ≠ [] → ∃ bf of cf,fv = .slice (some ⟨bf,of,none⟩) t.fields.length cf ∧ b9 G bf of (ak iF t.fields):=fun h=>by
    obtain ⟨bf,of,cf,e,hs⟩:=h2.expl (List.length_pos_iff.2 h)
    exact ⟨bf,of,cf,e,hs⟩
   obtain ⟨bf,of,cf,hfv⟩ : ∃ bf of cf,t.fields ≠ [] → fv = .slice (some ⟨bf,of,none⟩) t.fields.length cf ∧ b9 G bf of (ak iF t.fields):=by
    by_cases h : t.fields = []
    ·exact ⟨0,0,0,fun h'=>absurd h h'⟩
    ·obtain ⟨bf,of,cf,h⟩:=hfv h
     exact ⟨bf,of,cf,fun _=>h⟩
   have cx_fd:=pi (s:=t') (b:=false) (r:=r) hV (hS.mono hgq) hw hkf (h1.mono hgq) (h2.mono hgq) (fun h=>⟨(hfv h).1,(hfv h).2.mono hgq⟩) ⟨oM,oM⟩
   repeat' (first | refine jR ?_ | (refine jo ?_;first | refine jL fun _=>?_ | refine aD rfl ?_ | refine jD rfl rfl rfl ?_ | refine jC rfl rfl rfl ?_ | (refine eH rfl rfl rfl cx_fd rfl ?_;rintro _ G1 _ hle ⟨t1,b1,rfl,htl,⟨rfl,rfl,hF⟩ | ⟨j,u1,c1,hj,rfl,hrep,hb0,hto,hg,hbd⟩⟩ <;> (dsimp only [zA,fA];skip))) | refine ac rfl rfl ?_ | (refine am (ao (id:=9) _ (fun _ h=>h) al ?_);refine jT 23 [0] (aa 24 1) ?_;(refine jG (aa 24 3) 1 rfl (db rfl rfl) ?_);refine jT 21 [2] (aa 24 7) ?_;(try (first | refine Nx.re (d:=38) (v':=Bo true) rfl (congrArg Value.bool rfl) ?_ | refine Nx.re (d:=38) (v':=Bo false) rfl (congrArg Value.bool rfl) ?_));refine jT 17 [3,4,5,7] (aa 24 191) ?_;(refine jN (aa 24 255) 6 rfl ?_);refine jT 15 [8] (aa 24 511) ?_;(refine jG (aa 24 1023) 9 rfl (bO rfl rfl rfl) ?_);refine jT 13 [10] (aa 24 2047) ?_;(try (refine Nx.re (d:=46) (v':=Bo true) rfl (congrArg Value.bool rfl) ?_));refine jT 8 [11,16,17,18,20] (aa 24 1511423) ?_;(refine jN (aa 24 1515519) 12 rfl ?_);(refine jN (aa 24 1523711) 13 rfl ?_);(refine jN (aa 24 1540095) 14 rfl ?_);(refine jN (aa 24 2064383) 19 rfl ?_);(refine jN (aa 24 2097151) 15 rfl ?_);(refine jN (aa 24 4194303) 21 rfl ?_);refine jT 1 [22] (aa 24 8388607) ?_;(refine jG (aa 24 16777215) 23 rfl (bO rfl rfl rfl) ?_);refine jQ ?_))
   ·have hgl:=hgq.trans hle
    have hno : aY (rd (aq qs) n) t t' = none:=by
     rcases hF with h | h
     ·cases h
     ·exact h
    have hit2 : cd (aq qs) (rd (aq qs) n) t m last t' vs = none:=eE hno
    have cx_wb:=dU (G:=G1) (r:=r) (sc:=sc) (s:=t1) (l:=[125]) (b:=true) ⟨oM,by simp⟩
    rw [hJ,jm,Bool.not_false] at cx_wb
    repeat' (first | refine jR ?_ | (refine jo ?_;first | refine bM rfl ?_ | refine jC rfl rfl rfl ?_ | (refine aI rfl rfl rfl cx_wb rfl ?_;rintro _ _ rfl;dsimp only [zA,fA])))
    refine Nx.sealS (v:=.slice a vs.length cap) fun G2 hG2 hsl=>?_
    refine aW (vs:=[_]) rfl ⟨aJ rfl rfl rfl rfl,trivial⟩ rfl sB ⟨hgl.trans hG2,.nd 82 [] 0 vs,⟨82,[],0,a,vs.length,cap⟩,t1,true,by rw [hso];rfl,dS dC dC (fun h=>absurd h dC) rfl (by rw [hcl];exact hsl) (cS (hle.trans hG2) hreps),rfl,by simp only [List.length_cons];omega,fun h=>(by cases h),fun _=>⟨.inr (by rw [hR,hit,hit2];rfl),by rw [bA];simp only [List.length_cons,List.length_nil];omega⟩⟩
   ·have hgl:=hgq.trans hle
    obtain ⟨kb,ko,kc,d,rfl,htg,hsd,hrd,hru⟩:=ux hrep
    dsimp only [bJ,VC.sl]
    have hsf1:=(hfv (fun h=>by rw [h] at hj;simp at hj)).2.mono hgl
    have hS1:=hS.mono hgl
    have cx_pr:=lG (G:=G1) u1.tot (Nat.le_refl _) oM hrd
    have hotl:=uG hrd
    have cx_of:=vU hS1 hW0 hsf1 hj (hkf _ (bc hj))
    have cx_wb:=dU (G:=G1) (r:=r) (sc:=sc) (s:=t1) (l:=[125]) (b:=true) ⟨oM,by simp⟩
    rw [hJ,jm,Bool.not_false] at cx_wb
    by_cases hbrk : (ab t.fields j).tag ≤ last ∨ u1.out = bT (aq qs) (ab t.fields j)
    ·have hit2 : cd (aq qs) (rd (aq qs) n) t m last t' vs = none:=by
      cases b1 with
      | true=>exact eE (hbd rfl)
      | false=>rw [kV (hg rfl) oM,if_pos hbrk]
     by_cases hlast : (ab t.fields j).tag ≤ last
     ·repeat' (first | refine jR ?_ | (refine jo ?_;first | refine bM rfl ?_ | refine jD rfl rfl rfl ?_ | refine jC rfl rfl rfl ?_ | (refine aI rfl rfl rfl cx_wb rfl ?_;rintro _ _ rfl;dsimp only [zA,fA])) | refine ac rfl rfl ?_ | (refine am (ao (id:=9) _ (fun _ h=>h) al ?_);refine jT 23 [0] (aa 24 1) ?_;(refine jG (aa 24 3) 1 rfl (db rfl rfl) ?_);refine jT 21 [2] (aa 24 7) ?_;(try (refine Nx.re (d:=38) (v':=Bo false) rfl (congrArg Value.bool rfl) ?_));refine jT 17 [3,4,5,7] (aa 24 191) ?_;((refine jG (aa 24 255) 6 rfl (bQ rfl rfl aS ?_ rfl rfl) ?_;focus omega));refine jT 15 [8] (aa 24 511) ?_;(refine jG (aa 24 1023) 9 rfl (bm rfl rfl rfl) ?_);refine jT 13 [10] (aa 24 2047) ?_;(try (refine Nx.re (d:=46) (v':=Bo true) rfl (congrArg Value.bool (ay ‹_›)) ?_));refine jT 8 [11,16,17,18,20] (aa 24 1511423) ?_;(refine jN (aa 24 1515519) 12 rfl ?_);(refine jN (aa 24 1523711) 13 rfl ?_);(refine jN (aa 24 1540095) 14 rfl ?_);(refine jN (aa 24 2064383) 19 rfl ?_);(refine jN (aa 24 2097151) 15 rfl ?_);(refine jN (aa 24 4194303) 21 rfl ?_);refine jT 1 [22] (aa 24 8388607) ?_;(refine jG (aa 24 16777215) 23 rfl (bO rfl rfl rfl) ?_);refine jQ ?_))
      refine Nx.sealS (v:=.slice a vs.length cap) fun G2 hG2 hsl=>?_
      refine aW (vs:=[_]) rfl ⟨aJ rfl rfl rfl rfl,trivial⟩ rfl sB ⟨hgl.trans hG2,.nd 82 [] 0 vs,⟨82,[],0,a,vs.length,cap⟩,t1,true,by rw [hso];rfl,dS dC dC (fun h=>absurd h dC) rfl (by rw [hcl];exact hsl) (cS (hle.trans hG2) hreps),rfl,by simp only [List.length_cons];omega,fun h=>(by cases h),fun _=>⟨.inr (by rw [hR,hit,hit2];rfl),by rw [bA];simp only [List.length_cons,List.length_nil];omega⟩⟩
     ·have heq : u1.out = bT (aq qs) (ab t.fields j):=by
       rcases hbrk with h | h
       ·exact absurd h hlast
       ·exact h
      repeat' (first | refine jR ?_ | (refine jo ?_;first | refine bM rfl ?_ | refine jD rfl rfl rfl ?_ | refine jC rfl rfl rfl ?_ | (refine aI rfl rfl rfl cx_wb rfl ?_;rintro _ _ rfl;dsimp only [zA,fA])) | refine ac rfl (ay ‹_›) ?_ | (refine am (ao (id:=9) _ (fun _ h=>h) al ?_);refine jT 23 [0] (aa 24 1) ?_;(refine jG (aa 24 3) 1 rfl (db rfl rfl) ?_);refine jT 21 [2] (aa 24 7) ?_;(try (refine Nx.re (d:=38) (v':=Bo false) rfl (congrArg Value.bool rfl) ?_));refine jT 17 [3,4,5,7] (aa 24 191) ?_;((refine jG (aa 24 255) 6 rfl (bQ rfl rfl aS ?_ rfl rfl) ?_;focus omega));refine jT 15 [8] (aa 24 511) ?_;(refine jG (aa 24 1023) 9 rfl (bm rfl rfl rfl) ?_);refine jT 13 [10] (aa 24 2047) ?_;(try (refine Nx.re (d:=46) (v':=Bo false) rfl (congrArg Value.bool (aG ‹_›)) ?_));refine jT 8 [11,16,17,18,20] (aa 24 1511423) ?_;(refine jG (aa 24 1515519) 12 rfl (aX rfl rfl rfl) ?_);(refine jG (aa 24 1523711) 13 rfl (aN rfl rfl oM) ?_);((refine jG (aa 24 1540095) 14 rfl (dt rfl rfl aS ?_) ?_;(focus ((simp only [List.length_append,List.length_cons,List.length_nil,List.length_take];omega);done))));(refine jG (aa 24 2064383) 19 rfl (aX rfl rfl rfl) ?_);(refine jA 15 rfl ?_;(refine ae rfl rfl rfl cx_pr rfl ?_);refine jS (aa 24 2097151) ?_);(refine jA 21 rfl ?_;(refine ae rfl rfl rfl cx_of rfl ?_);refine jS (aa 24 4194303) ?_);refine jT 1 [22] (aa 24 8388607) ?_;(refine jG (aa 24 16777215) 23 rfl (bm rfl rfl rfl) ?_);refine jQ ?_))
      refine Nx.sealS (v:=.slice a vs.length cap) fun G2 hG2 hsl=>?_
      refine aW (vs:=[_]) rfl ⟨aJ rfl rfl rfl rfl,trivial⟩ rfl sB ⟨hgl.trans hG2,.nd 82 [] 0 vs,⟨82,[],0,a,vs.length,cap⟩,t1,true,by rw [hso];rfl,dS dC dC (fun h=>absurd h dC) rfl (by rw [hcl];exact hsl) (cS (hle.trans hG2) hreps),rfl,by simp only [List.length_cons];omega,fun h=>(by cases h),fun _=>⟨.inr (by rw [hR,hit,hit2];rfl),by rw [bA];simp only [List.length_cons,List.length_nil];omega⟩⟩
    ·have hlast : ¬ (ab t.fields j).tag ≤ last:=fun h=>hbrk (.inl h)
     have heq : ¬ u1.out = bT (aq qs) (ab t.fields j):=fun h=>hbrk (.inr h)
     have hrow : ak bJ cs ++ [U8 ((61 : Nat) : Int),S [],I (ab t.fields j).tag,.slice (some ⟨kb,ko,none⟩) 1 kc] = ak bJ (cs ++ [⟨61,[],(ab t.fields j).tag,some ⟨kb,ko,none⟩,1,kc⟩]):=(bR bJ cs (⟨61,[],(ab t.fields j).tag,some ⟨kb,ko,none⟩,1,kc⟩ : VC)).symm
     have hr2 : V.reps G1 (vs ++ [.nd 61 [] (ab t.fields j).tag [u1]]) (cs ++ [⟨61,[],(ab t.fields j).tag,some ⟨kb,ko,none⟩,1,kc⟩]):=hY hrep (cS hle hreps)
     have hvl : (vs ++ [V.nd 61 [] (ab t.fields j).tag [u1]]).length = vs.length + 1:=by simp
     have htu : V.tots (vs ++ [V.nd 61 [] (ab t.fields j).tag [u1]]) = V.tots vs + (20 + u1.tot):=by simp [dY,V.tots,V.tot]
     cases b1 with
     | true =>
      have hit2 : cd (aq qs) (rd (aq qs) n) t m last t' vs = none:=eE (hbd rfl)
      have cx_tm:=iB (G:=G1) (r:=r) (sc:=sc) (s:=t1) (l:=[44]) (b:=true) ⟨oM,by simp⟩
      rw [hJ,jm] at cx_tm
      repeat' (first | refine jR ?_ | (refine jo ?_;first | refine aD rfl ?_ | (refine jV (bQ rfl rfl aS ?_ rfl rfl) ?_;focus omega) | refine bM rfl ?_ | refine jD rfl rfl rfl ?_ | refine jC rfl rfl rfl ?_ | refine jF fun _=>?_ | refine bD rfl rfl rfl rfl rfl rfl rfl rfl rfl oM fun _ _=>?_ | (refine aI rfl rfl rfl cx_wb rfl ?_;rintro _ _ rfl;dsimp only [zA,fA]) | (refine aI rfl rfl rfl cx_tm rfl ?_;rintro _ _ ⟨rfl,rfl⟩;dsimp only [zA,fA])) | refine ac rfl rfl ?_ | refine ad rfl (aG ‹_›) ?_ | (refine am (ao (id:=9) _ (fun _ h=>h) al ?_);refine jT 23 [0] (aa 24 1) ?_;(refine jG (aa 24 3) 1 rfl (db rfl rfl) ?_);refine jT 21 [2] (aa 24 7) ?_;(try (refine Nx.re (d:=38) (v':=Bo false) rfl (congrArg Value.bool rfl) ?_));refine jT 17 [3,4,5,7] (aa 24 191) ?_;((refine jG (aa 24 255) 6 rfl (bQ rfl rfl aS ?_ rfl rfl) ?_;focus omega));refine jT 15 [8] (aa 24 511) ?_;(refine jG (aa 24 1023) 9 rfl (bm rfl rfl rfl) ?_);refine jT 13 [10] (aa 24 2047) ?_;(try (refine Nx.re (d:=46) (v':=Bo false) rfl (congrArg Value.bool (aG ‹_›)) ?_));refine jT 8 [11,16,17,18,20] (aa 24 1511423) ?_;(refine jG (aa 24 1515519) 12 rfl (aX rfl rfl rfl) ?_);(refine jG (aa 24 1523711) 13 rfl (aN rfl rfl oM) ?_);((refine jG (aa 24 1540095) 14 rfl (dt rfl rfl aS ?_) ?_;(focus ((simp only [List.length_append,List.length_cons,List.length_nil,List.length_take];omega);done))));(refine jG (aa 24 2064383) 19 rfl (aX rfl rfl rfl) ?_);(refine jA 15 rfl ?_;(refine ae rfl rfl rfl cx_pr rfl ?_);refine jS (aa 24 2097151) ?_);(refine jA 21 rfl ?_;(refine ae rfl rfl rfl cx_of rfl ?_);refine jS (aa 24 4194303) ?_);refine jT 1 [22] (aa 24 8388607) ?_;(refine jG (aa 24 16777215) 23 rfl (bm rfl rfl rfl) ?_);refine jQ ?_))
      rename_i _ y1 yc _
      rw [hrow]
      refine Nx.sealS (v:=.slice (some ⟨y1,0,none⟩) (vs.length + 1) yc) fun G2 hG2 hsl=>?_
      refine aW (vs:=[_]) rfl ⟨aJ rfl rfl rfl rfl,trivial⟩ rfl sB ⟨hgl.trans hG2,.nd 82 [] 0 (vs ++ [.nd 61 [] (ab t.fields j).tag [u1]]),⟨82,[],0,some ⟨y1,0,none⟩,vs.length + 1,yc⟩,t1,true,by rw [hso];rfl,dS dC dC (fun h=>absurd h dC) hvl.symm (by rw [List.length_append,List.length_singleton,hcl];exact hsl) (cS hG2 hr2),rfl,by simp only [List.length_cons];omega,fun h=>(by cases h),fun _=>⟨.inr (by rw [hR,hit,hit2];rfl),by rw [bA,htu];simp only [List.length_cons,List.length_nil];omega⟩⟩
     | false =>
      have hst:=kV (ts:=aq qs) (vs:=vs) (last:=last) (m:=m) (hg rfl) oM
      rw [if_neg hbrk] at hst
      have cx_tm:=iB (G:=G1) (r:=r) (sc:=sc) (s:=t1) (l:=[44]) (b:=false) ⟨oM,by simp⟩
      clear cx_wb
      have cx_wb:=dU (G:=G1) (r:=r) (sc:=sc) (s:=t1) (l:=[125]) (b:=false) ⟨oM,by simp⟩
      cases ht3 : c9 [44] t1 false with
      | true =>
       obtain ⟨t2,rfl⟩:=f5.1 ht3
       rw [ht3,gL] at cx_tm
       simp only [List.length_cons] at htl hto
       dsimp only at hst
       rw [if_pos (show (44 : UInt8).toNat = 44 from rfl)] at hst
       have hlt : t2.length < m - 1:=oM
       repeat' (first | refine jR ?_ | (refine jo ?_;first | refine aD rfl ?_ | (refine jV (bQ rfl rfl aS ?_ rfl rfl) ?_;focus omega) | refine bM rfl ?_ | refine jD rfl rfl rfl ?_ | refine jF fun _=>?_ | refine bD rfl rfl rfl rfl rfl rfl rfl rfl rfl oM fun _ _=>?_ | (refine aI rfl rfl rfl cx_tm rfl ?_;rintro _ _ ⟨rfl,rfl⟩;dsimp only [zA,fA])) | (refine ad rfl (by first | rfl | (refine decide_eq_false ?_;(assumption))) ?_) | (refine am (ao (id:=9) _ (fun _ h=>h) al ?_);refine jT 23 [0] (aa 24 1) ?_;(refine jG (aa 24 3) 1 rfl (db rfl rfl) ?_);refine jT 21 [2] (aa 24 7) ?_;(try (refine Nx.re (d:=38) (v':=Bo false) rfl (congrArg Value.bool rfl) ?_));refine jT 17 [3,4,5,7] (aa 24 191) ?_;((refine jG (aa 24 255) 6 rfl (bQ rfl rfl aS ?_ rfl rfl) ?_;focus omega));refine jT 15 [8] (aa 24 511) ?_;(refine jG (aa 24 1023) 9 rfl (bm rfl rfl rfl) ?_);refine jT 13 [10] (aa 24 2047) ?_;(try (refine Nx.re (d:=46) (v':=Bo false) rfl (congrArg Value.bool (aG ‹_›)) ?_));refine jT 8 [11,16,17,18,20] (aa 24 1511423) ?_;(refine jG (aa 24 1515519) 12 rfl (aX rfl rfl rfl) ?_);(refine jG (aa 24 1523711) 13 rfl (aN rfl rfl oM) ?_);((refine jG (aa 24 1540095) 14 rfl (dt rfl rfl aS ?_) ?_;(focus ((simp only [List.length_append,List.length_cons,List.length_nil,List.length_take];omega);done))));(refine jG (aa 24 2064383) 19 rfl (aX rfl rfl rfl) ?_);(refine jA 15 rfl ?_;(refine ae rfl rfl rfl cx_pr rfl ?_);refine jS (aa 24 2097151) ?_);(refine jA 21 rfl ?_;(refine ae rfl rfl rfl cx_of rfl ?_);refine jS (aa 24 4194303) ?_);refine jT 1 [22] (aa 24 8388607) ?_;(refine jG (aa 24 16777215) 23 rfl (bm rfl rfl rfl) ?_);refine jQ ?_))
       rename_i _ y1 yc
       rw [hrow]
       exact bh (vs ++ [.nd 61 [] (ab t.fields j).tag [u1]],cs ++ [⟨61,[],(ab t.fields j).tag,some ⟨kb,ko,none⟩,1,kc⟩],some ⟨y1,0,none⟩,yc,t2,m - 1,(ab t.fields j).tag,G1) ⟨⟨hr2,hgl⟩,⟨by rw [hit,hst],hlt⟩,by dsimp only;omega,by dsimp only;omega⟩ (by dsimp only;omega) tU rfl (by rw [hvl];repeat (first | exact List.Sublist.refl _ | apply List.Sublist.cons_cons | apply List.Sublist.cons))
      | false =>
       rw [ht3,gV ht3] at cx_tm
       cases ht4 : c9 [125] t1 false with
       | true =>
        obtain ⟨t2,rfl⟩:=f5.1 ht4
        rw [ht4,gL,Bool.not_true] at cx_wb
        simp only [List.length_cons] at htl hto
        dsimp only at hst
        rw [if_neg (show ¬ (125 : UInt8).toNat = 44 by decide),if_pos (show (125 : UInt8).toNat = 125 from rfl)] at hst
        have hit2:=hst
        repeat' (first | refine jR ?_ | (refine jo ?_;first | refine aD rfl ?_ | (refine jV (bQ rfl rfl aS ?_ rfl rfl) ?_;focus omega) | refine bM rfl ?_ | refine jD rfl rfl rfl ?_ | refine jC rfl rfl rfl ?_ | refine jF fun _=>?_ | refine bD rfl rfl rfl rfl rfl rfl rfl rfl rfl oM fun _ _=>?_ | (refine aI rfl rfl rfl cx_wb rfl ?_;rintro _ _ rfl;dsimp only [zA,fA]) | (refine aI rfl rfl rfl cx_tm rfl ?_;rintro _ _ ⟨rfl,rfl⟩;dsimp only [zA,fA])) | refine ac rfl rfl ?_ | refine ad rfl (aG ‹_›) ?_ | (refine am (ao (id:=9) _ (fun _ h=>h) al ?_);refine jT 23 [0] (aa 24 1) ?_;(refine jG (aa 24 3) 1 rfl (db rfl rfl) ?_);refine jT 21 [2] (aa 24 7) ?_;(try (refine Nx.re (d:=38) (v':=Bo false) rfl (congrArg Value.bool rfl) ?_));refine jT 17 [3,4,5,7] (aa 24 191) ?_;((refine jG (aa 24 255) 6 rfl (bQ rfl rfl aS ?_ rfl rfl) ?_;focus omega));refine jT 15 [8] (aa 24 511) ?_;(refine jG (aa 24 1023) 9 rfl (bm rfl rfl rfl) ?_);refine jT 13 [10] (aa 24 2047) ?_;(try (refine Nx.re (d:=46) (v':=Bo false) rfl (congrArg Value.bool (aG ‹_›)) ?_));refine jT 8 [11,16,17,18,20] (aa 24 1511423) ?_;(refine jG (aa 24 1515519) 12 rfl (aX rfl rfl rfl) ?_);(refine jG (aa 24 1523711) 13 rfl (aN rfl rfl oM) ?_);((refine jG (aa 24 1540095) 14 rfl (dt rfl rfl aS ?_) ?_;(focus ((simp only [List.length_append,List.length_cons,List.length_nil,List.length_take];omega);done))));(refine jG (aa 24 2064383) 19 rfl (aX rfl rfl rfl) ?_);(refine jA 15 rfl ?_;(refine ae rfl rfl rfl cx_pr rfl ?_);refine jS (aa 24 2097151) ?_);(refine jA 21 rfl ?_;(refine ae rfl rfl rfl cx_of rfl ?_);refine jS (aa 24 4194303) ?_);refine jT 1 [22] (aa 24 8388607) ?_;(refine jG (aa 24 16777215) 23 rfl (bm rfl rfl rfl) ?_);refine jQ ?_))
        rename_i _ y1 yc _
        rw [hrow]
        refine Nx.sealS (v:=.slice (some ⟨y1,0,none⟩) (vs.length + 1) yc) fun G2 hG2 hsl=>?_
        refine aW (vs:=[_]) rfl ⟨aJ rfl rfl rfl rfl,trivial⟩ rfl sB ⟨hgl.trans hG2,.nd 82 [] 0 (vs ++ [.nd 61 [] (ab t.fields j).tag [u1]]),⟨82,[],0,some ⟨y1,0,none⟩,vs.length + 1,yc⟩,t2,false,by rw [hso];rfl,dS dC dC (fun h=>absurd h dC) hvl.symm (by rw [List.length_append,List.length_singleton,hcl];exact hsl) (cS hG2 hr2),rfl,by simp only [List.length_cons];omega,fun _=>⟨rfl,by rw [hR,hit,hit2];rfl⟩,fun h=>(by cases h)⟩
       | false =>
        rw [ht4,gV ht4,Bool.not_false] at cx_wb
        have hit2 : cd (aq qs) (rd (aq qs) n) t m last t' vs = none:=by
         rw [hst]
         cases t1 with
         | nil=>rfl
         | cons e t2 =>
          dsimp only
          rw [if_neg,if_neg]
          ·intro h
           exact ju ht4 t2 (by rw [show e = 125 from UInt8.toNat_inj.1 h])
          ·intro h
           exact ju ht3 t2 (by rw [show e = 44 from UInt8.toNat_inj.1 h])
        repeat' (first | refine jR ?_ | (refine jo ?_;first | refine aD rfl ?_ | (refine jV (bQ rfl rfl aS ?_ rfl rfl) ?_;focus omega) | refine bM rfl ?_ | refine jD rfl rfl rfl ?_ | refine jC rfl rfl rfl ?_ | refine jF fun _=>?_ | refine bD rfl rfl rfl rfl rfl rfl rfl rfl rfl oM fun _ _=>?_ | (refine aI rfl rfl rfl cx_wb rfl ?_;rintro _ _ rfl;dsimp only [zA,fA]) | (refine aI rfl rfl rfl cx_tm rfl ?_;rintro _ _ ⟨rfl,rfl⟩;dsimp only [zA,fA])) | refine ac rfl rfl ?_ | refine ad rfl (aG ‹_›) ?_ | (refine am (ao (id:=9) _ (fun _ h=>h) al ?_);refine jT 23 [0] (aa 24 1) ?_;(refine jG (aa 24 3) 1 rfl (db rfl rfl) ?_);refine jT 21 [2] (aa 24 7) ?_;(try (refine Nx.re (d:=38) (v':=Bo false) rfl (congrArg Value.bool rfl) ?_));refine jT 17 [3,4,5,7] (aa 24 191) ?_;((refine jG (aa 24 255) 6 rfl (bQ rfl rfl aS ?_ rfl rfl) ?_;focus omega));refine jT 15 [8] (aa 24 511) ?_;(refine jG (aa 24 1023) 9 rfl (bm rfl rfl rfl) ?_);refine jT 13 [10] (aa 24 2047) ?_;(try (refine Nx.re (d:=46) (v':=Bo false) rfl (congrArg Value.bool (aG ‹_›)) ?_));refine jT 8 [11,16,17,18,20] (aa 24 1511423) ?_;(refine jG (aa 24 1515519) 12 rfl (aX rfl rfl rfl) ?_);(refine jG (aa 24 1523711) 13 rfl (aN rfl rfl oM) ?_);((refine jG (aa 24 1540095) 14 rfl (dt rfl rfl aS ?_) ?_;(focus ((simp only [List.length_append,List.length_cons,List.length_nil,List.length_take];omega);done))));(refine jG (aa 24 2064383) 19 rfl (aX rfl rfl rfl) ?_);(refine jA 15 rfl ?_;(refine ae rfl rfl rfl cx_pr rfl ?_);refine jS (aa 24 2097151) ?_);(refine jA 21 rfl ?_;(refine ae rfl rfl rfl cx_of rfl ?_);refine jS (aa 24 4194303) ?_);refine jT 1 [22] (aa 24 8388607) ?_;(refine jG (aa 24 16777215) 23 rfl (bm rfl rfl rfl) ?_);refine jQ ?_))
        rename_i _ y1 yc _
        rw [hrow]
        refine Nx.sealS (v:=.slice (some ⟨y1,0,none⟩) (vs.length + 1) yc) fun G2 hG2 hsl=>?_
        refine aW (vs:=[_]) rfl ⟨aJ rfl rfl rfl rfl,trivial⟩ rfl sB ⟨hgl.trans hG2,.nd 82 [] 0 (vs ++ [.nd 61 [] (ab t.fields j).tag [u1]]),⟨82,[],0,some ⟨y1,0,none⟩,vs.length + 1,yc⟩,t1,true,by rw [hso];rfl,dS dC dC (fun h=>absurd h dC) hvl.symm (by rw [List.length_append,List.length_singleton,hcl];exact hsl) (cS hG2 hr2),rfl,by simp only [List.length_cons];omega,fun h=>(by cases h),fun _=>⟨.inr (by rw [hR,hit,hit2];rfl),by rw [bA,htu];simp only [List.length_cons,List.length_nil];omega⟩⟩
theorem p8 {c : UInt8} {a b d : adA} : a9 adz 70 [Ag [S (c :: a),S b,S d]] G (· = Ag [S a,S b,S d]):=by
 refine jE [(0,_)] Tryz.func70 Tryz.ntmps70 fun B hB=>?_
 repeat' (first | refine jX ?_ | (refine jo ?_;first | refine jO fun _=>?_ | refine jL fun _=>?_ | refine aD rfl ?_ | refine bM rfl ?_ | refine jD rfl rfl rfl ?_ | refine jC rfl rfl rfl ?_))
 refine jZ (vs:=[_]) rfl ⟨aJ rfl rfl rfl rfl,trivial⟩ rfl ⟨rfl,rfl,?_⟩
 rfl
theorem ky {c : UInt8} {k : adA} (h : c.toNat = 91 ∨ c.toNat = 63) : sg (c :: k) = c :: sg k ∧ bs (c :: k) = bs k ∧ nm (c :: k) = nm k ∧ bN (c :: k) = bN k:=by
 have hc : bN (c :: k) = bN k:=by rw [bN,if_pos h]
 exact ⟨lr h,by unfold bs;rw [hc],by unfold nm;rw [hc],hc⟩
theorem fG {ts : List Ty} {c : UInt8} {k : adA} (hc : c.toNat = 91 ∨ c.toNat = 63) (h : aB ts (c :: k) = true) : aB ts k = true:=by
 unfold aB at h ⊢
 simp only [Bool.and_eq_true] at h ⊢
 obtain ⟨h1,h2⟩:=h
 refine ⟨?_,?_⟩
 ·unfold bU at h1 ⊢
  simp only [Bool.and_eq_true,decide_eq_true_eq,List.length_cons] at h1 ⊢
  refine ⟨oM,?_⟩
  have:=h1.2
  rw [eV,if_pos hc] at this
  exact this
 ·unfold fe at h2 ⊢
  rw [(ky hc).2.2.2] at h2
  exact h2
theorem sv {ts : List Ty} {f : adA → adA → Option (V × adA)} {c : UInt8} {k s : adA} (hc : c.toNat = 91) : fI ts f (c :: k) s = fM (f k) s:=by
 unfold fI fM
 dsimp only
 rw [if_pos hc]
 cases s <;> rfl
theorem tC {r sc : Nat} {k s : adA} : dF adz 92 [Pt r 0,Ag [S (sg k),S (bs k),S (nm k)]] G [eG r sc s true] (fun v L'=>v = zP ∧ L' = [eG r sc s true]):=by
 refine jH [(0,_),(1,_)] Tryz.func92 Tryz.ntmps92 fun B hB hW=>?_
 repeat' (first | refine jR ?_ | (refine jo ?_;first | refine jO fun _=>?_ | refine jL fun _=>?_ | refine aD rfl ?_ | refine jV (ax rfl rfl) ?_ | refine jC rfl rfl rfl ?_) | refine ac rfl rfl ?_)
 refine aW (vs:=[_]) rfl ⟨aJ rfl rfl rfl rfl,trivial⟩ rfl sB ⟨rfl,rfl,rfl⟩
theorem dF.toM {P : Program} {f : FuncId} {args : List Value} {L : List Own} {R : Value → List Own → Prop} {R' : Value → Gh → List Own → Prop} (h : dF P f args G L R) (hr : ∀ v L',R v L' → R' v G L') : fK P f args G L R' :=
 Fn.mono h fun v G' L' h2=>⟨h2.1 ▸ Gh.le.refl _,h2.1 ▸ hr v L' h2.2⟩
theorem sr : V.rep G (.nd 0 [] 0 []) ⟨0,[],0,none,0,0⟩:=cZ dC dC
theorem abD {n r sc : Nat} {qs : List dp} {c : UInt8} {k s : adA} (hc : c = 63) (hV : nK n sc qs) (hS : ScI G sc qs) (hk : aB (aq qs) (c :: k) = true) (hs : s.length < n + 1 ∧ s.length ≤ 1000) :
  fK adz 92 [Pt r 0,Ag (c5 (c :: k))] G [eG r sc s false] (iT (rd (aq qs) (n + 1) (c :: k)) r sc s false):=by
 subst hc
 have hk2:=fG (.inr rfl) hk
 obtain ⟨e1,e2,e3,_⟩:=ky (c:=63) (k:=k) (.inr rfl)
 have hrd : rd (aq qs) (n + 1) (63 :: k) s = match s with
   | []=>none
   | d :: s'=>if d.toNat = 45 then some (.nd 63 [] 0 [],s') else if d.toNat = 43 then (rd (aq qs) n k s').map fun x=>(.nd 63 [] 0 [x.1],x.2) else none:=by
  rw [rd];unfold fI
  dsimp only
  rw [if_neg (show ¬ (63 : UInt8).toNat = 91 by decide),if_pos (show (63 : UInt8).toNat = 63 from rfl)]
  cases s <;> rfl
 unfold c5
 rw [e1,e2,e3]
 have cx_sign:=@j7 G 63 (sg k) (bs k) (nm k)
 have cx_pt:=@p8 G 63 (sg k) (bs k) (nm k)
 have cx_tk:=iB (G:=G) (r:=r) (sc:=sc) (s:=s) (l:=[45]) (b:=false) ⟨oM,by simp⟩
 have cx_wa:=dU (G:=G) (r:=r) (sc:=sc) (s:=s) (l:=[43]) (b:=false) ⟨oM,by simp⟩
 cases ht : c9 [45] s false with
 | true =>
  obtain ⟨s1,rfl⟩:=f5.1 ht
  rw [ht,gL] at cx_tk
  dsimp only at hrd
  rw [if_pos (show (45 : UInt8).toNat = 45 from rfl)] at hrd
  refine bY [(0,_),(1,_)] Tryz.func92 kR Tryz.ntmps92 rfl rfl tU fun B hB hW=>?_
  repeat' (first | refine jR ?_ | (refine jo ?_;first | refine jO fun _=>?_ | refine jL fun _=>?_ | refine aD rfl ?_ | refine bM rfl ?_ | refine jV (ax rfl rfl) ?_ | refine jC rfl rfl rfl ?_ | refine ae rfl rfl rfl cx_sign rfl ?_ | (refine aI rfl rfl rfl cx_tk rfl ?_;rintro _ _ ⟨rfl,rfl⟩;dsimp only [zA,fA])) | refine ac rfl rfl ?_ | refine ad rfl rfl ?_)
  refine aW (vs:=[_]) rfl ⟨aJ rfl rfl rfl rfl,trivial⟩ rfl sB ⟨Gh.le.refl _,.nd 63 [] 0 [],⟨63,[],0,none,0,0⟩,s1,false,rfl,cZ dC dC,rfl,by simp only [List.length_cons];omega,fun _=>⟨rfl,hrd⟩,fun h=>(by cases h)⟩
 | false =>
  rw [ht,gV ht] at cx_tk
  cases ht2 : c9 [43] s false with
  | false =>
   rw [ht2,gV ht2,Bool.not_false] at cx_wa
   have hno : rd (aq qs) (n + 1) (63 :: k) s = none:=by
    rw [hrd]
    cases s with
    | nil=>rfl
    | cons d s' =>
     dsimp only
     rw [if_neg,if_neg]
     ·intro h;exact ju ht2 s' (by rw [show d = 43 from UInt8.toNat_inj.1 h])
     ·intro h;exact ju ht s' (by rw [show d = 45 from UInt8.toNat_inj.1 h])
   refine bY [(0,_),(1,_)] Tryz.func92 kR Tryz.ntmps92 rfl rfl tU fun B hB hW=>?_
   repeat' (first | refine jR ?_ | (refine jo ?_;first | refine jO fun _=>?_ | refine jL fun _=>?_ | refine aD rfl ?_ | refine bM rfl ?_ | refine ae rfl rfl rfl cx_sign rfl ?_ | refine ae rfl rfl rfl cx_pt rfl ?_ | (refine aI rfl rfl rfl cx_tk rfl ?_;rintro _ _ ⟨rfl,rfl⟩;dsimp only [zA,fA]) | (refine aI rfl rfl rfl cx_wa rfl ?_;rintro _ _ rfl;dsimp only [zA,fA])) | refine ac rfl rfl ?_ | refine ad rfl rfl ?_)
   refine jo ?_
   refine aI rfl rfl rfl tC rfl ?_
   rintro _ _ ⟨rfl,rfl⟩
   dsimp only [zA,fA]
   repeat' (first | refine jR ?_ | (refine jo ?_;first | refine jV (ax rfl rfl) ?_ | refine jC rfl rfl rfl ?_ | refine jF fun _=>?_))
   rename_i y
   refine Nx.sealC (b:=y) fun G2 hG2 hsy=>?_
   have hsl : aU G2 (.slice (some ⟨y,0,none⟩) 1 1) 4 ([⟨0,[],0,none,0,0⟩] : List VC).length (ak bJ [⟨0,[],0,none,0,0⟩]):=⟨rfl,.inr ⟨y,0,1,rfl,Nat.le_refl _,hsy⟩⟩
   refine aW (vs:=[_]) rfl ⟨aJ rfl rfl rfl rfl,trivial⟩ rfl sB ⟨hG2,.nd 63 [] 0 [.nd 0 [] 0 []],⟨63,[],0,some ⟨y,0,none⟩,1,1⟩,s,true,rfl,dS dC dC (fun h=>absurd h dC) rfl hsl ⟨_,[],rfl,sr,rfl⟩,rfl,Nat.le_refl _,fun h=>(by cases h),fun _=>⟨.inr hno,by simp only [V.tot,V.tots,List.length_nil];omega⟩⟩
  | true =>
   obtain ⟨s1,rfl⟩:=f5.1 ht2
   rw [ht2,gL,Bool.not_true] at cx_wa
   simp only [List.length_cons] at hs
   dsimp only at hrd
   rw [if_neg (show ¬ (43 : UInt8).toNat = 45 by decide),if_pos (show (43 : UInt8).toNat = 43 from rfl)] at hrd
   have cx_vl:=hV G r k s1 false hS hk2 oM oM
   refine bY [(0,_),(1,_)] Tryz.func92 kR Tryz.ntmps92 rfl rfl tU fun B hB hW=>?_
   repeat' (first | refine jR ?_ | (refine jo ?_;first | refine jO fun _=>?_ | refine jL fun _=>?_ | refine aD rfl ?_ | refine bM rfl ?_ | refine jV (ax rfl rfl) ?_ | refine jC rfl rfl rfl ?_ | refine jF fun _=>?_ | refine ae rfl rfl rfl cx_sign rfl ?_ | refine ae rfl rfl rfl cx_pt rfl ?_ | (refine aI rfl rfl rfl cx_tk rfl ?_;rintro _ _ ⟨rfl,rfl⟩;dsimp only [zA,fA]) | (refine aI rfl rfl rfl cx_wa rfl ?_;rintro _ _ rfl;dsimp only [zA,fA]) | (refine eH rfl rfl rfl cx_vl rfl ?_;rintro _ G1 _ hle ⟨u1,c1,t1,b1,rfl,hrep,rfl,hP⟩;dsimp only [zA,fA];skip)) | refine ac rfl rfl ?_ | refine ad rfl rfl ?_)
   rename_i y
   refine Nx.sealC (b:=y) fun G2 hG2 hsy=>?_
   have hsl : aU G2 (.slice (some ⟨y,0,none⟩) 1 1) 4 ([c1] : List VC).length (ak bJ [c1]):=⟨rfl,.inr ⟨y,0,1,rfl,Nat.le_refl _,hsy⟩⟩
   obtain ⟨hPl,hP0,hP1⟩:=hP
   cases b1 with
   | false =>
    refine aW (vs:=[_]) rfl ⟨aJ rfl rfl rfl rfl,trivial⟩ rfl sB ⟨hle.trans hG2,.nd 63 [] 0 [u1],⟨63,[],0,some ⟨y,0,none⟩,1,1⟩,t1,false,rfl,dS dC dC (fun h=>absurd h dC) rfl hsl ⟨_,[],rfl,bE hG2 hrep,rfl⟩,rfl,by simp only [List.length_cons];omega,fun _=>⟨rfl,by rw [hrd,(hP0 rfl).2];rfl⟩,fun h=>(by cases h)⟩
   | true =>
    obtain ⟨hno,hto⟩:=hP1 rfl
    have hno2 : rd (aq qs) n k s1 = none:=by
     rcases hno with h | h
     ·cases h
     ·exact h
    refine aW (vs:=[_]) rfl ⟨aJ rfl rfl rfl rfl,trivial⟩ rfl sB ⟨hle.trans hG2,.nd 63 [] 0 [u1],⟨63,[],0,some ⟨y,0,none⟩,1,1⟩,t1,true,rfl,dS dC dC (fun h=>absurd h dC) rfl hsl ⟨_,[],rfl,bE hG2 hrep,rfl⟩,rfl,by simp only [List.length_cons];omega,fun h=>(by cases h),fun _=>⟨.inr (by rw [hrd,hno2];rfl),by simp only [V.tot,V.tots,List.length_nil,List.length_cons];omega⟩⟩
theorem abF {n r sc : Nat} {qs : List dp} {k s : adA} (hV : nK n sc qs) (hS : ScI G sc qs) (hk : aB (aq qs) (91 :: k) = true) (hs : s.length < n + 1 ∧ s.length ≤ 1000) :
  fK adz 92 [Pt r 0,Ag (c5 (91 :: k))] G [eG r sc s false] (iT (rd (aq qs) (n + 1) (91 :: k)) r sc s false):=by
 have hk2:=fG (.inl rfl) hk
 obtain ⟨e1,e2,e3,_⟩:=ky (c:=91) (k:=k) (.inl rfl)
 have hrd : rd (aq qs) (n + 1) (91 :: k) s = fM (rd (aq qs) n k) s:=by rw [rd];exact sv rfl
 unfold c5
 rw [e1,e2,e3]
 have cx_sign:=@j7 G 91 (sg k) (bs k) (nm k)
 have cx_pt:=@p8 G 91 (sg k) (bs k) (nm k)
 have cx_li:=abR (G:=G) (r:=r) (b:=false) hV hS hk2 (s:=s) ⟨oM,oM⟩
 refine bY [(0,_),(1,_)] Tryz.func92 kR Tryz.ntmps92 rfl rfl tU fun B hB hW=>?_
 repeat' (first | refine jR ?_ | (refine jo ?_;first | refine jO fun _=>?_ | refine jL fun _=>?_ | refine aD rfl ?_ | refine bM rfl ?_ | refine jC rfl rfl rfl ?_ | refine ae rfl rfl rfl cx_sign rfl ?_ | refine ae rfl rfl rfl cx_pt rfl ?_ | (refine eH rfl rfl rfl cx_li rfl ?_;rintro _ G1 _ hle ⟨u1,c1,t1,b1,rfl,hrep,rfl,hP⟩;dsimp only [zA,fA];skip)) | refine ac rfl rfl ?_ | refine ad rfl rfl ?_)
 obtain ⟨hPl,hP0,hP1⟩:=hP
 refine aW (vs:=[_]) rfl ⟨aJ rfl rfl rfl rfl,trivial⟩ rfl sB ⟨hle,u1,c1,t1,b1,rfl,hrep,rfl,hPl,fun h=>⟨rfl,by rw [hrd];exact (hP0 h).2⟩,fun h=>by rw [hrd];exact hP1 h⟩
theorem dX {ts : List Ty} {c : UInt8} {k : adA} (hk : aB ts (c :: k) = true) (h91 : ¬ (c.toNat = 91 ∨ c.toNat = 63)) (hr : a8 ts (c :: k) = none) : c :: k = [110] ∨ c :: k = [116] ∨ c :: k = [102]:=by
 have hko:=dh hk
 have hcs:=fS (r:=k) h91
 have hrn : b7 (bN (c :: k)) = none:=by
  cases hx : b7 (bN (c :: k)) with
  | none=>rfl
  | some x =>
   obtain ⟨t,ht⟩:=nq hk (by rw [hx];rfl)
   rw [hcs,hr] at ht;cases ht
 have h:=pj hko hrn
 have h64 : ¬ c.toNat = 64:=by
  intro h64
  rw [hcs] at hrn
  simp [b7,h64] at hrn
 have e : bs (c :: k) = c :: k:=by unfold bs;rw [hcs];simp [oD,h64]
 rwa [e] at h
theorem l3 {ts : List Ty} {n : Nat} {s : adA} {c : UInt8} (hc : c = 110 ∨ c = 116 ∨ c = 102) (hr : a8 ts [c] = none) : rd ts (n + 1) [c] s = if c = 110 then (cK 999999 s).map fun x=>(.nd 110 (bI x.1) 0 [],x.2) else if c = 116 then dJ s else eL s:=by
 rw [rd];unfold fI
 dsimp only
 rcases hc with rfl | rfl | rfl <;> simp [hr]
theorem abE {n r sc : Nat} {qs : List dp} {s : adA} (hr : a8 (aq qs) [110] = none) (hs : s.length ≤ 1000) :
  fK adz 92 [Pt r 0,Ag (c5 [110])] G [eG r sc s false] (iT (rd (aq qs) (n + 1) [110]) r sc s false):=by
 have hrd:=l3 (ts:=aq qs) (n:=n) (s:=s) (c:=110) (.inl rfl) hr
 rw [if_pos rfl] at hrd
 have cx_sign:=@fO G [110] []
 have cx_nu:=mB (G:=G) (r:=r) (sc:=sc) (s:=s) (b:=false) (top:=999999) oM
 have hwl:=eA bn s
 show fK adz 92 [Pt r 0,Ag [S [],S [110],S []]] G [eG r sc s false] _
 refine bY [(0,_),(1,_)] Tryz.func92 kR Tryz.ntmps92 rfl rfl tU fun B hB hW=>?_
 repeat' (first | refine jR ?_ | (refine jo ?_;first | refine jO fun _=>?_ | refine jL fun _=>?_ | refine aD rfl ?_ | refine bM rfl ?_ | refine jV (ax rfl rfl) ?_ | refine jC rfl rfl rfl ?_ | refine ae rfl rfl rfl cx_sign rfl ?_ | (refine aI rfl rfl rfl cx_nu rfl ?_;rintro _ _ ⟨n1,rfl,⟨hn0,hn1⟩,hnum,rfl⟩;dsimp only [zA,fA]) | refine ae rfl rfl rfl (jP oM) rfl ?_) | refine ac rfl rfl ?_ | refine ad rfl rfl ?_)
 have hdl:=gJ hn1
 cases hm : aK (s.takeWhile bn) 999999 with
 | none =>
  refine aW (vs:=[_]) rfl ⟨aJ rfl rfl rfl rfl,trivial⟩ rfl sB ⟨Gh.le.refl _,.nd 110 (bI n1) 0 [],⟨110,bI n1,0,none,0,0⟩,s.dropWhile bn,true,rfl,cZ dC dC,rfl,oM,fun h=>(by cases h),fun _=>⟨.inr (by rw [hrd];unfold cK;rw [hm];rfl),by simp only [V.tot,V.tots];omega⟩⟩
 | some m =>
  obtain rfl : n1 = m:=hnum m hm
  refine aW (vs:=[_]) rfl ⟨aJ rfl rfl rfl rfl,trivial⟩ rfl sB ⟨Gh.le.refl _,.nd 110 (bI n1) 0 [],⟨110,bI n1,0,none,0,0⟩,s.dropWhile bn,false,rfl,cZ dC dC,rfl,oM,fun _=>⟨rfl,by rw [hrd];unfold cK;rw [hm];rfl⟩,fun h=>(by cases h)⟩
theorem abC {n r sc : Nat} {qs : List dp} {s : adA} (hr : a8 (aq qs) [116] = none) (hs : s.length ≤ 1000) :
  fK adz 92 [Pt r 0,Ag (c5 [116])] G [eG r sc s false] (iT (rd (aq qs) (n + 1) [116]) r sc s false):=by
 have hrd:=l3 (ts:=aq qs) (n:=n) (s:=s) (c:=116) (.inr (.inl rfl)) hr
 rw [if_neg dC,if_pos rfl] at hrd
 have cx_sign:=@fO G [116] []
 have cx_qu:=aak (G:=G) (r:=r) (sc:=sc) (s:=s) (b:=false) oM
 show fK adz 92 [Pt r 0,Ag [S [],S [116],S []]] G [eG r sc s false] _
 refine bY [(0,_),(1,_)] Tryz.func92 kR Tryz.ntmps92 rfl rfl tU fun B hB hW=>?_
 repeat' (first | refine jR ?_ | (refine jo ?_;first | refine jO fun _=>?_ | refine jL fun _=>?_ | refine aD rfl ?_ | refine bM rfl ?_ | refine jV (ax rfl rfl) ?_ | refine jC rfl rfl rfl ?_ | refine ae rfl rfl rfl cx_sign rfl ?_ | (refine aI rfl rfl rfl cx_qu rfl ?_;rintro _ _ ⟨x1,t1,b1,rfl,hQ,rfl⟩;dsimp only [zA,fA])) | refine ac rfl rfl ?_ | refine ad rfl rfl ?_)
 obtain ⟨hQl,hQ0,hQ1⟩:=hQ
 refine aW (vs:=[_]) rfl ⟨aJ rfl rfl rfl rfl,trivial⟩ rfl sB ⟨Gh.le.refl _,.nd 116 x1 0 [],⟨116,x1,0,none,0,0⟩,t1,b1,rfl,cZ dC dC,rfl,oM,fun h=>⟨rfl,by rw [hrd];exact (hQ0 h).2⟩,fun h=>⟨.inr (by rw [hrd];rcases hQ1 h with h | h;cases h;exact h),by simp only [V.tot,V.tots];omega⟩⟩
theorem abG {n r sc : Nat} {qs : List dp} {s : adA} (hr : a8 (aq qs) [102] = none) (hs : s.length ≤ 1000) :
  fK adz 92 [Pt r 0,Ag (c5 [102])] G [eG r sc s false] (iT (rd (aq qs) (n + 1) [102]) r sc s false):=by
 have hrd:=l3 (ts:=aq qs) (n:=n) (s:=s) (c:=102) (.inr (.inr rfl)) hr
 rw [if_neg dC,if_neg dC] at hrd
 unfold eL at hrd
 have cx_sign:=@fO G [102] []
 have cx_tk:=iB (G:=G) (r:=r) (sc:=sc) (s:=s) (l:=[121,101,115]) (b:=false) ⟨oM,by simp⟩
 have cx_wa:=dU (G:=G) (r:=r) (sc:=sc) (s:=s) (l:=[110,111]) (b:=false) ⟨oM,by simp⟩
 have ey : ∀ l : adA,c9 l s false = l.isPrefixOf s:=fun l=>by simp [c9]
 have el : ∀ l : adA,l.isPrefixOf s = true → s.length = l.length + (s.drop l.length).length:=fun l h=>by
  have:=qy h
  have h2:=congrArg List.length this
  rwa [List.length_append] at h2
 show fK adz 92 [Pt r 0,Ag [S [],S [102],S []]] G [eG r sc s false] _
 cases hy : ([121,101,115] : adA).isPrefixOf s with
 | true =>
  have hl : s.length = 3 + (s.drop 3).length:=el _ hy
  unfold eB at cx_tk
  rw [ey,hy,if_pos rfl] at cx_tk
  rw [hy,if_pos rfl] at hrd
  refine bY [(0,_),(1,_)] Tryz.func92 kR Tryz.ntmps92 rfl rfl tU fun B hB hW=>?_
  repeat' (first | refine jR ?_ | (refine jo ?_;first | refine jO fun _=>?_ | refine jL fun _=>?_ | refine aD rfl ?_ | refine bM rfl ?_ | refine jV (ax rfl rfl) ?_ | refine jC rfl rfl rfl ?_ | refine ae rfl rfl rfl cx_sign rfl ?_ | (refine aI rfl rfl rfl cx_tk rfl ?_;rintro _ _ ⟨rfl,rfl⟩;dsimp only [zA,fA])) | refine ac rfl rfl ?_ | refine ad rfl rfl ?_)
  refine aW (vs:=[_]) rfl ⟨aJ rfl rfl rfl rfl,trivial⟩ rfl sB ⟨Gh.le.refl _,.nd 102 [121,101,115] 0 [],⟨102,[121,101,115],0,none,0,0⟩,s.drop 3,false,rfl,cZ dC dC,rfl,oM,fun _=>⟨rfl,hrd⟩,fun h=>(by cases h)⟩
 | false =>
  have h1 : c9 [121,101,115] s false = false:=by rw [ey,hy]
  rw [h1,gV h1] at cx_tk
  rw [hy,if_neg dC] at hrd
  cases hno : ([110,111] : adA).isPrefixOf s with
  | true =>
   have hl : s.length = 2 + (s.drop 2).length:=el _ hno
   unfold eB at cx_wa
   rw [ey,hno,if_pos rfl] at cx_wa
   rw [hno,if_pos rfl] at hrd
   refine bY [(0,_),(1,_)] Tryz.func92 kR Tryz.ntmps92 rfl rfl tU fun B hB hW=>?_
   repeat' (first | refine jR ?_ | (refine jo ?_;first | refine jO fun _=>?_ | refine jL fun _=>?_ | refine aD rfl ?_ | refine bM rfl ?_ | refine jV (ax rfl rfl) ?_ | refine jC rfl rfl rfl ?_ | refine ae rfl rfl rfl cx_sign rfl ?_ | (refine aI rfl rfl rfl cx_tk rfl ?_;rintro _ _ ⟨rfl,rfl⟩;dsimp only [zA,fA]) | (refine aI rfl rfl rfl cx_wa rfl ?_;rintro _ _ rfl;dsimp only [zA,fA])) | refine ac rfl rfl ?_ | refine ad rfl rfl ?_)
   refine aW (vs:=[_]) rfl ⟨aJ rfl rfl rfl rfl,trivial⟩ rfl sB ⟨Gh.le.refl _,.nd 102 [110,111] 0 [],⟨102,[110,111],0,none,0,0⟩,s.drop 2,false,rfl,cZ dC dC,rfl,oM,fun _=>⟨rfl,hrd⟩,fun h=>(by cases h)⟩
  | false =>
   have h2 : c9 [110,111] s false = false:=by rw [ey,hno]
   rw [h2,gV h2,Bool.not_false] at cx_wa
   rw [hno,if_neg dC] at hrd
   refine bY [(0,_),(1,_)] Tryz.func92 kR Tryz.ntmps92 rfl rfl tU fun B hB hW=>?_
   repeat' (first | refine jR ?_ | (refine jo ?_;first | refine jO fun _=>?_ | refine jL fun _=>?_ | refine aD rfl ?_ | refine bM rfl ?_ | refine jV (ax rfl rfl) ?_ | refine jC rfl rfl rfl ?_ | refine ae rfl rfl rfl cx_sign rfl ?_ | (refine aI rfl rfl rfl cx_tk rfl ?_;rintro _ _ ⟨rfl,rfl⟩;dsimp only [zA,fA]) | (refine aI rfl rfl rfl cx_wa rfl ?_;rintro _ _ rfl;dsimp only [zA,fA])) | refine ac rfl rfl ?_ | refine ad rfl rfl ?_)
   refine aW (vs:=[_]) rfl ⟨aJ rfl rfl rfl rfl,trivial⟩ rfl sB ⟨Gh.le.refl _,.nd 102 [110,111] 0 [],⟨102,[110,111],0,none,0,0⟩,s,true,rfl,cZ dC dC,rfl,Nat.le_refl _,fun h=>(by cases h),fun _=>⟨.inr hrd,by simp only [V.tot,V.tots,List.length_cons,List.length_nil];omega⟩⟩
theorem abH {n r sc : Nat} {qs : List dp} {c : UInt8} {k s : adA} {t : Ty} (h91 : ¬ (c.toNat = 91 ∨ c.toNat = 63)) (hV : nK n sc qs) (hS : ScI G sc qs) (hw : SchW (aq qs)) (hk : aB (aq qs) (c :: k) = true) (hrf : a8 (aq qs) (c :: k) = some t) (hs : s.length < n + 1 ∧ s.length ≤ 1000) :
  fK adz 92 [Pt r 0,Ag (c5 (c :: k))] G [eG r sc s false] (iT (rd (aq qs) (n + 1) (c :: k)) r sc s false):=by
 have hko:=dh hk
 have hsg:=lq (r:=k) h91
 have hcs:=fS (r:=k) h91
 have hrn : (b7 (bN (c :: k))).isSome = true:=by
  rw [hcs];unfold a8 at hrf
  cases hx : b7 (c :: k) with
  | none=>rw [hx] at hrf;cases hrf
  | some x=>rfl
 have hbs : bs (c :: k) = [64]:=(k4 hko).2 hrn
 have hnm : b7 (c :: k) = some (nm (c :: k)):=by
  unfold nm;rw [hcs] at hrn ⊢
  cases hx : b7 (c :: k) with
  | none=>rw [hx] at hrn;cases hrn
  | some x=>rfl
 have hft : ix (aq qs) (nm (c :: k)) = some t:=by unfold a8 at hrf;rw [hnm] at hrf;exact hrf
 have hkv:=gZ qs (nm (c :: k))
 rw [← iQ] at hft
 rcases hfq : fq qs (nm (c :: k)) with _ | ⟨p,t'⟩
 ·rw [hfq] at hft;cases hft
 rw [hfq] at hft hkv
 dsimp only [Option.map_some] at hft hkv
 have htt : t' = t:=Option.some.inj hft
 subst htt
 have hqm:=ji hfq
 have htm:=br hrf
 have hW:=hw.ty t' htm
 have hT : oF G p t':=hS.ty _ hqm
 obtain ⟨u,m,g1,g2,g3⟩:=hS.at'
 have hrd : rd (aq qs) (n + 1) (c :: k) s = bC (aq qs) (rd (aq qs) n) t' s:=by
  rw [rd];unfold fI
  dsimp only
  rw [if_neg (fun h=>h91 (.inl h)),if_neg (fun h=>h91 (.inr h)),hrf]
 have cx_ot : fK adz 130 [Pt r 0,Pt p 0] G [eG r sc s false] (iT (bC (aq qs) (rd (aq qs) n) t') r sc s false):=by
  rcases hW.sort with h | h | h
  ·exact acF hV hS hw (fun d hd=>dT hw htm oM hd) hT hW h ⟨oM,oM⟩
  ·exact acE hV hS (fun d hd=>dT hw htm oM hd) hT hW h ⟨oM,oM⟩
  ·exact acG hT hW h ⟨oM,oM⟩
 have cx_sign:=@fO G [64] (nm (c :: k))
 unfold c5
 rw [hsg,hbs]
 clear hft hfq hnm hrn hcs
 refine bY [(0,_),(1,_)] Tryz.func92 kR Tryz.ntmps92 rfl rfl tU fun B hB hW=>?_
 repeat' (first | refine jR ?_ | (refine jo ?_;first | refine jO fun _=>?_ | refine jL fun _=>?_ | refine aD rfl ?_ | refine bM rfl ?_ | refine ae rfl rfl rfl cx_sign rfl ?_) | refine ad rfl rfl ?_)
 rename_i x3 x4
 (refine am (ao (id:=21) [.blk x3 (.cells (List.toArray [S [],S [64],S (nm (c :: k))]) fD (0,0))] (by intro y hy;simp only [List.mem_cons,List.not_mem_nil,or_false] at hy ⊢;simp [hy]) al ?_);refine jW 8 [0,1,2,3,8] (aa 13 271) ?_;(refine jG (aa 13 783) 9 rfl (aX rfl rfl rfl) ?_);refine jA 4 rfl ?_;(refine aD rfl ?_);refine jK (aa 13 799) ?_;refine jW 4 [5,6] (aa 13 895) ?_;(refine jG (aa 13 1023) 7 rfl (aj rfl rfl aS rfl rfl) ?_);((refine jG (aa 13 2047) 10 rfl (dz rfl rfl (gG aS) aS rfl) ?_));refine jA 11 rfl ?_;(refine eH rfl rfl rfl cx_ot rfl ?_;rintro _ G1 _ hle ⟨u1,c1,t1,b1,rfl,hrep,rfl,hP⟩;dsimp only [zA,fA];skip);refine jK (aa 13 4095) ?_;refine jA 12 rfl ?_;(refine jC rfl rfl rfl ?_);refine jK (aa 13 8191) ?_;refine jQ ?_)
 all_goals repeat' (refine jR ?_)
 all_goals (obtain ⟨hPl,hP0,hP1⟩:=hP)
 all_goals refine aW (vs:=[_]) rfl ⟨aJ rfl rfl rfl rfl,trivial⟩ rfl sB ⟨hle,u1,c1,t1,b1,rfl,hrep,rfl,hPl,fun h=>⟨rfl,by rw [hrd];exact (hP0 h).2⟩,fun h=>by rw [hrd];exact hP1 h⟩
theorem r4 {sc : Nat} {qs : List dp} (hw : SchW (aq qs)) : ∀ n,nK n sc qs
 | 0=>fun G r k s b _ _ h _=>absurd h (Nat.not_lt_zero _)
 | n + 1=>fun G r k s b hS hk hn hs=>by
  have hV:=r4 (sc:=sc) hw n
  cases b with
  | true =>
   exact tC.toM fun v L' ⟨h1,h2⟩=>⟨.nd 0 [] 0 [],⟨0,[],0,none,0,0⟩,s,true,h1,sr,h2,Nat.le_refl _,fun h=>(by cases h),fun _=>⟨.inl rfl,by simp only [V.tot,V.tots,List.length_nil];omega⟩⟩
  | false =>
   match k,hk with
   | [],hk=>cases hk
   | c :: k,hk =>
    by_cases h1 : c.toNat = 91
    ·obtain rfl:=bX h1 dC
     exact abF hV hS hk ⟨hn,hs⟩
    by_cases h2 : c.toNat = 63
    ·obtain rfl:=bX h2 dC
     exact abD rfl hV hS hk ⟨hn,hs⟩
    have h91 : ¬ (c.toNat = 91 ∨ c.toNat = 63):=fun h=>by rcases h with h | h <;> omega
    cases hr : a8 (aq qs) (c :: k) with
    | some t=>exact abH h91 hV hS hw hk hr ⟨hn,hs⟩
    | none =>
     rcases dX hk h91 hr with e | e | e
     ·rw [e] at hr ⊢;exact abE hr hs
     ·rw [e] at hr ⊢;exact abC hr hs
     ·rw [e] at hr ⊢;exact abG hr hs
def wfW (w : Nat) (x : adA) (t : Int) (ks : List V) : Prop :=
 (w = 110 ∧ ks = [] ∧ t = 0 ∧ ∃ n : Int,0 ≤ n ∧ n ≤ 999999 ∧ x = bI n ∧ aK x 999999 = some n)
 ∨ (w = 116 ∧ ks = [] ∧ t = 0 ∧ dW (39 :: (x ++ [39])) = true)
 ∨ (w = 102 ∧ ks = [] ∧ t = 0 ∧ (x = [121,101,115] ∨ x = [110,111]))
 ∨ (w = 91 ∧ x = [] ∧ t = 0 ∧ ks.length ≤ 20 ∧ ∀ v ∈ ks,v.what ≠ 61)
 ∨ (w = 63 ∧ x = [] ∧ t = 0 ∧ ks.length ≤ 1 ∧ ∀ v ∈ ks,v.what ≠ 61)
 ∨ (w = 69 ∧ x = [] ∧ 0 ≤ t ∧ t ≤ 200 ∧ ks = [])
 ∨ (w = 85 ∧ x = [] ∧ 0 ≤ t ∧ t ≤ 200 ∧ ks.length = 1 ∧ ∀ v ∈ ks,v.what ≠ 61)
 ∨ (w = 61 ∧ x = [] ∧ 0 ≤ t ∧ t ≤ 200 ∧ ks.length = 1 ∧ ∀ v ∈ ks,v.what ≠ 61)
 ∨ (w = 82 ∧ x = [] ∧ t = 0 ∧ ks.Pairwise (fun a b=>a.tag < b.tag) ∧ ∀ v ∈ ks,v.what = 61)
mutual
def V.wf : V → Prop
 | .nd w x t ks=>wfW w x t ks ∧ V.wfs ks
def V.wfs : List V → Prop
 | []=>True
 | v :: r=>V.wf v ∧ V.wfs r
end
theorem qp : ∀ {ks : List V},V.wfs ks ↔ ∀ v ∈ ks,v.wf
 | []=>by simp [V.wfs]
 | v :: r=>by rw [V.wfs,qp (ks:=r)];simp
theorem uU : ∀ (s : adA) {n m : Int},0 ≤ n → dm n s = some m → 0 ≤ m
 | [],n,m,h,e=>by simp only [dm,Option.some.injEq] at e;omega
 | c :: s,n,m,h,e=>by
  unfold dm at e
  split at e
  ·exact uU s oM e
  ·cases e
theorem ma {s : adA} {top n : Int} (h : aK s top = some n) : 0 ≤ n:=by
 unfold aK at h
 split at h
 ·split at h
  ·split at h
   ·rename_i h1 _ _ _ h2;simp only [Option.some.injEq] at h;subst h;exact uU _ (Int.le_refl 0) aS
   ·cases h
  ·cases h
 ·cases h
theorem l5 {top : Int} {s r : adA} {n : Int} (h : cK top s = some (n,r)) : 0 ≤ n ∧ n ≤ top ∧ aK (bI n) top = some n:=by
 unfold cK at h
 cases hn : aK (s.takeWhile bn) top with
 | none=>rw [hn] at h;cases h
 | some m =>
  rw [hn] at h
  simp only [Option.map_some,Option.some.injEq,Prod.mk.injEq] at h
  obtain ⟨rfl,_⟩:=h
  obtain ⟨h1,h2,_⟩:=d6 hn
  exact ⟨ma hn,h1,by rw [← h2];exact hn⟩
theorem k8 {f : adA → Option (V × adA)} : ∀ (m : Nat) (s : adA) (acc : List V) {x : List V × adA},bK f m s acc = some x → x.1.length ≤ acc.length + m
 | 0,_,_,_,e=>by cases e
 | m + 1,s,acc,x,e=>by
  unfold bK at e
  cases hf : f s with
  | none=>rw [hf] at e;cases e
  | some y =>
   rw [hf] at e
   obtain ⟨v,r⟩:=y
   cases r with
   | nil=>cases e
   | cons c r =>
    dsimp only at e
    split at e
    ·have:=k8 m r _ e
     simp only [List.length_append,List.length_singleton] at this;omega
    ·split at e
     ·simp only [Option.some.injEq] at e;subst e
      simp only [List.length_append,List.length_singleton];omega
     ·cases e
theorem pL {f : adA → adA → Option (V × adA)} {t : Ty} {s : adA} {x : (Fld × V) × adA} (e : aY f t s = some x) : 0 ≤ x.1.1.tag ∧ x.1.1.tag ≤ 200:=by
 unfold aY at e
 cases hn : cK 200 s with
 | none=>rw [hn] at e;cases e
 | some y =>
  rw [hn] at e
  obtain ⟨n,r⟩:=y
  have h1:=l5 hn
  dsimp only at e
  cases hd : ck t.fields n with
  | none=>rw [hd] at e;cases e
  | some d =>
   rw [hd] at e
   have h2 : d.tag = n:=by have:=List.find?_some hd;simpa using this
   cases r with
   | nil=>cases e
   | cons c r' =>
    dsimp only at e
    by_cases hc : c.toNat = 61
    ·rw [if_pos hc] at e
     cases hf : f d.kind r' with
     | none=>rw [hf] at e;cases e
     | some y =>
      rw [hf] at e
      simp only [Option.map_some,Option.some.injEq] at e
      subst e
      dsimp only;omega
    ·rw [if_neg hc] at e;cases e
theorem ra {ts : List Ty} {f : adA → adA → Option (V × adA)} (h : ∀ k s y,f k s = some y → y.1.wf ∧ y.1.what ≠ 61) {t : Ty} : ∀ (m : Nat) (last : Int) (s : adA) (acc : List V) {x : List V × adA},cd ts f t m last s acc = some x → (∀ v ∈ acc,v.wf ∧ v.what = 61 ∧ v.tag ≤ last) → acc.Pairwise (fun a b=>a.tag < b.tag) → (∀ v ∈ x.1,v.wf ∧ v.what = 61) ∧ x.1.Pairwise (fun a b=>a.tag < b.tag)
 | 0,_,_,_,_,e,_,_=>by cases e
 | m + 1,last,s,acc,x,e,ha,hp=>by
  unfold cd at e
  cases hf : aY f t s with
  | none=>rw [hf] at e;cases e
  | some y =>
   rw [hf] at e
   obtain ⟨_,s',hy⟩:=f9 hf
   have ht:=pL hf
   obtain ⟨⟨d,v⟩,r⟩:=y
   dsimp only at e hy ht
   obtain ⟨hv1,hv2⟩:=h _ _ _ hy
   dsimp only at hv1 hv2
   split at e
   ·cases e
   ·rename_i hd
    have hd' : last < d.tag:=oM
    have hw : V.wf (.nd 61 [] d.tag [v]):=by
     rw [V.wf]
     refine ⟨.inr (.inr (.inr (.inr (.inr (.inr (.inr (.inl ⟨rfl,rfl,ht.1,ht.2,rfl,?_⟩))))))),?_,trivial⟩
     ·intro u hu;simp only [List.mem_singleton] at hu;subst hu;exact hv2
     ·exact hv1
    have ha2 : ∀ u ∈ acc ++ [V.nd 61 [] d.tag [v]],u.wf ∧ u.what = 61 ∧ u.tag ≤ d.tag:=fun u hu=>by
     rcases List.mem_append.1 hu with hu | hu
     ·obtain ⟨a1,a2,a3⟩:=ha u hu;exact ⟨a1,a2,oM⟩
     ·simp only [List.mem_singleton] at hu;subst hu;exact ⟨hw,rfl,Int.le_refl _⟩
    have hp2 : (acc ++ [V.nd 61 [] d.tag [v]]).Pairwise (fun a b=>a.tag < b.tag):=by
     rw [List.pairwise_append]
     refine ⟨hp,List.pairwise_singleton _ _,fun a hA b hB=>?_⟩
     simp only [List.mem_singleton] at hB;subst hB
     have:=(ha a hA).2.2
     show a.tag < d.tag
     omega
    cases r with
    | nil=>cases e
    | cons c r =>
     dsimp only at e
     split at e
     ·exact ra h m _ r _ e ha2 hp2
     ·split at e
      ·simp only [Option.some.injEq] at e;subst e
       exact ⟨fun u hu=>⟨(ha2 u hu).1,(ha2 u hu).2.1⟩,hp2⟩
      ·cases e
theorem yJ {ts : List Ty} : ∀ (n : Nat) (k s : adA) (x : V × adA),rd ts n k s = some x → x.1.wf ∧ x.1.what ≠ 61
 | 0,_,_,_,e=>by cases e
 | n + 1,k,s,x,e=>by
  have ih : ∀ k s y,rd ts n k s = some y → y.1.wf ∧ y.1.what ≠ 61:=fun k s y hy=>yJ n k s y hy
  have h:=qx k s (x:=x) e
  obtain ⟨v,r⟩:=x
  dsimp only at h ⊢
  cases h with
  | lst0=>exact ⟨by rw [V.wf];exact ⟨.inr (.inr (.inr (.inl ⟨rfl,rfl,rfl,by simp,by simp⟩))),trivial⟩,by simp [V.what]⟩
  | lst k s r vs h =>
   have h1:=k8 _ _ _ h
   have h2:=i6 (p:=fun v=>v.wf ∧ v.what ≠ 61) (fun s y hy=>ih k s y hy) _ _ _ h (by simp)
   refine ⟨by rw [V.wf];exact ⟨.inr (.inr (.inr (.inl ⟨rfl,rfl,rfl,by simpa using h1,fun v hv=>(h2 v hv).2⟩))),qp.2 fun v hv=>(h2 v hv).1⟩,by simp [V.what]⟩
  | non=>exact ⟨by rw [V.wf];exact ⟨.inr (.inr (.inr (.inr (.inl ⟨rfl,rfl,rfl,by simp,by simp⟩)))),trivial⟩,by simp [V.what]⟩
  | opt k s r v h =>
   have h1:=ih _ _ _ h
   have h2 : ∀ u ∈ [v],u.what ≠ 61:=fun u hu=>by simp only [List.mem_singleton] at hu;subst hu;exact h1.2
   exact ⟨by rw [V.wf];exact ⟨.inr (.inr (.inr (.inr (.inl ⟨rfl,rfl,rfl,by simp,h2⟩)))),h1.1,trivial⟩,by simp [V.what]⟩
  | num k s r n _ h =>
   have h1:=l5 h
   exact ⟨by rw [V.wf];exact ⟨.inl ⟨rfl,rfl,rfl,n,h1.1,h1.2.1,rfl,h1.2.2⟩,trivial⟩,by simp [V.what]⟩
  | txt k s r v _ h =>
   unfold dJ at h
   split at h
   ·cases h
   ·split at h
    ·split at h
     ·split at h
      ·rename_i hx
       simp only [Option.some.injEq,Prod.mk.injEq] at h
       obtain ⟨rfl,_⟩:=h
       exact ⟨by rw [V.wf];exact ⟨.inr (.inl ⟨rfl,rfl,rfl,hx⟩),trivial⟩,by simp [V.what]⟩
      ·cases h
     ·cases h
    ·cases h
  | flg k s r v _ h =>
   unfold eL at h
   split at h
   ·simp only [Option.some.injEq,Prod.mk.injEq] at h
    obtain ⟨rfl,_⟩:=h
    exact ⟨by rw [V.wf];exact ⟨.inr (.inr (.inl ⟨rfl,rfl,rfl,.inl rfl⟩)),trivial⟩,by simp [V.what]⟩
   ·split at h
    ·simp only [Option.some.injEq,Prod.mk.injEq] at h
     obtain ⟨rfl,_⟩:=h
     exact ⟨by rw [V.wf];exact ⟨.inr (.inr (.inl ⟨rfl,rfl,rfl,.inr rfl⟩)),trivial⟩,by simp [V.what]⟩
    ·cases h
  | recd0=>exact ⟨by rw [V.wf];exact ⟨.inr (.inr (.inr (.inr (.inr (.inr (.inr (.inr ⟨rfl,rfl,rfl,by simp,by simp⟩))))))),trivial⟩,by simp [V.what]⟩
  | recd k s r t vs _ _ h =>
   have h1:=ra ih _ _ _ _ h (by simp) (by simp)
   exact ⟨by rw [V.wf];exact ⟨.inr (.inr (.inr (.inr (.inr (.inr (.inr (.inr ⟨rfl,rfl,rfl,h1.2,fun v hv=>(h1.1 v hv).2⟩))))))),qp.2 fun v hv=>(h1.1 v hv).1⟩,by simp [V.what]⟩
  | enm k s r t n _ _ h _ =>
   have h1:=l5 h
   exact ⟨by rw [V.wf];exact ⟨.inr (.inr (.inr (.inr (.inr (.inl ⟨rfl,rfl,h1.1,h1.2.1,rfl⟩))))),trivial⟩,by simp [V.what]⟩
  | uni k s r t d v _ _ _ h =>
   obtain ⟨_,s',hy⟩:=f9 h
   have ht:=pL h
   have h1:=ih _ _ _ hy
   have h2 : ∀ u ∈ [v],u.what ≠ 61:=fun u hu=>by simp only [List.mem_singleton] at hu;subst hu;exact h1.2
   exact ⟨by rw [V.wf];exact ⟨.inr (.inr (.inr (.inr (.inr (.inr (.inl ⟨rfl,rfl,ht.1,ht.2,rfl,h2⟩)))))),h1.1,trivial⟩,by simp [V.what]⟩
theorem xu {ts : List Ty} {k s : adA} {v : V} (h : ce ts k s = some v) : v.wf ∧ v.what ≠ 61:=by
 unfold ce at h
 split at h
 ·split at h
  ·rename_i hr
   simp only [Option.some.injEq] at h;subst h
   exact yJ _ _ _ _ hr
  ·cases h
 ·cases h
abbrev aw (p : Fld × V) : V:=.nd 61 [] p.1.tag [p.2]
inductive OfK (ts : List Ty) : adA → V → Prop
 | num (k : adA) (n : Int) : 0 ≤ n → n ≤ 999999 → OfK ts (110 :: k) (.nd 110 (bI n) 0 [])
 | txt (k x : adA) : dW (39 :: (x ++ [39])) = true → OfK ts (116 :: k) (.nd 116 x 0 [])
 | flg (k x : adA) : x = [121,101,115] ∨ x = [110,111] → OfK ts (102 :: k) (.nd 102 x 0 [])
 | lst (k : adA) (ks : List V) : ks.length ≤ 20 → (∀ v ∈ ks,OfK ts k v) → OfK ts (91 :: k) (.nd 91 [] 0 ks)
 | non (k : adA) : OfK ts (63 :: k) (.nd 63 [] 0 [])
 | opt (k : adA) (v : V) : OfK ts k v → OfK ts (63 :: k) (.nd 63 [] 0 [v])
 | recd (k : adA) (t : Ty) (fs : List (Fld × V)) : a8 ts k = some t → t.sort = 82 → (∀ p ∈ fs,p.1 ∈ t.fields) → (∀ p ∈ fs,OfK ts p.1.kind p.2) → (∀ p ∈ fs,p.2.out ≠ bT ts p.1) → fs.Pairwise (fun a b=>a.1.tag < b.1.tag) → OfK ts k (.nd 82 [] 0 (fs.map aw))
 | enm (k : adA) (t : Ty) (d : Fld) : a8 ts k = some t → t.sort = 69 → d ∈ t.fields → OfK ts k (.nd 69 [] d.tag [])
 | uni (k : adA) (t : Ty) (d : Fld) (v : V) : a8 ts k = some t → t.sort ≠ 82 → t.sort ≠ 69 → d ∈ t.fields → OfK ts d.kind v → OfK ts k (.nd 85 [] d.tag [v])
theorem rb {ts : List Ty} {f : adA → adA → Option (V × adA)} (h : ∀ k s y,f k s = some y → OfK ts k y.1) {t : Ty} : ∀ (m : Nat) (last : Int) (s : adA) (fs : List (Fld × V)) {x : List V × adA},cd ts f t m last s (fs.map aw) = some x → (∀ p ∈ fs,p.1 ∈ t.fields ∧ OfK ts p.1.kind p.2 ∧ p.2.out ≠ bT ts p.1 ∧ p.1.tag ≤ last) → fs.Pairwise (fun a b=>a.1.tag < b.1.tag) →
  ∃ gs : List (Fld × V),x.1 = gs.map aw ∧ (∀ p ∈ gs,p.1 ∈ t.fields ∧ OfK ts p.1.kind p.2 ∧ p.2.out ≠ bT ts p.1) ∧ gs.Pairwise (fun a b=>a.1.tag < b.1.tag)
 | 0,_,_,_,_,e,_,_=>by cases e
 | m + 1,last,s,fs,x,e,ha,hp=>by
  unfold cd at e
  cases hf : aY f t s with
  | none=>rw [hf] at e;cases e
  | some y =>
   rw [hf] at e
   obtain ⟨hd1,s',hy⟩:=f9 hf
   obtain ⟨⟨d,v⟩,r⟩:=y
   dsimp only at e hy hd1
   have hv:=h _ _ _ hy
   dsimp only at hv
   split at e
   ·cases e
   ·rename_i hd
    have hd' : last < d.tag:=oM
    have hne : v.out ≠ bT ts d:=fun h=>hd (.inr h)
    have e2 : fs.map aw ++ [V.nd 61 [] d.tag [v]] = (fs ++ [(d,v)]).map aw:=by simp
    have ha2 : ∀ p ∈ fs ++ [(d,v)],p.1 ∈ t.fields ∧ OfK ts p.1.kind p.2 ∧ p.2.out ≠ bT ts p.1 ∧ p.1.tag ≤ d.tag:=fun p hu=>by
     rcases List.mem_append.1 hu with hu | hu
     ·obtain ⟨a1,a2,a3,a4⟩:=ha p hu;exact ⟨a1,a2,a3,oM⟩
     ·simp only [List.mem_singleton] at hu;subst hu;exact ⟨hd1,hv,hne,Int.le_refl _⟩
    have hp2 : (fs ++ [(d,v)]).Pairwise (fun a b=>a.1.tag < b.1.tag):=by
     rw [List.pairwise_append]
     refine ⟨hp,List.pairwise_singleton _ _,fun a hA b hB=>?_⟩
     simp only [List.mem_singleton] at hB;subst hB
     have:=(ha a hA).2.2.2
     show a.1.tag < d.tag
     omega
    rw [e2] at e
    cases r with
    | nil=>cases e
    | cons c r =>
     dsimp only at e
     split at e
     ·exact rb h m _ r _ e ha2 hp2
     ·split at e
      ·simp only [Option.some.injEq] at e;subst e
       exact ⟨_,rfl,fun p hp=>⟨(ha2 p hp).1,(ha2 p hp).2.1,(ha2 p hp).2.2.1⟩,hp2⟩
      ·cases e
theorem nQ {ts : List Ty} : ∀ (n : Nat) (k s : adA) (x : V × adA),rd ts n k s = some x → OfK ts k x.1
 | 0,_,_,_,e=>by cases e
 | n + 1,k,s,x,e=>by
  have ih : ∀ k s y,rd ts n k s = some y → OfK ts k y.1:=fun k s y hy=>nQ n k s y hy
  have h:=qx k s (x:=x) e
  obtain ⟨v,r⟩:=x
  dsimp only at h ⊢
  cases h with
  | lst0=>exact .lst _ _ (by simp) (by simp)
  | lst k s r vs h =>
   have h1:=k8 _ _ _ h
   exact .lst _ _ (by simpa using h1) (i6 (p:=fun v=>OfK ts k v) (fun s y hy=>ih k s y hy) _ _ _ h (by simp))
  | non=>exact .non _
  | opt k s r v h=>exact .opt _ _ (ih _ _ _ h)
  | num k s r n _ h=>have h1:=l5 h;exact .num _ _ h1.1 h1.2.1
  | txt k s r v _ h =>
   unfold dJ at h
   split at h
   ·cases h
   ·split at h
    ·split at h
     ·split at h
      ·rename_i hx
       simp only [Option.some.injEq,Prod.mk.injEq] at h
       obtain ⟨rfl,_⟩:=h
       exact .txt _ _ hx
      ·cases h
     ·cases h
    ·cases h
  | flg k s r v _ h =>
   unfold eL at h
   split at h
   ·simp only [Option.some.injEq,Prod.mk.injEq] at h
    obtain ⟨rfl,_⟩:=h
    exact .flg _ _ (.inl rfl)
   ·split at h
    ·simp only [Option.some.injEq,Prod.mk.injEq] at h
     obtain ⟨rfl,_⟩:=h
     exact .flg _ _ (.inr rfl)
    ·cases h
  | recd0 k r t h1 h2=>exact .recd _ t [] h1 h2 (by simp) (by simp) (by simp) (by simp)
  | recd k s r t vs h1 h2 h =>
   obtain ⟨gs,e1,e2,e3⟩:=rb (fs:=[]) ih _ _ _ h (by simp) (by simp)
   dsimp only at e1
   subst e1
   exact .recd _ t gs h1 h2 (fun p hp=>(e2 p hp).1) (fun p hp=>(e2 p hp).2.1) (fun p hp=>(e2 p hp).2.2) e3
  | enm k s r t n h1 h2 h h3 =>
   obtain ⟨d,hd⟩:=Option.isSome_iff_exists.1 h3
   have hdt : d.tag = n:=by have:=List.find?_some hd;simpa using this
   rw [← hdt]
   exact .enm _ t d h1 h2 (List.mem_of_find?_eq_some hd)
  | uni k s r t d v h1 h2 h3 h =>
   obtain ⟨a1,s',hy⟩:=f9 h
   exact .uni _ t d v h1 h2 h3 a1 (ih _ _ _ hy)
theorem cQ {ts : List Ty} {k s : adA} {v : V} (h : ce ts k s = some v) : OfK ts k v:=by
 unfold ce at h
 split at h
 ·split at h
  ·rename_i hr
   simp only [Option.some.injEq] at h;subst h
   exact nQ _ _ _ _ hr
  ·cases h
 ·cases h
theorem gh {t : Ty} (hw : TyW t) {d d' : Fld} (h1 : d ∈ t.fields) (h2 : d' ∈ t.fields) (he : d.tag = d'.tag) : d = d':=by
 have hp:=hw.asc
 obtain ⟨i,hi,rfl⟩:=List.mem_iff_getElem.1 h1
 obtain ⟨j,hj,rfl⟩:=List.mem_iff_getElem.1 h2
 rw [List.pairwise_iff_getElem] at hp
 rcases Nat.lt_trichotomy i j with h | h | h
 ·have:=(hp i j hi hj h).1;omega
 ·subst h;rfl
 ·have:=(hp j i hj hi h).1;omega
theorem dc {ts : List Ty} {k : adA} {t : Ty} {c : UInt8} {r : adA} (h : a8 ts k = some t) (hk : k = c :: r) (hc : c.toNat ≠ 64) : False:=by
 subst hk
 have : b7 (c :: r) = none:=by unfold b7;exact if_neg hc
 unfold a8 at h
 rw [this] at h
 cases h
theorem bL {ts : List Ty} {k : adA} {u : V} {t : Ty} (h : OfK ts k u) (hr : a8 ts k = some t) :
  (t.sort = 82 ∧ ∃ fs : List (Fld × V),u = .nd 82 [] 0 (fs.map aw) ∧ (∀ p ∈ fs,p.1 ∈ t.fields) ∧ (∀ p ∈ fs,OfK ts p.1.kind p.2) ∧ (∀ p ∈ fs,p.2.out ≠ bT ts p.1) ∧ fs.Pairwise (fun a b=>a.1.tag < b.1.tag))
  ∨ (t.sort = 69 ∧ ∃ d,u = .nd 69 [] d.tag [] ∧ d ∈ t.fields) ∨ (t.sort ≠ 82 ∧ t.sort ≠ 69 ∧ ∃ d v,u = .nd 85 [] d.tag [v] ∧ d ∈ t.fields ∧ OfK ts d.kind v):=by
 cases h with
 | num=>exact (dc hr rfl dC).elim
 | txt=>exact (dc hr rfl dC).elim
 | flg=>exact (dc hr rfl dC).elim
 | lst=>exact (dc hr rfl dC).elim
 | non=>exact (dc hr rfl dC).elim
 | opt=>exact (dc hr rfl dC).elim
 | recd _ t' fs g1 g2 g3 g4 g5 g6=>rw [hr] at g1;obtain rfl:=Option.some.inj g1;exact .inl ⟨g2,fs,rfl,g3,g4,g5,g6⟩
 | enm _ t' d g1 g2 g3=>rw [hr] at g1;obtain rfl:=Option.some.inj g1;exact .inr (.inl ⟨g2,d,rfl,g3⟩)
 | uni _ t' d v g1 g2 g3 g4 g5=>rw [hr] at g1;obtain rfl:=Option.some.inj g1;exact .inr (.inr ⟨g2,g3,d,v,rfl,g4,g5⟩)
theorem dg {ts : List Ty} {c : UInt8} {k : adA} {u : V} (h : OfK ts (c :: k) u) (hc : c.toNat ≠ 64) :
  (c.toNat = 110 ∧ ∃ n : Int,0 ≤ n ∧ n ≤ 999999 ∧ u = .nd 110 (bI n) 0 []) ∨ (c.toNat = 116 ∧ ∃ x,dW (39 :: (x ++ [39])) = true ∧ u = .nd 116 x 0 []) ∨ (c.toNat = 102 ∧ ∃ x,(x = [121,101,115] ∨ x = [110,111]) ∧ u = .nd 102 x 0 [])
  ∨ (c.toNat = 91 ∧ ∃ ks,ks.length ≤ 20 ∧ (∀ v ∈ ks,OfK ts k v) ∧ u = .nd 91 [] 0 ks) ∨ (c.toNat = 63 ∧ (u = .nd 63 [] 0 [] ∨ ∃ v,OfK ts k v ∧ u = .nd 63 [] 0 [v])):=by
 generalize hk : c :: k = k' at h
 cases h with
 | num k n h1 h2=>injection hk with e1 e2;subst e1;exact .inl ⟨rfl,n,h1,h2,rfl⟩
 | txt k x h1=>injection hk with e1 e2;subst e1;exact .inr (.inl ⟨rfl,x,h1,rfl⟩)
 | flg k x h1=>injection hk with e1 e2;subst e1;exact .inr (.inr (.inl ⟨rfl,x,h1,rfl⟩))
 | lst k ks h1 h2=>injection hk with e1 e2;subst e1;subst e2;exact .inr (.inr (.inr (.inl ⟨rfl,ks,h1,h2,rfl⟩)))
 | non k=>injection hk with e1 e2;subst e1;exact .inr (.inr (.inr (.inr ⟨rfl,.inl rfl⟩)))
 | opt k v h1=>injection hk with e1 e2;subst e1;subst e2;exact .inr (.inr (.inr (.inr ⟨rfl,.inr ⟨v,h1,rfl⟩⟩)))
 | recd _ t' fs g1=>exact (dc g1 hk.symm hc).elim
 | enm _ t' d g1=>exact (dc g1 hk.symm hc).elim
 | uni _ t' d v g1=>exact (dc g1 hk.symm hc).elim
theorem wg {i : Int} (h : 0 ≤ i ∧ i ≤ 9) : (u8 (48 + i)).toNat = (48 + i).toNat:=by have:=ja (a:=48 + i) oM;omega
theorem rE : ∀ (s : adA) {n m : Int} {c : UInt8},dm n s = some m → 48 ≤ c.toNat ∧ c.toNat ≤ 57 → dm n (s ++ [c]) = some (10 * m + ((c.toNat : Int) - 48))
 | [],n,m,c,h,hc=>by simp only [dm,Option.some.injEq] at h;subst h;simp only [List.nil_append,dm,if_pos hc]
 | d :: s,n,m,c,h,hc=>by
  unfold dm at h
  split at h
  ·rename_i hd
   have:=rE s h hc
   simp only [List.cons_append]
   unfold dm
   rw [if_pos hd];exact this
  ·cases h
theorem ib : ∀ (k : Nat) {m : Int},m.toNat ≤ k → 0 ≤ m → dm 0 (bI m) = some m ∧ ∀ c ∈ bI m,bn c = true:=by
 intro k
 induction k with
 | zero =>
  intro m hk h0
  have : m = 0:=oM
  subst this
  rw [d9 dC dC]
  exact ⟨by decide,by intro c hc;simp only [List.mem_singleton] at hc;subst hc;decide⟩
 | succ k ih =>
  intro m hk h0
  by_cases h : m < 10
  ·have hd:=wg (i:=m) oM
   have hd2 : bn (u8 (48 + m)) = true:=by unfold bn;rw [decide_eq_true_eq];omega
   rw [d9 h h0]
   refine ⟨?_,fun c hc=>by simp only [List.mem_singleton] at hc;subst hc;exact hd2⟩
   unfold dm dm
   rw [if_pos oM];congr 1;omega
  ·obtain ⟨h1,h2⟩:=ih (m:=m / 10) oM oM
   have hd:=wg (i:=m % 10) oM
   have hd2 : bn (u8 (48 + m % 10)) = true:=by unfold bn;rw [decide_eq_true_eq];omega
   rw [j6 h]
   refine ⟨by rw [rE _ h1 oM];congr 1;omega,fun c hc=>?_⟩
   rcases List.mem_append.1 hc with hc | hc
   ·exact h2 c hc
   ·simp only [List.mem_singleton] at hc;subst hc;exact hd2
theorem gO {m : Int} (h : m ≤ 999999) : (bI m).length ≤ 6:=uV _ 5 oM
theorem jx {m top : Int} (h0 : 0 ≤ m) (h1 : m ≤ top) (ht : top ≤ 999999) : aK (bI m) top = some m:=by
 unfold aK
 rw [if_pos (gO oM),(ib _ (Nat.le_refl _) h0).1]
 dsimp only
 rw [if_pos ⟨rfl,h1⟩]
def Dl (s : adA) : Prop:=∀ c r,s = c :: r → bn c = false
theorem j5 {c : UInt8} {r : adA} (h : bn c = false) : Dl (c :: r):=fun d s e=>by injection e with e1 e2;subst e1;exact h
theorem lE : Dl []:=fun _ _ e=>by cases e
theorem acz : ∀ {s : adA},Dl s → s.takeWhile bn = [] ∧ s.dropWhile bn = s
 | [],_=>⟨rfl,rfl⟩
 | c :: r,h=>by have:=h c r rfl;rw [List.takeWhile_cons,List.dropWhile_cons,this];exact ⟨rfl,rfl⟩
theorem wh {p : UInt8 → Bool} : ∀ {s r : adA},(∀ c ∈ s,p c = true) → (s ++ r).takeWhile p = s ++ r.takeWhile p ∧ (s ++ r).dropWhile p = r.dropWhile p
 | [],_,_=>⟨rfl,rfl⟩
 | c :: s,r,h=>by
  obtain ⟨h1,h2⟩:=wh (s:=s) (r:=r) fun d hd=>h d (by simp [hd])
  have:=h c (by simp)
  rw [List.cons_append,List.takeWhile_cons,List.dropWhile_cons,this,if_pos rfl,if_pos rfl,h1,h2];exact ⟨rfl,rfl⟩
theorem oQ {m top : Int} {r : adA} (h0 : 0 ≤ m) (h1 : m ≤ top) (ht : top ≤ 999999) (hr : Dl r) : cK top (bI m ++ r) = some (m,r):=by
 obtain ⟨e1,e2⟩:=wh (r:=r) (ib _ (Nat.le_refl _) h0).2
 obtain ⟨e3,e4⟩:=acz hr
 unfold cK
 rw [e1,e2,e3,e4,List.append_nil,jx h0 h1 ht];rfl
theorem ab8 {x : adA} (h : dW (39 :: (x ++ [39])) = true) : ∀ j,j < x.length → bt x j ≠ 39:=by
 intro j hj e
 unfold dW at h
 rw [decide_eq_true_eq] at h
 have h1:=h.2.2.2 (j + 1) (by simp;omega)
 rw [er] at h1
 have h2 : bt (x ++ [39]) j = bt x j:=by simp [bt,List.getD,List.getElem?_append_left hj]
 rw [h2,e] at h1
 rcases h1 with h1 | h1
 ·omega
 ·exact absurd h1 dC
theorem vD {x r : adA} (h : dW (39 :: (x ++ [39])) = true) : dJ (39 :: (x ++ 39 :: r)) = some (.nd 116 x 0 [],r):=by
 have hc : aH 39 (x ++ 39 :: r) = (x,r,true):=by
  have h1:=nW (k:=39) (s:=x ++ 39 :: r) (i:=x.length) (by simp) (fun j hj=>by
   have:=ab8 h j hj
   have h2 : bt (x ++ 39 :: r) j = bt x j:=by simp [bt,List.getD,List.getElem?_append_left hj]
   rw [h2];exact this) (by simp [bt,List.getD])
  rw [h1]
  congr 1
  ·exact List.take_left
  ·congr 1
   rw [show x.length + 1 = (x ++ [39]).length by simp,show x ++ 39 :: r = (x ++ [39]) ++ r by simp,List.drop_left]
 unfold dJ
 dsimp only
 rw [if_pos dC,hc]
 dsimp only
 rw [if_pos h]
theorem wt {x r : adA} (h : x = [121,101,115] ∨ x = [110,111]) : eL (x ++ r) = some (.nd 102 x 0 [],r):=by
 unfold eL
 rcases h with rfl | rfl
 ·rw [if_pos (by simp [List.isPrefixOf])];rfl
 ·rw [if_neg (by simp [List.isPrefixOf]),if_pos (by simp [List.isPrefixOf])];rfl
theorem pF {f : adA → Option (V × adA)} {rest : adA} : ∀ (ks : List V) (m : Nat) (acc : List V),ks ≠ [] → ks.length ≤ m → (∀ v ∈ ks,∀ r,Dl r → f (v.out ++ r) = some (v,r)) → bK f m (aL 44 (ks.map V.out) ++ 93 :: rest) acc = some (acc ++ ks,rest)
 | [],_,_,h,_,_=>absurd rfl h
 | [v],m,acc,_,hm,hf=>by
  obtain ⟨m,rfl⟩ : ∃ n,m = n + 1:=⟨m - 1,by simp at hm;omega⟩
  unfold bK
  simp only [List.map_cons,List.map_nil,aL]
  rw [hf v (by simp) _ (j5 dC)]
  dsimp only
  rw [if_neg dC,if_pos dC]
 | v :: u :: ks,m,acc,_,hm,hf=>by
  obtain ⟨m,rfl⟩ : ∃ n,m = n + 1:=⟨m - 1,by simp at hm;omega⟩
  have ih:=pF (rest:=rest) (u :: ks) m (acc ++ [v]) (by simp) (by simp at hm ⊢;omega) fun w hw=>hf w (by simp [hw])
  unfold bK
  simp only [List.map_cons,aL,List.append_assoc,List.cons_append] at ih ⊢
  rw [hf v (by simp) _ (j5 dC)]
  dsimp only
  rw [if_pos dC,ih]
  simp
theorem gx {t : Ty} (hw : TyW t) {d : Fld} (h : d ∈ t.fields) : ck t.fields d.tag = some d:=by
 cases e : ck t.fields d.tag with
 | none=>have:=(List.find?_eq_none.1 e) d h;simp at this
 | some d' =>
  have h1 : d'.tag = d.tag:=by have:=List.find?_some e;simpa using this
  rw [gh hw (List.mem_of_find?_eq_some e) h h1]
theorem l6 {f : adA → adA → Option (V × adA)} {t : Ty} (hw : TyW t) {d : Fld} {v : V} {r : adA} (h : d ∈ t.fields) (hf : f d.kind (v.out ++ r) = some (v,r)) : aY f t (bI d.tag ++ 61 :: (v.out ++ r)) = some ((d,v),r):=by
 have ht:=(hw.fld d h).tag
 unfold aY
 rw [oQ oM ht.2 dC (j5 dC)]
 dsimp only
 rw [gx hw h]
 dsimp only
 rw [if_pos dC,hf];rfl
theorem rc {ts : List Ty} {f : adA → adA → Option (V × adA)} {t : Ty} (hw : TyW t) {rest : adA} : ∀ (fs : List (Fld × V)) (m : Nat) (last : Int) (acc : List V),fs ≠ [] → fs.length ≤ m → (∀ p ∈ fs,p.1 ∈ t.fields ∧ p.2.out ≠ bT ts p.1 ∧ last < p.1.tag ∧ ∀ r,Dl r → f p.1.kind (p.2.out ++ r) = some (p.2,r)) → fs.Pairwise (fun a b=>a.1.tag < b.1.tag) →
  cd ts f t m last (aL 44 ((fs.map aw).map V.out) ++ 125 :: rest) acc = some (acc ++ fs.map aw,rest)
 | [],_,_,_,h,_,_,_=>absurd rfl h
 | [p],m,last,acc,_,hm,hf,_=>by
  obtain ⟨m,rfl⟩ : ∃ n,m = n + 1:=⟨m - 1,by simp at hm;omega⟩
  obtain ⟨h1,h2,h3,h4⟩:=hf p (by simp)
  unfold cd
  simp only [List.map_cons,List.map_nil,aL,aw,gc,List.append_assoc,List.cons_append]
  rw [l6 hw h1 (h4 _ (j5 dC))]
  dsimp only
  rw [if_neg (by rintro (h | h);omega;exact h2 h),if_neg dC,if_pos dC]
 | p :: q :: fs,m,last,acc,_,hm,hf,hp=>by
  obtain ⟨m,rfl⟩ : ∃ n,m = n + 1:=⟨m - 1,by simp at hm;omega⟩
  obtain ⟨h1,h2,h3,h4⟩:=hf p (by simp)
  rw [List.pairwise_cons] at hp
  have ih:=rc (ts:=ts) (f:=f) hw (rest:=rest) (q :: fs) m p.1.tag (acc ++ [aw p]) (by simp) (by simp at hm ⊢;omega) (fun w hw=>⟨(hf w (by simp [hw])).1,(hf w (by simp [hw])).2.1,hp.1 w hw,(hf w (by simp [hw])).2.2.2⟩) hp.2
  unfold cd
  simp only [List.map_cons,aL,gc,List.append_assoc,List.cons_append] at ih ⊢
  rw [l6 hw h1 (h4 _ (j5 dC))]
  dsimp only
  rw [if_neg (by rintro (h | h);omega;exact h2 h),if_pos dC,ih]
  simp
theorem rH {m : Int} (h : 0 ≤ m) : ∃ c r,bI m = c :: r ∧ bn c = true:=by
 cases e : bI m with
 | nil=>have:=gy m;rw [e] at this;simp at this
 | cons c r=>exact ⟨c,r,rfl,(ib _ (Nat.le_refl _) h).2 c (by rw [e];simp)⟩
theorem vR {c : UInt8} (h : bn c = true) : 48 ≤ c.toNat ∧ c.toNat ≤ 57:=by unfold bn at h;rwa [decide_eq_true_eq] at h
theorem xR {ts : List Ty} {k : adA} {v : V} (h : OfK ts k v) : ∃ c r,v.out = c :: r ∧ c.toNat ≠ 93:=by
 cases h with
 | num k n h1 h2=>obtain ⟨c,r,e,hc⟩:=rH h1;have:=vR hc;exact ⟨c,r,by rw [V.out];exact e,oM⟩
 | txt k x=>exact ⟨39,_,by rw [V.out];rfl,by decide⟩
 | flg k x h=>rcases h with rfl | rfl;exact ⟨121,_,by rw [V.out];rfl,by decide⟩;exact ⟨110,_,by rw [V.out];rfl,by decide⟩
 | lst=>exact ⟨91,_,by rw [V.out];rfl,by decide⟩
 | non=>exact ⟨45,_,by rw [V.out];rfl,by decide⟩
 | opt=>exact ⟨43,_,by rw [V.out];rfl,by decide⟩
 | recd=>exact ⟨123,_,by rw [V.out];rfl,by decide⟩
 | enm=>exact ⟨35,_,by rw [V.out];rfl,by decide⟩
 | uni=>exact ⟨60,_,by rw [V.out];rfl,by decide⟩
theorem l4 {ts : List Ty} (hw : SchW ts) : ∀ (n : Nat) {k : adA} {v : V},OfK ts k v → v.deep ≤ n → ∀ r,Dl r → rd ts n k (v.out ++ r) = some (v,r)
 | 0,k,v,h,hd,r,hr=>by
  obtain ⟨w,x,t,ks⟩:=v
  have hne : w ≠ 61:=by cases h <;> decide
  rw [d8 hne] at hd;omega
 | n + 1,k,v,h,hd,r,hr=>by
  have ih:=fun {k : adA} {v : V}=>l4 hw n (k:=k) (v:=v)
  show fI ts (rd ts n) k (v.out ++ r) = some (v,r)
  cases h with
  | num k m h1 h2 =>
   have e : V.out (.nd 110 (bI m) 0 []) = bI m:=by rw [V.out];rfl
   have hrf : a8 ts (110 :: k) = none:=by cases h : a8 ts (110 :: k) with | none=>rfl | some t=>exact (dc h rfl dC).elim
   rw [e]
   unfold fI
   try dsimp only
   rw [if_neg dC,if_neg dC,hrf]
   try dsimp only
   rw [if_pos dC,oQ h1 h2 dC hr];rfl
  | txt k x h1 =>
   have e : V.out (.nd 116 x 0 []) ++ r = 39 :: (x ++ 39 :: r):=by rw [V.out];simp [cW]
   have hrf : a8 ts (116 :: k) = none:=by cases h : a8 ts (116 :: k) with | none=>rfl | some t=>exact (dc h rfl dC).elim
   rw [e]
   unfold fI
   try dsimp only
   rw [if_neg dC,if_neg dC,hrf]
   try dsimp only
   rw [if_neg dC,if_pos dC,vD h1]
  | flg k x h1 =>
   have e : V.out (.nd 102 x 0 []) = x:=by rw [V.out];rfl
   have hrf : a8 ts (102 :: k) = none:=by cases h : a8 ts (102 :: k) with | none=>rfl | some t=>exact (dc h rfl dC).elim
   rw [e]
   unfold fI
   try dsimp only
   rw [if_neg dC,if_neg dC,hrf]
   try dsimp only
   rw [if_neg dC,if_neg dC,if_pos dC,wt h1]
  | lst k ks h1 h2 =>
   rw [d8 dC] at hd
   rw [oT]
   unfold fI
   try dsimp only
   rw [if_pos dC]
   try dsimp only
   rw [if_pos dC]
   cases ks with
   | nil=>simp only [List.map_nil,aL,List.nil_append];rw [if_pos dC]
   | cons v ks =>
    have hI:=pF (f:=rd ts n k) (rest:=r) (v :: ks) 20 [] (by simp) h1 fun u hu r hr=>ih (h2 u hu) (by have:=V.deep_mem hu;omega) r hr
    obtain ⟨c,s,e1,e2⟩:=xR (h2 v (by simp))
    cases hj : aL 44 ((v :: ks).map V.out) ++ 93 :: r with
    | nil=>simp at hj
    | cons c' s' =>
     have hc' : c' = c:=by
      have : ∃ s2,aL 44 ((v :: ks).map V.out) ++ 93 :: r = c :: s2:=by
       cases ks with
       | nil=>simp only [List.map_cons,List.map_nil,aL,e1,List.cons_append];exact ⟨_,rfl⟩
       | cons u ks=>simp only [List.map_cons,aL,e1,List.cons_append];exact ⟨_,rfl⟩
      obtain ⟨s2,h3⟩:=this
      rw [hj] at h3;injection h3
     try dsimp only
     rw [if_neg (by rw [hc'];exact e2),← hj,hI];rfl
  | non k =>
   have e : V.out (.nd 63 [] 0 []) ++ r = 45 :: r:=by rw [V.out];rfl
   rw [e]
   unfold fI
   try dsimp only
   rw [if_neg dC,if_pos dC]
   try dsimp only
   rw [if_pos dC]
  | opt k v h1 =>
   rw [d8 dC] at hd
   have hd2 : v.deep ≤ n:=by have:=V.deep_mem (ks:=[v]) (v:=v) (by simp);omega
   rw [uH]
   unfold fI
   try dsimp only
   rw [if_neg dC,if_pos dC]
   try dsimp only
   rw [if_neg dC,if_pos dC,ih h1 hd2 r hr];rfl
  | recd k t fs h1 h2 h3 h4 h5 h6 =>
   rw [d8 dC] at hd
   have hk : ∃ k',k = 64 :: k':=by
    cases k with
    | nil=>simp [a8,b7] at h1
    | cons c k' =>
     by_cases h64 : c.toNat = 64
     ·exact ⟨k',by rw [show c = 64 from UInt8.toNat_inj.1 h64]⟩
     ·exact (dc h1 rfl h64).elim
   obtain ⟨k',rfl⟩:=hk
   rw [qz]
   unfold fI
   try dsimp only
   rw [if_neg dC,if_neg dC,h1]
   try dsimp only
   unfold bC
   dsimp only
   rw [if_pos h2,if_pos dC]
   cases fs with
   | nil=>simp only [List.map_nil,aL,List.nil_append];rw [if_pos dC]
   | cons p fs =>
    have hlen : (p :: fs).length ≤ (aL 44 (((p :: fs).map aw).map V.out) ++ 125 :: r).length + 1:=by
     have h7 : ∀ xs : List adA,(∀ x ∈ xs,1 ≤ x.length) → xs.length ≤ (aL 44 xs).length:=by
      intro xs
      induction xs with
      | nil=>intro _;simp
      | cons x xs ihx =>
       intro hx
       have hx1:=hx x (by simp)
       have ihx:=ihx fun y hy=>hx y (by simp [hy])
       cases xs with
       | nil=>simp only [aL,List.length_cons,List.length_nil];omega
       | cons y xs=>simp only [aL,List.length_append,List.length_cons] at ihx ⊢;omega
     have h8:=h7 (((p :: fs).map aw).map V.out) (fun x hx=>by
      obtain ⟨v,hv,rfl⟩:=List.mem_map.1 hx
      obtain ⟨q,hq,rfl⟩:=List.mem_map.1 hv
      rw [gc];simp;omega)
     simp only [List.length_map] at h8
     simp only [List.length_append,List.length_cons]
     simp only [List.length_cons] at h8
     omega
    have hI:=rc (ts:=ts) (f:=rd ts n) (hw.ty t (br h1)) (rest:=r) (p :: fs) ((aL 44 (((p :: fs).map aw).map V.out) ++ 125 :: r).length + 1) 0 [] (by simp) hlen (fun q hq=>⟨h3 q hq,h5 q hq,by have:=((hw.ty t (br h1)).fld _ (h3 q hq)).tag;omega,fun r hr=>ih (h4 q hq) (by
     have:=V.deep_mem (ks:=(p :: fs).map aw) (v:=aw q) (List.mem_map.2 ⟨q,hq,rfl⟩)
     rw [show V.deep (aw q) = V.deep q.2 from kC] at this
     omega) r hr⟩) h6
    obtain ⟨c,s,e1,e2⟩:=rH (m:=p.1.tag) (by have:=((hw.ty t (br h1)).fld _ (h3 p (by simp))).tag;omega)
    have he2:=vR e2
    cases hj : aL 44 (((p :: fs).map aw).map V.out) ++ 125 :: r with
    | nil=>simp at hj
    | cons c' s' =>
     have hc' : c' = c:=by
      have : ∃ s2,aL 44 (((p :: fs).map aw).map V.out) ++ 125 :: r = c :: s2:=by
       cases fs with
       | nil=>simp only [List.map_cons,List.map_nil,aL,gc,e1,List.cons_append];exact ⟨_,rfl⟩
       | cons u ks=>simp only [List.map_cons,aL,gc,e1,List.cons_append];exact ⟨_,rfl⟩
      obtain ⟨s2,h3⟩:=this
      rw [hj] at h3;injection h3
     try dsimp only
     rw [if_neg (by rw [hc'];omega),← hj,hI];rfl
  | enm k t d h1 h2 h3 =>
   have hk : ∃ k',k = 64 :: k':=by
    cases k with
    | nil=>simp [a8,b7] at h1
    | cons c k' =>
     by_cases h64 : c.toNat = 64
     ·exact ⟨k',by rw [show c = 64 from UInt8.toNat_inj.1 h64]⟩
     ·exact (dc h1 rfl h64).elim
   obtain ⟨k',rfl⟩:=hk
   have ht:=((hw.ty t (br h1)).fld d h3).tag
   have e : V.out (.nd 69 [] d.tag []) ++ r = 35 :: (bI d.tag ++ r):=by rw [V.out];rfl
   rw [e]
   unfold fI
   try dsimp only
   rw [if_neg dC,if_neg dC,h1]
   try dsimp only
   unfold bC
   dsimp only
   rw [if_neg oM,if_pos h2,if_pos dC,oQ oM ht.2 dC hr]
   try dsimp only
   rw [gx (hw.ty t (br h1)) h3,if_pos (by simp)]
  | uni k t d v h1 h2 h3 h4 h5 =>
   rw [d8 dC] at hd
   have hd2 : v.deep ≤ n:=by have:=V.deep_mem (ks:=[v]) (v:=v) (by simp);omega
   have hk : ∃ k',k = 64 :: k':=by
    cases k with
    | nil=>simp [a8,b7] at h1
    | cons c k' =>
     by_cases h64 : c.toNat = 64
     ·exact ⟨k',by rw [show c = 64 from UInt8.toNat_inj.1 h64]⟩
     ·exact (dc h1 rfl h64).elim
   obtain ⟨k',rfl⟩:=hk
   rw [nS]
   unfold fI
   try dsimp only
   rw [if_neg dC,if_neg dC,h1]
   try dsimp only
   unfold bC
   dsimp only
   rw [if_neg h2,if_neg h3,if_pos dC,l6 (hw.ty t (br h1)) h4 (ih h5 hd2 _ (j5 dC))]
   try dsimp only
   rw [if_pos dC]
theorem lM {ts : List Ty} (hw : SchW ts) {k : adA} {v : V} (h : OfK ts k v) (hl : v.out.length ≤ 400) (hd : v.deep ≤ 12) : ce ts k v.out = some v:=by
 have h1:=l4 hw 12 h hd [] lE
 rw [List.append_nil] at h1
 unfold ce
 rw [if_pos hl,h1]
theorem t9 {ts : List Ty} (hw : SchW ts) {k : adA} {v : V} (h : OfK ts k v) (hn : ¬ (v.out.length ≤ 400 ∧ v.deep ≤ 12)) : ce ts k v.out = none:=by
 cases hv : ce ts k v.out with
 | none=>rfl
 | some u =>
  obtain ⟨h1,h2,h3⟩:=eR hv
  have hu:=cQ hv
  have hd : v.deep ≤ max v.deep 12:=Nat.le_max_left _ _
  have h4:=l4 hw (max v.deep 12) h hd [] lE
  have h5:=l4 hw (max v.deep 12) hu (Nat.le_trans h3 (Nat.le_max_right _ _)) [] lE
  rw [List.append_nil] at h4 h5
  rw [h1,h4] at h5
  have:=(Prod.mk.inj (Option.some.inj h5)).1
  subst this
  exact absurd ⟨h2,h3⟩ hn
theorem d7 {ts : List Ty} {k : adA} (h : aB ts k = true) : ∃ c r,k = c :: r:=by
 cases k with
 | nil=>unfold aB bU eV at h;simp at h
 | cons c r=>exact ⟨c,r,rfl⟩
theorem yR {t : Ty} (hw : TyW t) (hs : t.sort ≠ 82) : t.fields.headD default ∈ t.fields:=by
 have:=hw.ne hs
 cases h : t.fields with
 | nil=>exact absurd h this
 | cons d r=>simp
theorem acA : bI 0 = [48]:=by rw [d9 dC dC];decide
theorem l8 : V.out (.nd 110 (bI 0) 0 []) = [48]:=by rw [V.out];exact acA
theorem vw {ts : List Ty} (hw : SchW ts) : ∀ (n : Nat) {k : adA},aB ts k = true → (∀ t,a8 ts k = some t → ci ts n t = true) → ∃ u,OfK ts k u ∧ u.out = bV ts (n + 1) k ∧ u.deep ≤ n + 1 ∧ u.out.length ≤ 30 * (n + 1) ∧ u.size ≤ 1:=by
 intro n
 induction n with
 | zero =>
  intro k hk he
  obtain ⟨c,r,rfl⟩:=d7 hk
  unfold bV
  by_cases h91 : c.toNat = 91
  ·obtain rfl:=bX h91 dC
   exact ⟨_,.lst _ [] (by simp) (by simp),by rw [if_pos h91,V.out];rfl,by simp [V.deep,V.deeps],by rw [V.out];decide,by simp [V.size,cX,V.sizes]⟩
  by_cases h63 : c.toNat = 63
  ·obtain rfl:=bX h63 dC
   exact ⟨_,.non _,by rw [if_neg h91,if_pos h63,V.out];rfl,by simp [V.deep,V.deeps],by rw [V.out];decide,by simp [V.size,cX]⟩
  rw [if_neg h91,if_neg h63]
  cases hr : a8 ts (c :: r) with
  | some t=>have:=he t hr;simp [ci] at this
  | none =>
   dsimp only
   rcases dX hk (by rintro (h | h) <;> contradiction) hr with e | e | e
   all_goals rw [e]
   ·exact ⟨_,.num [] 0 dC dC,by rw [l8];decide,by simp [V.deep,V.deeps],by rw [l8];decide,by simp [V.size,cX]⟩
   ·exact ⟨_,.txt [] [] dC,by rw [V.out];decide,by simp [V.deep,V.deeps],by rw [V.out];decide,by simp [V.size,cX]⟩
   ·exact ⟨_,.flg [] _ (.inr rfl),by rw [V.out];decide,by simp [V.deep,V.deeps],by rw [V.out];decide,by simp [V.size,cX]⟩
 | succ n ih =>
  intro k hk he
  obtain ⟨c,r,rfl⟩:=d7 hk
  unfold bV
  by_cases h91 : c.toNat = 91
  ·obtain rfl:=bX h91 dC
   exact ⟨_,.lst _ [] (by simp) (by simp),by rw [if_pos h91,V.out];rfl,by simp [V.deep,V.deeps],by rw [V.out];simp [cW,V.outs,aL];omega,by simp [V.size,cX,V.sizes]⟩
  by_cases h63 : c.toNat = 63
  ·obtain rfl:=bX h63 dC
   exact ⟨_,.non _,by rw [if_neg h91,if_pos h63,V.out];rfl,by simp [V.deep,V.deeps],by rw [V.out];simp [cW];omega,by simp [V.size,cX]⟩
  rw [if_neg h91,if_neg h63]
  cases hr : a8 ts (c :: r) with
  | none =>
   dsimp only
   rcases dX hk (by rintro (h | h) <;> contradiction) hr with e | e | e
   all_goals rw [e]
   ·exact ⟨_,.num [] 0 dC dC,by rw [l8];decide,by simp [V.deep,V.deeps],by rw [l8];simp;omega,by simp [V.size,cX]⟩
   ·exact ⟨_,.txt [] [] dC,by rw [V.out];decide,by simp [V.deep,V.deeps],by rw [V.out];simp [cW];omega,by simp [V.size,cX]⟩
   ·exact ⟨_,.flg [] _ (.inr rfl),by rw [V.out];decide,by simp [V.deep,V.deeps],by rw [V.out];simp [cW];omega,by simp [V.size,cX]⟩
  | some t =>
   have htm:=br hr
   have htw:=hw.ty t htm
   dsimp only
   by_cases h82 : t.sort = 82
   ·rw [if_pos h82]
    exact ⟨_,.recd _ t [] hr h82 (by simp) (by simp) (by simp) (by simp),by rw [V.out];rfl,by simp [V.deep,V.deeps],by rw [V.out];simp [cW,V.outs,aL];omega,by simp [V.size,cX,V.sizes]⟩
   rw [if_neg h82]
   have hd:=yR htw h82
   have htg:=(htw.fld _ hd).tag
   have hdl:=gO (m:=tag0 t) (by unfold tag0;omega)
   by_cases h69 : t.sort = 69
   ·rw [if_pos h69]
    exact ⟨_,.enm _ t _ hr h69 hd,by rw [V.out];rfl,by simp [V.deep,V.deeps],by rw [V.out];show (35 :: bI (tag0 t)).length ≤ _;simp only [List.length_cons];omega,by simp [V.size,cX]⟩
   rw [if_neg h69]
   have h85 : t.sort = 85:=by have:=htw.sort;unfold eK at this;omega
   have he1:=he t hr
   unfold ci at he1
   rw [if_neg (by simpa using h85)] at he1
   obtain ⟨u,g1,g2,g3,g4,g5⟩:=ih (k:=eP t) (dT hw htm h69 hd) (fun t' ht'=>by rw [ht'] at he1;exact he1)
   refine ⟨_,.uni _ t _ u hr h82 h69 hd g1,?_,?_,?_,?_⟩
   ·rw [V.out,← g2];simp [cW,V.outs,aL,tag0]
   ·rw [d8 dC,V.deeps,V.deeps];omega
   ·have e:=nS (v:=u) (n:=tag0 t) (r:=[])
    rw [List.append_nil] at e
    show (V.out (.nd 85 [] (tag0 t) [u])).length ≤ _
    rw [e];simp only [List.length_cons,List.length_append,List.length_nil];omega
   ·rw [V.size,if_neg (by unfold cX;simp),V.sizes,V.sizes];omega
theorem vx {ts : List Ty} (hw : SchW ts) {k : adA} (hk : aB ts k = true) : ∃ u,OfK ts k u ∧ u.out = py ts k ∧ u.deep ≤ 12 ∧ u.out.length ≤ 400 ∧ u.size ≤ 1:=by
 have hl:=hw.len
 obtain ⟨u,h1,h2,h3,h4,h5⟩:=vw hw (ts.length + 1) hk (fun t ht=>by
  have hm:=br ht
  obtain ⟨i,hi,rfl⟩:=List.mem_iff_getElem.1 hm
  have:=hw.valid.2 i hi
  rwa [aA hi] at this)
 exact ⟨u,h1,h2,oM,oM,h5⟩
theorem vy {ts : List Ty} (hw : SchW ts) {t : Ty} (ht : t ∈ ts) (hs : t.sort ≠ 69) {d : Fld} (hd : d ∈ t.fields) : ∃ u,OfK ts d.kind u ∧ u.out = bT ts d ∧ u.deep ≤ 12 ∧ u.out.length ≤ 400:=by
 unfold bT
 by_cases h0 : d.stand = []
 ·rw [if_pos h0]
  obtain ⟨u,h1,h2,h3,h4,_⟩:=vx hw (dT hw ht hs hd)
  exact ⟨u,h1,h2,h3,h4⟩
 ·rw [if_neg h0]
  have h1:=(((hw.ty t ht).fld d hd).stand h0).2
  unfold bZ at h1
  split at h1
  ·rename_i hk
   rw [hk]
   simp only [Bool.and_eq_true] at h1
   obtain ⟨m,hm⟩:=Option.isSome_iff_exists.1 h1.1
   have h2:=d6 hm
   have h3:=ma hm
   refine ⟨_,.num [] m h3 h2.1,by rw [V.out];exact h2.2.1.symm,by simp [V.deep,V.deeps],?_⟩
   rw [V.out]
   show (bI m).length ≤ 400
   have:=gO h2.1;omega
  ·split at h1
   ·rename_i hk
    rw [hk]
    simp only [Bool.and_eq_true] at h1
    have hx:=h1.1
    have hx2:=hx
    unfold dW at hx
    rw [decide_eq_true_eq] at hx
    obtain ⟨⟨h2,h3⟩,h4,h5,_⟩:=hx
    obtain ⟨x,hxs⟩ : ∃ x,d.stand = 39 :: (x ++ [39]):=by
     cases hs : d.stand with
     | nil=>exact absurd hs h0
     | cons c r =>
      rw [hs] at h4 h5 h2
      have hc : c = 39:=UInt8.toNat_inj.1 (by rw [bj] at h4;exact h4)
      have hr : r ≠ []:=by rintro rfl;simp at h2
      refine ⟨r.dropLast,?_⟩
      have hl : r.getLast hr = 39:=by
       refine UInt8.toNat_inj.1 ?_
       simp only [List.length_cons,Nat.add_sub_cancel] at h5
       obtain ⟨m,hm⟩ : ∃ m,r.length = m + 1:=⟨r.length - 1,by have:=List.length_pos_iff.2 hr;omega⟩
       rw [hm,er] at h5
       rw [List.getLast_eq_getElem]
       have : bt r m = (r[r.length - 1]'(by have:=List.length_pos_iff.2 hr;omega)).toNat:=by simp [bt,List.getD,hm]
       rw [← this,h5];rfl
      rw [hc];congr 1
      rw [← hl,List.dropLast_concat_getLast]
    rw [hxs] at hx2 h3 ⊢
    refine ⟨_,.txt [] x hx2,by rw [V.out];rfl,by simp [V.deep,V.deeps],?_⟩
    rw [V.out]
    show (39 :: (x ++ [39])).length ≤ 400
    omega
   ·split at h1
    ·rename_i hk
     rw [hk]
     rw [decide_eq_true_eq] at h1
     rw [h1]
     exact ⟨_,.flg [] _ (.inl rfl),by rw [V.out];rfl,by simp [V.deep,V.deeps],by rw [V.out];decide⟩
    ·cases h1
def cI : List adA → Option (List Int)
 | []=>some []
 | x :: xs=>match aK x 999999 with
  | none=>none
  | some n=>(cI xs).map (n :: ·)
def cG (s : adA) : Option (List Int):=if s = [] then some [] else match cI (aZ 47 s) with
 | some p=>if p.length ≤ 8 then some p else none
 | none=>none
theorem k7 : ∀ {xs : List adA} {p : List Int},cI xs = some p → p.length = xs.length ∧ ∀ n ∈ p,0 ≤ n ∧ n ≤ 999999
 | [],p,h=>by simp only [cI,Option.some.injEq] at h;subst h;simp
 | x :: xs,p,h=>by
  unfold cI at h
  cases hn : aK x 999999 with
  | none=>rw [hn] at h;cases h
  | some n =>
   rw [hn] at h
   dsimp only at h
   cases hs : cI xs with
   | none=>rw [hs] at h;cases h
   | some q =>
    rw [hs] at h
    simp only [Option.map_some,Option.some.injEq] at h
    subst h
    obtain ⟨h1,h2⟩:=k7 hs
    refine ⟨by simp [h1],fun m hm=>?_⟩
    rcases List.mem_cons.1 hm with rfl | hm
    ·exact ⟨ma hn,(d6 hn).1⟩
    ·exact h2 m hm
def dZ (ts : List Ty) (f : Fld) : V:=(ce ts f.kind (bT ts f)).getD default
def cq (f : Fld) : List V → Option V
 | []=>none
 | x :: r=>if x.tag = f.tag then some (ab x.kids 0) else cq f r
def dP (ts : List Ty) (v : V) (f : Fld) : V:=(cq f v.kids).getD (dZ ts f)
def aE (ts : List Ty) (k : adA) (v : V) (n : Int) : Option (adA × V):=match k with
 | []=>none
 | c :: r=>if c.toNat = 91 ∨ c.toNat = 63 then (if n < (v.kids.length : Nat) then some (r,ab v.kids n.toNat) else none)
  else match a8 ts (c :: r) with
   | none=>none
   | some t=>match ck t.fields n with
    | none=>none
    | some f=>if t.sort = 69 then none else if t.sort = 82 then some (f.kind,dP ts v f) else if v.tag = n then some (f.kind,ab v.kids 0) else none
def bi (ts : List Ty) : adA → V → List Int → Option (adA × V)
 | k,v,[]=>some (k,v)
 | k,v,n :: p=>match aE ts k v n with
  | none=>none
  | some (k',v')=>bi ts k' v' p
theorem fh {ts : List Ty} (hw : SchW ts) {t : Ty} (ht : t ∈ ts) (hs : t.sort ≠ 69) {d : Fld} (hd : d ∈ t.fields) : OfK ts d.kind (dZ ts d) ∧ ce ts d.kind (bT ts d) = some (dZ ts d) ∧ (dZ ts d).out = bT ts d:=by
 obtain ⟨u,h1,h2,h3,h4⟩:=vy hw ht hs hd
 have h5:=lM hw h1 h4 h3
 rw [h2] at h5
 have h6 : dZ ts d = u:=by unfold dZ;rw [h5];rfl
 rw [h6]
 exact ⟨h1,h5,h2⟩
theorem gU {ts : List Ty} {t : Ty} (hw : TyW t) {f : Fld} (hf : f ∈ t.fields) : ∀ {fs : List (Fld × V)} {u : V},(∀ p ∈ fs,p.1 ∈ t.fields ∧ OfK ts p.1.kind p.2) → cq f (fs.map aw) = some u → OfK ts f.kind u ∧ ∃ p ∈ fs,p.1 = f ∧ p.2 = u
 | [],u,_,h=>by simp [cq] at h
 | p :: fs,u,hp,h=>by
  simp only [List.map_cons,cq] at h
  split at h
  ·rename_i he
   simp only [Option.some.injEq] at h
   have h1 : p.2 = u:=h
   have h2:=gh hw (hp p (by simp)).1 hf he
   subst h1
   exact ⟨by rw [← h2];exact (hp p (by simp)).2,p,by simp,h2,rfl⟩
  ·obtain ⟨h1,q,h2,h3⟩:=gU hw hf (fun q hq=>hp q (by simp [hq])) h
   exact ⟨h1,q,by simp [h2],h3⟩
theorem zK {ts : List Ty} (hw : SchW ts) {t : Ty} (ht : t ∈ ts) (hs : t.sort = 82) {f : Fld} (hf : f ∈ t.fields) {fs : List (Fld × V)} (hp : ∀ p ∈ fs,p.1 ∈ t.fields ∧ OfK ts p.1.kind p.2) : OfK ts f.kind (dP ts (.nd 82 [] 0 (fs.map aw)) f):=by
 unfold dP
 cases h : cq f (V.kids (.nd 82 [] 0 (fs.map aw))) with
 | none=>exact (fh hw ht oM hf).1
 | some u=>exact (gU (hw.ty t ht) hf hp h).1
theorem cL {ts : List Ty} (hw : SchW ts) {k : adA} {v : V} (h : OfK ts k v) (hk : aB ts k = true) {n : Int} (hn : 0 ≤ n) {k' : adA} {v' : V} (e : aE ts k v n = some (k',v')) : OfK ts k' v' ∧ aB ts k' = true:=by
 obtain ⟨c,r,rfl⟩:=d7 hk
 unfold aE at e
 dsimp only at e
 split at e
 ·rename_i hc
  split at e
  ·rename_i hlt
   simp only [Option.some.injEq,Prod.mk.injEq] at e
   obtain ⟨rfl,rfl⟩:=e
   refine ⟨?_,fG hc hk⟩
   rcases dg h oM with ⟨h1,_⟩ | ⟨h1,_⟩ | ⟨h1,_⟩ | ⟨h1,ks,_,h3,rfl⟩ | ⟨h1,rfl | ⟨u,h3,rfl⟩⟩
   ·omega
   ·omega
   ·omega
   ·rw [V.kids] at hlt ⊢
    have : n.toNat < ks.length:=oM
    rw [aA this];exact h3 _ (List.getElem_mem this)
   ·simp [V.kids] at hlt;omega
   ·simp [V.kids] at hlt
    have : n.toNat = 0:=oM
    rw [this];exact h3
  ·cases e
 ·split at e
  ·cases e
  ·rename_i t hr
   have ht:=br hr
   split at e
   ·cases e
   ·rename_i f hf
    have hfm:=List.mem_of_find?_eq_some hf
    split at e
    ·cases e
    ·rename_i h69
     have hki:=dT hw ht h69 hfm
     split at e
     ·rename_i h82
      simp only [Option.some.injEq,Prod.mk.injEq] at e
      obtain ⟨rfl,rfl⟩:=e
      rcases bL h hr with ⟨_,fs,rfl,g3,g4,_,_⟩ | ⟨h1,_⟩ | ⟨h1,_⟩
      ·exact ⟨zK hw ht h82 hfm fun p hp=>⟨g3 p hp,g4 p hp⟩,hki⟩
      ·omega
      ·omega
     ·rename_i h82
      split at e
      ·rename_i htg
       simp only [Option.some.injEq,Prod.mk.injEq] at e
       obtain ⟨rfl,rfl⟩:=e
       rcases bL h hr with ⟨h1,_⟩ | ⟨h1,_⟩ | ⟨_,_,d,u,rfl,g4,g5⟩
       ·omega
       ·omega
       ·have h7 : f.tag = n:=by have:=List.find?_some hf;simpa using this
        have h8:=gh (hw.ty t ht) g4 hfm (by rw [h7];exact htg)
        rw [V.kids]
        exact ⟨by rw [← h8];exact g5,hki⟩
      ·cases e
theorem gI {ts : List Ty} (hw : SchW ts) : ∀ {p : List Int} {k : adA} {v : V} {k' : adA} {v' : V},OfK ts k v → aB ts k = true → (∀ n ∈ p,0 ≤ n) → bi ts k v p = some (k',v') → OfK ts k' v' ∧ aB ts k' = true
 | [],k,v,k',v',h,hk,_,e=>by
  simp only [bi,Option.some.injEq,Prod.mk.injEq] at e
  obtain ⟨rfl,rfl⟩:=e
  exact ⟨h,hk⟩
 | n :: p,k,v,k',v',h,hk,hp,e=>by
  unfold bi at e
  cases hs : aE ts k v n with
  | none=>rw [hs] at e;cases e
  | some x =>
   rw [hs] at e
   obtain ⟨k1,v1⟩:=x
   obtain ⟨h1,h2⟩:=cL hw h hk (hp n (by simp)) hs
   exact gI hw h1 h2 (fun m hm=>hp m (by simp [hm])) e
def dG (ts : List Ty) (f : Fld) (x : V) : List V → List V
 | []=>if x.out = bT ts f then [] else [.nd 61 [] f.tag [x]]
 | y :: r=>if y.tag < f.tag then y :: dG ts f x r
  else (if x.out = bT ts f then [] else [.nd 61 [] f.tag [x]]) ++ (if y.tag = f.tag then r else y :: r)
def bH (ts : List Ty) : adA → V → List Int → V → V
 | _,_,[],x=>x
 | k,v,n :: p,x=>match aE ts k v n with
  | none=>v
  | some (k',v')=>if v.what = 82 then (match a8 ts k with
    | some t=>(match ck t.fields n with
     | some f=>.nd 82 [] 0 (dG ts f (bH ts k' v' p x) v.kids)
     | none=>v)
    | none=>v)
   else .nd v.what [] v.tag (if v.what = 91 then v.kids.set n.toNat (bH ts k' v' p x) else [bH ts k' v' p x])
theorem uB {ts : List Ty} {t : Ty} (hw : TyW t) {f : Fld} (hf : f ∈ t.fields) {x : V} (hx : OfK ts f.kind x) : ∀ {fs : List (Fld × V)},(∀ p ∈ fs,p.1 ∈ t.fields ∧ OfK ts p.1.kind p.2 ∧ p.2.out ≠ bT ts p.1) → fs.Pairwise (fun a b=>a.1.tag < b.1.tag) →
  ∃ gs : List (Fld × V),dG ts f x (fs.map aw) = gs.map aw ∧ (∀ p ∈ gs,(p.1 ∈ t.fields ∧ OfK ts p.1.kind p.2 ∧ p.2.out ≠ bT ts p.1) ∧ (p ∈ fs ∨ p.1 = f)) ∧ gs.Pairwise (fun a b=>a.1.tag < b.1.tag)
 | [],_,_=>by
  simp only [List.map_nil,dG]
  split
  ·exact ⟨[],rfl,by simp,by simp⟩
  ·rename_i hne
   exact ⟨[(f,x)],rfl,fun p hp=>by simp only [List.mem_singleton] at hp;subst hp;exact ⟨⟨hf,hx,hne⟩,.inr rfl⟩,by simp⟩
 | q :: fs,hp,hpw=>by
  rw [List.pairwise_cons] at hpw
  simp only [List.map_cons,dG]
  show ∃ gs : List (Fld × V),(if q.1.tag < f.tag then aw q :: dG ts f x (fs.map aw) else (if x.out = bT ts f then [] else [.nd 61 [] f.tag [x]]) ++ (if q.1.tag = f.tag then fs.map aw else aw q :: fs.map aw)) = gs.map aw ∧ _
  by_cases hlt : q.1.tag < f.tag
  ·rw [if_pos hlt]
   obtain ⟨gs,e1,e2,e3⟩:=uB hw hf hx (fun p h=>hp p (by simp [h])) hpw.2
   refine ⟨q :: gs,by rw [e1];rfl,fun p h=>?_,?_⟩
   ·rcases List.mem_cons.1 h with rfl | h
    ·exact ⟨hp _ (by simp),.inl (by simp)⟩
    ·exact ⟨(e2 p h).1,(e2 p h).2.imp (fun h=>by simp [h]) id⟩
   ·rw [List.pairwise_cons]
    refine ⟨fun p h=>?_,e3⟩
    rcases (e2 p h).2 with h1 | h1
    ·exact hpw.1 p h1
    ·rw [h1];exact hlt
  ·rw [if_neg hlt]
   have hB : ∃ gs : List (Fld × V),(if q.1.tag = f.tag then fs.map aw else aw q :: fs.map aw) = gs.map aw ∧ (∀ p ∈ gs,(p.1 ∈ t.fields ∧ OfK ts p.1.kind p.2 ∧ p.2.out ≠ bT ts p.1) ∧ p ∈ q :: fs ∧ f.tag < p.1.tag) ∧ gs.Pairwise (fun a b=>a.1.tag < b.1.tag):=by
    split
    ·rename_i he
     exact ⟨fs,rfl,fun p h=>⟨hp p (by simp [h]),by simp [h],by have:=hpw.1 p h;omega⟩,hpw.2⟩
    ·rename_i he
     refine ⟨q :: fs,rfl,fun p h=>⟨hp p h,h,?_⟩,by rw [List.pairwise_cons];exact hpw⟩
     rcases List.mem_cons.1 h with rfl | h
     ·omega
     ·have:=hpw.1 p h;omega
   obtain ⟨gs,e1,e2,e3⟩:=hB
   rw [e1]
   split
   ·exact ⟨gs,rfl,fun p h=>⟨(e2 p h).1,.inl (e2 p h).2.1⟩,e3⟩
   ·rename_i hne
    refine ⟨(f,x) :: gs,rfl,fun p h=>?_,?_⟩
    ·rcases List.mem_cons.1 h with rfl | h
     ·exact ⟨⟨hf,hx,hne⟩,.inr rfl⟩
     ·exact ⟨(e2 p h).1,.inl (e2 p h).2.1⟩
    ·rw [List.pairwise_cons]
     exact ⟨fun p h=>(e2 p h).2.2,e3⟩
theorem ew {ts : List Ty} (hw : SchW ts) : ∀ {p : List Int} {k : adA} {v x : V} {k' : adA} {v' : V},OfK ts k v → aB ts k = true → (∀ n ∈ p,0 ≤ n) → bi ts k v p = some (k',v') → OfK ts k' x → OfK ts k (bH ts k v p x)
 | [],k,v,x,k',v',h,hk,_,e,hx=>by
  simp only [bi,Option.some.injEq,Prod.mk.injEq] at e
  obtain ⟨rfl,rfl⟩:=e
  exact hx
 | n :: p,k,v,x,k',v',h,hk,hp,e,hx=>by
  unfold bi at e
  cases hs : aE ts k v n with
  | none=>rw [hs] at e;cases e
  | some y =>
   rw [hs] at e
   obtain ⟨k1,v1⟩:=y
   obtain ⟨h1,h2⟩:=cL hw h hk (hp n (by simp)) hs
   have ih:=ew hw h1 h2 (fun m hm=>hp m (by simp [hm])) e hx
   have hn:=hp n (by simp)
   unfold bH
   rw [hs]
   dsimp only
   obtain ⟨c,r,rfl⟩:=d7 hk
   unfold aE at hs
   dsimp only at hs
   split at hs
   ·rename_i hc
    split at hs
    ·rename_i hlt
     simp only [Option.some.injEq,Prod.mk.injEq] at hs
     obtain ⟨rfl,rfl⟩:=hs
     rcases dg h oM with ⟨g1,_⟩ | ⟨g1,_⟩ | ⟨g1,_⟩ | ⟨g1,ks,g2,g3,rfl⟩ | ⟨g1,rfl | ⟨u,g3,rfl⟩⟩
     ·omega
     ·omega
     ·omega
     ·rw [V.what,if_neg dC,if_pos rfl]
      obtain rfl:=bX g1 dC
      refine .lst _ _ (by rw [List.length_set];exact g2) fun u hu=>?_
      rcases List.mem_or_eq_of_mem_set hu with hu | rfl
      ·exact g3 u hu
      ·exact ih
     ·simp [V.kids] at hlt;omega
     ·rw [V.what,if_neg dC,if_neg dC]
      obtain rfl:=bX g1 dC
      exact .opt _ _ ih
    ·cases hs
   ·split at hs
    ·cases hs
    ·rename_i t hr
     have ht:=br hr
     split at hs
     ·cases hs
     ·rename_i f hf
      have hfm:=List.mem_of_find?_eq_some hf
      split at hs
      ·cases hs
      ·rename_i h69
       split at hs
       ·rename_i h82
        simp only [Option.some.injEq,Prod.mk.injEq] at hs
        obtain ⟨rfl,rfl⟩:=hs
        rcases bL h hr with ⟨_,fs,rfl,g3,g4,g5,g6⟩ | ⟨g1,_⟩ | ⟨g1,_⟩
        ·rw [V.what,if_pos rfl,hr]
         dsimp only
         rw [hf]
         dsimp only
         rw [V.kids]
         obtain ⟨gs,e1,e2,e3⟩:=uB (hw.ty t ht) hfm ih (fun p hp=>⟨g3 p hp,g4 p hp,g5 p hp⟩) g6
         rw [e1]
         exact .recd _ t gs hr h82 (fun p hp=>(e2 p hp).1.1) (fun p hp=>(e2 p hp).1.2.1) (fun p hp=>(e2 p hp).1.2.2) e3
        ·omega
        ·omega
       ·rename_i h82
        split at hs
        ·rename_i htg
         simp only [Option.some.injEq,Prod.mk.injEq] at hs
         obtain ⟨rfl,rfl⟩:=hs
         rcases bL h hr with ⟨g1,_⟩ | ⟨g1,_⟩ | ⟨_,_,d,u,rfl,g4,g5⟩
         ·omega
         ·omega
         ·have h7 : f.tag = n:=by have:=List.find?_some hf;simpa using this
          have h8:=gh (hw.ty t ht) g4 hfm (by rw [h7];exact htg)
          rw [V.what,if_neg dC,if_neg dC]
          exact .uni _ t d _ hr h82 h69 g4 (by rw [h8];exact ih)
        ·cases hs
theorem iN {ts : List Ty} (hw : SchW ts) {k : adA} {u v : V} (hu : OfK ts k u) (hv : OfK ts k v) (h : u.out = v.out) : u = v:=by
 have h1:=l4 hw (max u.deep v.deep) hu (Nat.le_max_left _ _) [] lE
 have h2:=l4 hw (max u.deep v.deep) hv (Nat.le_max_right _ _) [] lE
 rw [h,h2] at h1
 simp only [Option.some.injEq,Prod.mk.injEq,and_true] at h1
 exact h1.symm
theorem mQ {w : Nat} {x : adA} {t : Int} {ks : List V} : V.tag (.nd w x t ks) = t:=rfl
def nf (ts : List Ty) (f : Fld) (x : V) : List V:=if x.out = bT ts f then [] else [.nd 61 [] f.tag [x]]
theorem eU {ts : List Ty} {f : Fld} {x : V} : dG ts f x [] = nf ts f x:=rfl
theorem dH {ts : List Ty} {f : Fld} {x y : V} {r : List V} : dG ts f x (y :: r) = if y.tag < f.tag then y :: dG ts f x r else nf ts f x ++ (if y.tag = f.tag then r else y :: r):=rfl
theorem zw {ts : List Ty} {f : Fld} {x : V} : ∀ {vs : List V},(∀ v ∈ vs,f.tag < v.tag) → dG ts f x vs = nf ts f x ++ vs
 | [],_=>by rw [eU,List.append_nil]
 | v :: vs,h=>by
  have:=h v (by simp)
  rw [dH,if_neg oM,if_neg oM]
theorem lP {f : Fld} : ∀ {vs : List V},(∀ v ∈ vs,f.tag < v.tag) → cq f vs = none
 | [],_=>rfl
 | v :: vs,h=>by
  have:=h v (by simp)
  rw [cq,if_neg oM]
  exact lP fun u hu=>h u (by simp [hu])
theorem r9 {ts : List Ty} {f : Fld} {x : V} {vs : List V} (h : ∀ v ∈ vs,f.tag < v.tag) : cq f (nf ts f x ++ vs) = if x.out = bT ts f then none else some x:=by
 unfold nf
 split
 ·exact lP h
 ·rw [List.singleton_append,cq,mQ,if_pos rfl];rfl
abbrev nL (vs : List V) : Prop:=vs.Pairwise fun a b=>a.tag < b.tag
theorem qY {ts : List Ty} {f : Fld} {x : V} : ∀ {vs : List V},nL vs → cq f (dG ts f x vs) = if x.out = bT ts f then none else some x
 | [],_=>by
  rw [eU]
  have:=r9 (ts:=ts) (f:=f) (x:=x) (vs:=[]) (by simp)
  rwa [List.append_nil] at this
 | v :: vs,h=>by
  replace h:=List.pairwise_cons.1 h
  rw [dH]
  split
  ·rw [cq,if_neg oM]
   exact qY h.2
  ·refine r9 fun u hu=>?_
   split at hu
   ·have:=h.1 u hu;omega
   ·rcases List.mem_cons.1 hu with rfl | hu
    ·omega
    ·have:=h.1 u hu;omega
theorem sA {ts : List Ty} {f : Fld} {x y : V} : ∀ {vs : List V},nL vs → dG ts f y (dG ts f x vs) = dG ts f y vs
 | [],_=>by
  rw [eU,eU]
  unfold nf
  split
  ·exact eU
  ·rw [dH,mQ,if_neg oM,if_pos rfl,List.append_nil];rfl
 | v :: vs,h=>by
  replace h:=List.pairwise_cons.1 h
  rw [dH,dH (x:=y)]
  split
  ·rename_i hl
   rw [dH,if_pos hl,sA h.2]
  ·rename_i hl
   have hB : ∀ u ∈ (if v.tag = f.tag then vs else v :: vs),f.tag < u.tag:=fun u hu=>by
    split at hu
    ·have:=h.1 u hu;omega
    ·rcases List.mem_cons.1 hu with rfl | hu
     ·omega
     ·have:=h.1 u hu;omega
   generalize (if v.tag = f.tag then vs else v :: vs) = ws at hB
   rw [show nf ts f x = if x.out = bT ts f then [] else [.nd 61 [] f.tag [x]] from rfl]
   split
   ·exact zw hB
   ·rw [List.singleton_append,dH,mQ,if_neg oM,if_pos rfl]
theorem rg {ts : List Ty} {t : Ty} (hw : TyW t) {f : Fld} (hf : f ∈ t.fields) {z : V} (hz : z.out = bT ts f) : ∀ {fs : List (Fld × V)},(∀ p ∈ fs,p.1 ∈ t.fields ∧ p.2.out ≠ bT ts p.1) → nL (fs.map aw) → dG ts f ((cq f (fs.map aw)).getD z) (fs.map aw) = fs.map aw
 | [],_,_=>by
  rw [List.map_nil,eU]
  show nf ts f z = []
  unfold nf;rw [if_pos hz]
 | q :: fs,hp,h=>by
  replace h:=List.pairwise_cons.1 h
  have hq:=hp q (by simp)
  rw [List.map_cons,dH,cq]
  by_cases hl : (aw q).tag < f.tag
  ·rw [if_pos hl,if_neg oM,rg hw hf hz (fun p hp'=>hp p (by simp [hp'])) h.2]
  ·rw [if_neg hl]
   by_cases he : (aw q).tag = f.tag
   ·rw [if_pos he,if_pos he]
    have h1 : q.1 = f:=gh hw hq.1 hf he
    have h2 : ((some (ab (aw q).kids 0)).getD z) = q.2:=rfl
    rw [h2]
    unfold nf
    rw [if_neg (by rw [← h1];exact hq.2),List.singleton_append,← h1]
   ·rw [if_neg he,if_neg he,lP fun v hv=>by have:=h.1 v hv;omega]
    show nf ts f z ++ _ = _
    unfold nf;rw [if_pos hz,List.nil_append]
theorem sd {ts : List Ty} {f g : Fld} (hg : g.tag ≠ f.tag) {x : V} : ∀ {vs : List V},cq g (dG ts f x vs) = cq g vs
 | []=>by
  rw [eU];unfold nf
  split
  ·rfl
  ·show (if V.tag (.nd 61 [] f.tag [x]) = g.tag then some (ab (V.kids (.nd 61 [] f.tag [x])) 0) else none) = none
   rw [mQ,if_neg oM]
 | v :: vs=>by
  rw [dH]
  split
  ·rw [cq,cq,sd hg]
  ·have h1 : ∀ ws : List V,cq g (nf ts f x ++ ws) = cq g ws:=fun ws=>by
    unfold nf
    split
    ·rfl
    ·rw [List.singleton_append,cq,mQ,if_neg oM]
   rw [h1]
   split
   ·rename_i he
    rw [cq,if_neg oM]
   ·rfl
def cN (ts : List Ty) (k : adA) (v : V) (n : Int) (y : V) : V:=if v.what = 82 then (match a8 ts k with
  | some t=>(match ck t.fields n with
   | some f=>.nd 82 [] 0 (dG ts f y v.kids)
   | none=>v)
  | none=>v)
 else .nd v.what [] v.tag (if v.what = 91 then v.kids.set n.toNat y else [y])
theorem dA {ts : List Ty} {k k1 : adA} {v v1 x : V} {n : Int} {p : List Int} (h : aE ts k v n = some (k1,v1)) : bH ts k v (n :: p) x = cN ts k v n (bH ts k1 v1 p x):=by
 rw [bH,h];rfl
theorem fN {ts : List Ty} {k k1 : adA} {v v1 : V} {n : Int} {p : List Int} (h : aE ts k v n = some (k1,v1)) : bi ts k v (n :: p) = bi ts k1 v1 p:=by
 rw [bi,h]
theorem pA {fs : List (Fld × V)} (h : fs.Pairwise fun a b=>a.1.tag < b.1.tag) : nL (fs.map aw):=List.pairwise_map.2 h
theorem lX {ts : List Ty} (hw : SchW ts) {k : adA} {v : V} (h : OfK ts k v) (hk : aB ts k = true) {n : Int} (hn : 0 ≤ n) {k1 : adA} {v1 : V} (hs : aE ts k v n = some (k1,v1)) {y : V} (hy : OfK ts k1 y) :
  (aE ts k (cN ts k v n y) n = some (k1,y) ∧ cN ts k v n v1 = v) ∧ (∀ z,cN ts k (cN ts k v n y) n z = cN ts k v n z) ∧ ∀ m,0 ≤ m → m ≠ n → aE ts k (cN ts k v n y) m = aE ts k v m:=by
 obtain ⟨c,r,rfl⟩:=d7 hk
 have hs0:=hs
 unfold aE at hs
 dsimp only at hs
 split at hs
 ·rename_i hc
  split at hs
  ·rename_i hlt
   simp only [Option.some.injEq,Prod.mk.injEq] at hs
   obtain ⟨rfl,rfl⟩:=hs
   rcases dg h oM with ⟨g1,_⟩ | ⟨g1,_⟩ | ⟨g1,_⟩ | ⟨g1,ks,g2,g3,rfl⟩ | ⟨g1,rfl | ⟨u,g3,rfl⟩⟩
   ·omega
   ·omega
   ·omega
   ·rw [V.kids] at hlt ⊢
    have hi : n.toNat < ks.length:=oM
    have e : ∀ z,cN ts (c :: r) (.nd 91 [] 0 ks) n z = .nd 91 [] 0 (ks.set n.toNat z):=fun z=>by
     unfold cN;rw [V.what,if_neg dC,if_pos rfl];rfl
    refine ⟨⟨?_,?_⟩,fun z=>?_,fun m hm hne=>?_⟩
    ·rw [e]
     unfold aE
     dsimp only
     rw [if_pos hc,V.kids,if_pos (by rw [List.length_set];exact hlt),aA (by rw [List.length_set];exact hi),List.getElem_set_self]
    ·rw [e,aA hi,List.set_getElem_self]
    ·rw [e,e]
     unfold cN;rw [V.what,if_neg dC,if_pos rfl,V.kids,List.set_set];rfl
    ·rw [e]
     unfold aE
     dsimp only
     rw [if_pos hc,if_pos hc,V.kids,V.kids,List.length_set]
     split
     ·rename_i hm2
      rw [aA (by rw [List.length_set];omega),aA oM,List.getElem_set_ne oM]
     ·rfl
   ·simp [V.kids] at hlt;omega
   ·simp [V.kids] at hlt
    obtain rfl : n = 0:=oM
    have e : ∀ w z,cN ts (c :: r) (.nd 63 [] 0 [w]) 0 z = .nd 63 [] 0 [z]:=fun w z=>by
     unfold cN;rw [V.what,if_neg dC,if_neg dC];rfl
    refine ⟨⟨?_,?_⟩,fun z=>?_,fun m hm hne=>?_⟩
    ·rw [e]
     unfold aE
     dsimp only
     rw [if_pos hc,V.kids,if_pos (by simp)];rfl
    ·rw [e];rfl
    ·rw [e,e,e]
    ·rw [e]
     unfold aE
     dsimp only
     rw [if_pos hc,if_pos hc,V.kids,V.kids,if_neg (by simp;omega),if_neg (by simp;omega)]
  ·cases hs
 ·rename_i hc
  split at hs
  ·cases hs
  ·rename_i t hr
   have ht:=br hr
   split at hs
   ·cases hs
   ·rename_i f hf
    have hfm:=List.mem_of_find?_eq_some hf
    have hft : f.tag = n:=by have:=List.find?_some hf;simpa using this
    split at hs
    ·cases hs
    ·rename_i h69
     split at hs
     ·rename_i h82
      simp only [Option.some.injEq,Prod.mk.injEq] at hs
      obtain ⟨rfl,rfl⟩:=hs
      rcases bL h hr with ⟨_,fs,rfl,g3,g4,g5,g6⟩ | ⟨g1,_⟩ | ⟨g1,_⟩
      ·have e : ∀ vs z,cN ts (c :: r) (.nd 82 [] 0 vs) n z = .nd 82 [] 0 (dG ts f z vs):=fun vs z=>by
        unfold cN;rw [V.what,if_pos rfl,hr]
        dsimp only
        rw [hf];rfl
       have hst:=fh hw ht oM hfm
       have hsrt:=pA g6
       refine ⟨⟨?_,?_⟩,fun z=>?_,fun m hm hne=>?_⟩
       ·rw [e]
        unfold aE
        dsimp only
        rw [if_neg hc,hr]
        dsimp only
        rw [hf]
        dsimp only
        rw [if_neg h69,if_pos h82]
        unfold dP
        rw [V.kids,qY hsrt]
        split
        ·rename_i hso
         show some (f.kind,dZ ts f) = _
         rw [iN hw hst.1 hy (by rw [hst.2.2,hso])]
        ·rfl
       ·rw [e]
        unfold dP
        rw [V.kids,rg (hw.ty t ht) hfm hst.2.2 (fun p hp=>⟨g3 p hp,g5 p hp⟩) hsrt]
       ·rw [e,e,e,sA hsrt]
       ·rw [e]
        unfold aE
        dsimp only
        rw [if_neg hc,if_neg hc,hr]
        dsimp only
        cases hg : ck t.fields m with
        | none=>rfl
        | some g =>
         have hgt : g.tag = m:=by have:=List.find?_some hg;simpa using this
         dsimp only
         rw [if_neg h69,if_neg h69,if_pos h82,if_pos h82]
         unfold dP
         rw [V.kids,V.kids,sd oM]
      ·omega
      ·omega
     ·rename_i h82
      split at hs
      ·rename_i htg
       simp only [Option.some.injEq,Prod.mk.injEq] at hs
       obtain ⟨rfl,rfl⟩:=hs
       rcases bL h hr with ⟨g1,_⟩ | ⟨g1,_⟩ | ⟨_,_,d,u,rfl,g4,g5⟩
       ·omega
       ·omega
       ·have e : ∀ w z,cN ts (c :: r) (.nd 85 [] d.tag [w]) n z = .nd 85 [] d.tag [z]:=fun w z=>by
         unfold cN;rw [V.what,if_neg dC,if_neg dC];rfl
        have htg2 : d.tag = n:=htg
        refine ⟨⟨?_,?_⟩,fun z=>?_,fun m hm hne=>?_⟩
        ·rw [e]
         unfold aE
         dsimp only
         rw [if_neg hc,hr]
         dsimp only
         rw [hf]
         dsimp only
         rw [if_neg h69,if_neg h82,V.tag,if_pos htg2];rfl
        ·rw [e];rfl
        ·rw [e,e,e]
        ·rw [e]
         unfold aE
         dsimp only
         rw [if_neg hc,if_neg hc,hr]
         dsimp only
         cases hg : ck t.fields m with
         | none=>rfl
         | some g =>
          dsimp only
          rw [if_neg h69,if_neg h69,if_neg h82,if_neg h82,V.tag,V.tag,if_neg oM,if_neg oM]
      ·cases hs
theorem mM {ts : List Ty} (hw : SchW ts) : ∀ {p : List Int} {k : adA} {v x y : V} {k' : adA} {v' : V},OfK ts k v → aB ts k = true → (∀ n ∈ p,0 ≤ n) → bi ts k v p = some (k',v') → OfK ts k' x →
  bi ts k (bH ts k v p x) p = some (k',x) ∧ bH ts k v p v' = v ∧ bH ts k (bH ts k v p x) p y = bH ts k v p y
 | [],k,v,x,y,k',v',h,hk,_,e,hx=>by
  simp only [bi,Option.some.injEq,Prod.mk.injEq] at e
  obtain ⟨rfl,rfl⟩:=e
  exact ⟨rfl,rfl,rfl⟩
 | n :: p,k,v,x,y,k',v',h,hk,hp,e,hx=>by
  unfold bi at e
  cases hs : aE ts k v n with
  | none=>rw [hs] at e;cases e
  | some q =>
   rw [hs] at e
   obtain ⟨k1,v1⟩:=q
   have hn:=hp n (by simp)
   obtain ⟨h1,h2⟩:=cL hw h hk hn hs
   have hp2 : ∀ m ∈ p,0 ≤ m:=fun m hm=>hp m (by simp [hm])
   obtain ⟨i1,i2,i3⟩:=mM hw (y:=y) h1 h2 hp2 e hx
   have hc:=ew hw h1 h2 hp2 e hx
   obtain ⟨⟨s1,s2⟩,s3,_⟩:=lX hw h hk hn hs hc
   rw [dA hs,dA hs,dA hs]
   refine ⟨?_,?_,?_⟩
   ·rw [fN s1];exact i1
   ·rw [i2,s2]
   ·rw [dA s1,i3,s3]
def iq {α : Type} (tg : α → Int) (told : Bool) (node : α) (tag : Int) : List α → Bool → List α
 | [],d=>if (told && !d) = true then [node] else []
 | y :: r,d=>(if tag ≤ tg y ∧ (told && !d) = true then [node] else []) ++ ((if tg y = tag then [] else [y]) ++ iq tg told node tag r (d || decide (tag ≤ tg y)))
def da {α : Type} (tg : α → Int) (node : α) (tag : Int) : List α → Bool → List α
 | [],d=>if d = true then [] else [node]
 | y :: r,d=>(if tag < tg y ∧ d = false then [node] else []) ++ ((if tg y = tag then [] else [y]) ++ da tg node tag r (d || decide (tag < tg y)))
theorem sF {α β : Type} {tg : α → Int} {tg' : β → Int} {h : α → β} (ht : ∀ a,tg' (h a) = tg a) {node : α} {tag : Int} : ∀ {l : List α} {d : Bool},(da tg node tag l d).map h = da tg' (h node) tag (l.map h) d
 | [],d=>by rw [da,List.map_nil,da];split <;> rfl
 | y :: r,d=>by
  rw [List.map_cons,da,da,List.map_append,List.map_append,sF ht,ht]
  congr 1
  ·split <;> rfl
  ·congr 1
   split <;> rfl
theorem ri {α : Type} {tg : α → Int} {told : Bool} {node : α} {tag : Int} : ∀ {l : List α},(∀ y ∈ l,tag < tg y) → iq tg told node tag l true = l
 | [],_=>by simp [iq]
 | y :: r,h=>by
  have h1:=h y (by simp)
  rw [iq,Bool.true_or,ri fun z hz=>h z (by simp [hz]),if_neg (by simp),if_neg oM];rfl
theorem kM {α : Type} {tg : α → Int} {node : α} {tag : Int} : ∀ {l : List α},(∀ y ∈ l,tag < tg y) → da tg node tag l true = l
 | [],_=>by simp [da]
 | y :: r,h=>by
  have h1:=h y (by simp)
  rw [da,Bool.true_or,kM fun z hz=>h z (by simp [hz]),if_neg (by simp),if_neg oM];rfl
theorem uE {ts : List Ty} {f : Fld} {x : V} : ∀ {vs : List V},nL vs → iq V.tag (decide (x.out ≠ bT ts f)) (.nd 61 [] f.tag [x]) f.tag vs false = dG ts f x vs
 | [],_=>by
  rw [eU,iq];unfold nf
  by_cases e : x.out = bT ts f
  ·rw [if_pos e,if_neg (by simp [e])]
  ·rw [if_neg e,if_pos (by simp [e])]
 | y :: r,h=>by
  replace h:=List.pairwise_cons.1 h
  rw [dH,iq,Bool.false_or]
  by_cases hl : y.tag < f.tag
  ·rw [if_pos hl,if_neg (by intro h;omega),if_neg oM,show decide (f.tag ≤ y.tag) = false from decide_eq_false oM,uE h.2];rfl
  ·rw [if_neg hl,show decide (f.tag ≤ y.tag) = true from decide_eq_true oM,ri fun z hz=>by have:=h.1 z hz;omega]
   unfold nf
   have e2 : (if y.tag = f.tag then ([] : List V) else [y]) ++ r = if y.tag = f.tag then r else y :: r:=by split <;> rfl
   rw [e2]
   congr 1
   by_cases e : x.out = bT ts f
   ·rw [if_pos e,if_neg (by simp [e])]
   ·rw [if_neg e,if_pos ⟨oM,by simp [e]⟩]
theorem zx {α : Type} {tg : α → Int} {node : α} {tag : Int} : ∀ {l : List α},(∀ y ∈ l,tag < tg y) → da tg node tag l false = node :: l
 | [],_=>by simp [da]
 | y :: r,h=>by
  have h1:=h y (by simp)
  rw [da,Bool.false_or,decide_eq_true h1,kM fun z hz=>h z (by simp [hz]),if_pos ⟨h1,rfl⟩,if_neg oM];rfl
theorem uC {ts : List Ty} {f : Fld} {x : V} : ∀ {vs : List V},nL vs → da V.tag (.nd 61 [] f.tag [x]) f.tag vs (decide (x.out = bT ts f)) = dG ts f x vs
 | [],_=>by
  rw [eU,da];unfold nf
  by_cases e : x.out = bT ts f
  ·rw [if_pos e,if_pos (by simp [e])]
  ·rw [if_neg e,if_neg (by simp [e])]
 | y :: r,h=>by
  replace h:=List.pairwise_cons.1 h
  rw [dH]
  by_cases hl : y.tag < f.tag
  ·rw [if_pos hl,da,if_neg (by intro h;omega),if_neg oM,show decide (f.tag < y.tag) = false from decide_eq_false oM,Bool.or_false,uC h.2];rfl
  ·rw [if_neg hl]
   have hgt : ∀ z ∈ r,f.tag < z.tag:=fun z hz=>by have:=h.1 z hz;omega
   by_cases e : x.out = bT ts f
   ·unfold nf;rw [decide_eq_true e,if_pos e,List.nil_append,da,Bool.true_or,kM hgt,if_neg (by simp),List.nil_append]
    split <;> rfl
   ·unfold nf;rw [decide_eq_false e,if_neg e,da,Bool.false_or]
    by_cases he : y.tag = f.tag
    ·rw [if_neg (by intro h;omega),if_pos he,show decide (f.tag < y.tag) = false from decide_eq_false oM,zx hgt,if_pos he];rfl
    ·rw [if_pos ⟨oM,rfl⟩,if_neg he,show decide (f.tag < y.tag) = true from decide_eq_true oM,kM hgt,if_neg he];rfl
theorem uK {ts : List Ty} {k : adA} {t : Ty} (h : a8 ts k = some t) : ∃ k',k = 64 :: k':=by
 cases k with
 | nil=>simp [a8,b7] at h
 | cons c k' =>
  by_cases h64 : c.toNat = 64
  ·exact ⟨k',by rw [show c = 64 from UInt8.toNat_inj.1 h64]⟩
  ·exact (dc h rfl h64).elim
theorem rk {ks : List V} : (V.nd 91 [] 0 ks).out = 91 :: (aL 44 (ks.map V.out) ++ [93]):=by rw [V.out,V.outs_map];rfl
theorem sK {ks : List V} : (V.nd 82 [] 0 ks).out = 123 :: (aL 44 (ks.map V.out) ++ [125]):=by rw [V.out,V.outs_map];rfl
theorem kS {xs : List adA} {x : adA} (h : x ∈ xs) : x.length ≤ (aL 44 xs).length:=by
 induction xs with
 | nil=>cases h
 | cons y xs ih =>
  cases xs with
  | nil =>
   simp only [List.mem_singleton] at h;subst h;simp [aL]
  | cons z xs =>
   rw [aL,List.length_append,List.length_cons]
   rcases List.mem_cons.1 h with rfl | h
   ·omega
   ·have:=ih h;omega
variable {ts : List Ty}
theorem io (hw : SchW ts) {k : adA} {v : V} (h : OfK ts k v) (hk : aB ts k = true) {n : Int} (hn : 0 ≤ n) {k' : adA} {v' : V} (e : aE ts k v n = some (k',v')) (hd : v.deep ≤ 12) (hl : v.out.length ≤ 400) : v'.deep ≤ 12 ∧ v'.out.length ≤ 400:=by
 obtain ⟨c,r,rfl⟩:=d7 hk
 unfold aE at e
 dsimp only at e
 split at e
 ·rename_i hc
  split at e
  ·rename_i hlt
   simp only [Option.some.injEq,Prod.mk.injEq] at e
   obtain ⟨rfl,rfl⟩:=e
   rcases dg h oM with ⟨g1,_⟩ | ⟨g1,_⟩ | ⟨g1,_⟩ | ⟨g1,ks,g2,g3,rfl⟩ | ⟨g1,rfl | ⟨u,g3,rfl⟩⟩
   ·omega
   ·omega
   ·omega
   ·rw [V.kids] at hlt ⊢
    have hi : n.toNat < ks.length:=oM
    rw [d8 dC] at hd
    rw [rk] at hl
    have h1:=V.deep_mem (bc hi)
    have h2:=kS (xs:=ks.map V.out) (List.mem_map_of_mem (f:=V.out) (bc hi))
    simp only [List.length_cons,List.length_append,List.length_nil] at hl
    exact ⟨oM,oM⟩
   ·simp [V.kids] at hlt;omega
   ·simp [V.kids] at hlt
    obtain rfl : n = 0:=oM
    rw [d8 dC] at hd
    have e1 : V.out (.nd 63 [] 0 [u]) = 43 :: u.out:=by rw [V.out];simp [V.outs,aL,cW]
    rw [e1,List.length_cons] at hl
    have h1:=V.deep_mem (ks:=[u]) (v:=u) (by simp)
    exact ⟨by show u.deep ≤ 12;omega,by show u.out.length ≤ 400;omega⟩
  ·cases e
 ·split at e
  ·cases e
  ·rename_i t hr
   have ht:=br hr
   split at e
   ·cases e
   ·rename_i f hf
    have hfm:=List.mem_of_find?_eq_some hf
    split at e
    ·cases e
    ·rename_i h69
     split at e
     ·rename_i h82
      simp only [Option.some.injEq,Prod.mk.injEq] at e
      obtain ⟨rfl,rfl⟩:=e
      rcases bL h hr with ⟨_,fs,rfl,g3,g4,_,_⟩ | ⟨g1,_⟩ | ⟨g1,_⟩
      ·unfold dP
       rw [V.kids]
       cases hto : cq f (fs.map aw) with
       | none =>
        obtain ⟨a1,a2,a3⟩:=fh hw ht h69 hfm
        unfold ce at a2
        split at a2
        ·rename_i hl4
         split at a2
         ·rename_i v' hv'
          have:=jw _ _ _ _ hv'
          simp only [Option.some.injEq] at a2
          subst a2
          exact ⟨this,by show (dZ ts f).out.length ≤ 400;rw [a3];exact hl4⟩
         ·cases a2
        ·cases a2
       | some u =>
        obtain ⟨_,p,hp,_,rfl⟩:=gU (hw.ty t ht) hfm (fun p hp=>⟨g3 p hp,g4 p hp⟩) hto
        rw [d8 dC] at hd
        rw [sK] at hl
        have h1:=V.deep_mem (List.mem_map_of_mem (f:=aw) hp)
        rw [show (aw p).deep = p.2.deep from kC] at h1
        have h2:=kS (xs:=(fs.map aw).map V.out) (List.mem_map_of_mem (f:=V.out) (List.mem_map_of_mem (f:=aw) hp))
        rw [show (aw p).out = bI p.1.tag ++ 61 :: p.2.out from gc] at h2
        simp only [List.length_cons,List.length_append,List.length_nil] at hl h2
        exact ⟨by show p.2.deep ≤ 12;omega,by show p.2.out.length ≤ 400;omega⟩
      ·omega
      ·omega
     ·rename_i h82
      split at e
      ·simp only [Option.some.injEq,Prod.mk.injEq] at e
       obtain ⟨rfl,rfl⟩:=e
       rcases bL h hr with ⟨h1,_⟩ | ⟨h1,_⟩ | ⟨_,_,d,u,rfl,g4,g5⟩
       ·omega
       ·omega
       ·rw [d8 dC] at hd
        have e1 : V.out (.nd 85 [] d.tag [u]) = 60 :: (bI d.tag ++ 61 :: (u.out ++ [62])):=by rw [V.out];simp [V.outs,aL,cW]
        rw [e1] at hl
        have h1:=V.deep_mem (ks:=[u]) (v:=u) (by simp)
        simp only [List.length_cons,List.length_append,List.length_nil] at hl
        exact ⟨by show u.deep ≤ 12;omega,by show u.out.length ≤ 400;omega⟩
      ·cases e
theorem kB (hw : SchW ts) : ∀ {p : List Int} {k : adA} {v : V} {k' : adA} {v' : V},OfK ts k v → aB ts k = true → (∀ n ∈ p,0 ≤ n) → bi ts k v p = some (k',v') → v.deep ≤ 12 → v.out.length ≤ 400 → v'.deep ≤ 12 ∧ v'.out.length ≤ 400
 | [],k,v,k',v',h,hk,_,e,hd,hl=>by
  simp only [bi,Option.some.injEq,Prod.mk.injEq] at e
  obtain ⟨rfl,rfl⟩:=e
  exact ⟨hd,hl⟩
 | n :: p,k,v,k',v',h,hk,hp,e,hd,hl=>by
  unfold bi at e
  cases hs : aE ts k v n with
  | none=>rw [hs] at e;cases e
  | some x =>
   rw [hs] at e
   obtain ⟨k1,v1⟩:=x
   obtain ⟨h1,h2⟩:=cL hw h hk (hp n (by simp)) hs
   obtain ⟨h3,h4⟩:=io hw h hk (hp n (by simp)) hs hd hl
   exact kB hw h1 h2 (fun m hm=>hp m (by simp [hm])) e h3 h4
def aR (q : List Int) : adA:=aL 47 (q.map bI)
theorem wP {n : Int} (h : 0 ≤ n) : fJ 47 (bI n):=fun c hc=>by
 have:=vR ((ib _ (Nat.le_refl _) h).2 c hc)
 omega
theorem n8 : ∀ {xs : List adA} {p : List Int},cI xs = some p → xs = p.map bI ∧ ∀ n ∈ p,0 ≤ n ∧ n ≤ 999999
 | [],p,h=>by simp only [cI,Option.some.injEq] at h;subst h;simp
 | x :: xs,p,h=>by
  unfold cI at h
  cases hn : aK x 999999 with
  | none=>rw [hn] at h;cases h
  | some n =>
   rw [hn] at h
   dsimp only at h
   cases hs : cI xs with
   | none=>rw [hs] at h;cases h
   | some q =>
    rw [hs] at h
    simp only [Option.map_some,Option.some.injEq] at h
    subst h
    obtain ⟨h1,h2⟩:=n8 hs
    refine ⟨by rw [List.map_cons,← h1,← (d6 hn).2.1],fun m hm=>?_⟩
    rcases List.mem_cons.1 hm with rfl | hm
    ·exact ⟨ma hn,(d6 hn).1⟩
    ·exact h2 m hm
theorem pw : ∀ {p : List Int},(∀ n ∈ p,0 ≤ n ∧ n ≤ 999999) → cI (p.map bI) = some p
 | [],_=>rfl
 | n :: p,h=>by
  have h1:=h n (by simp)
  rw [List.map_cons,cI,jx h1.1 h1.2 dC]
  dsimp only
  rw [pw fun m hm=>h m (by simp [hm])];rfl
theorem lf {s : adA} {q : List Int} (h : cG s = some q) : s = aR q ∧ q.length ≤ 8 ∧ (∀ n ∈ q,0 ≤ n ∧ n ≤ 999999) ∧ (s = [] ↔ q = []):=by
 unfold cG at h
 split at h
 ·rename_i hs
  simp only [Option.some.injEq] at h;subst h
  exact ⟨by rw [hs];rfl,by simp,by simp,by simp [hs]⟩
 ·rename_i hs
  split at h
  ·rename_i q' hq
   split at h
   ·rename_i h8
    simp only [Option.some.injEq] at h;subst h
    obtain ⟨h1,h2⟩:=n8 hq
    have h3:=mr 47 s
    have h4 : (47 : UInt8).toNat = 47:=rfl
    rw [h4,h1] at h3
    refine ⟨h3.symm,h8,h2,fun h=>absurd h hs,fun h=>?_⟩
    rw [h] at h3
    exact h3.symm
   ·cases h
  ·cases h
theorem ou {q : List Int} (h : q ≠ []) : aR q ≠ []:=by
 cases q with
 | nil=>exact absurd rfl h
 | cons n q =>
  have:=gy n
  unfold aR
  intro e
  have e2:=congrArg List.length e
  cases q with
  | nil=>simp [aL] at e2;rw [e2] at this;simp at this
  | cons m q=>simp [aL] at e2
theorem nh {q : List Int} (h : ∀ n ∈ q,0 ≤ n ∧ n ≤ 999999) : cG (aR q) = if q.length ≤ 8 then some q else none:=by
 by_cases hq : q = []
 ·subst hq;rfl
 ·unfold cG
  rw [if_neg (ou hq)]
  have h1 : aZ 47 (aR q) = q.map bI:=mf (c:=47) (by simpa using hq) fun x hx=>by
   obtain ⟨n,hn,rfl⟩:=List.mem_map.1 hx
   exact wP (h n hn).1
  rw [h1,pw h]
theorem gR {n : Int} {q : List Int} (h : q ≠ []) : aR (n :: q) = bI n ++ 47 :: aR q:=by
 cases q with
 | nil=>exact absurd rfl h
 | cons m q=>rfl
theorem nb : ∀ {p q : List Int},p ≠ [] → q ≠ [] → aR (p ++ q) = aR p ++ 47 :: aR q
 | [],_,h,_=>absurd rfl h
 | [n],q,_,hq=>by rw [List.singleton_append,gR hq];rfl
 | n :: m :: p,q,_,hq=>by
  rw [List.cons_append,gR (n:=n) (q:=m :: p ++ q) (by simp),nb (p:=m :: p) (by simp) hq,gR (n:=n) (q:=m :: p) (by simp)]
  simp
def eJ (w : Nat) (t : Int) (i : Nat) (v : V) : Int:=if w = 85 then t else if w = 82 then v.tag else (i : Int)
mutual
def V.leaves : V → List (List Int)
 | .nd w _ t ks=>if cX w ks.isEmpty = true then [[]] else if w = 61 then V.leavesF ks else V.leavesS ks w t 0
def V.leavesF : List V → List (List Int)
 | []=>[]
 | v :: r=>V.leaves v ++ V.leavesF r
def V.leavesS : List V → Nat → Int → Nat → List (List Int)
 | [],_,_,_=>[]
 | v :: r,w,t,i=>(V.leaves v).map (eJ w t i v :: ·) ++ V.leavesS r w t (i + 1)
end
mutual
theorem iY : ∀ v : V,v.size = v.leaves.length
 | .nd w x t ks=>by
  rw [V.size,V.leaves]
  split
  ·rfl
  ·split
   ·exact mZ ks
   ·exact kl ks w t 0
theorem mZ : ∀ ks : List V,V.sizes ks = (V.leavesF ks).length
 | []=>by rw [V.sizes,V.leavesF];rfl
 | v :: r=>by rw [V.sizes,V.leavesF,List.length_append,iY v,mZ r]
theorem kl : ∀ (ks : List V) (w : Nat) (t : Int) (i : Nat),V.sizes ks = (V.leavesS ks w t i).length
 | [],_,_,_=>by rw [V.sizes,V.leavesS];rfl
 | v :: r,w,t,i=>by rw [V.sizes,V.leavesS,List.length_append,List.length_map,iY v,kl r w t (i + 1)]
end
theorem ge : ∀ {ks : List V} {w : Nat} {t : Int} {i : Nat} {p : List Int},p ∈ V.leavesS ks w t i → ∃ j q,j < ks.length ∧ p = eJ w t (i + j) (ab ks j) :: q ∧ q ∈ (ab ks j).leaves
 | [],_,_,_,_,h=>by rw [V.leavesS] at h;cases h
 | v :: r,w,t,i,p,h=>by
  rw [V.leavesS] at h
  rcases List.mem_append.1 h with h | h
  ·obtain ⟨q,hq,rfl⟩:=List.mem_map.1 h
   exact ⟨0,q,by simp,rfl,hq⟩
  ·obtain ⟨j,q,h1,h2,h3⟩:=ge h
   exact ⟨j + 1,q,by simp;omega,by rw [h2,show i + 1 + j = i + (j + 1) by omega];rfl,h3⟩
theorem xS {p : Fld × V} : (aw p).leaves = p.2.leaves:=by
 show V.leaves (.nd 61 [] p.1.tag [p.2]) = _
 rw [V.leaves,if_neg (by simp [cX]),if_pos rfl,V.leavesF,V.leavesF,List.append_nil]
theorem sT {b : Bool} : cX 82 b = false:=by cases b <;> rfl
theorem sR {b : Bool} : cX 91 b = false:=by cases b <;> rfl
theorem sS {b : Bool} : cX 85 b = false:=by cases b <;> rfl
theorem mO {t : Ty} (hw : TyW t) : ∀ {fs : List (Fld × V)},(∀ p ∈ fs,p.1 ∈ t.fields) → (fs.Pairwise fun a b=>a.1.tag < b.1.tag) → ∀ {p : Fld × V},p ∈ fs → cq p.1 (fs.map aw) = some p.2
 | q :: fs,hf,hs,p,hp=>by
  rw [List.pairwise_cons] at hs
  rw [List.map_cons,cq]
  rcases List.mem_cons.1 hp with rfl | hp
  ·rw [if_pos (show (aw p).tag = p.1.tag from rfl)];rfl
  ·have:=hs.1 p hp
   rw [if_neg (show ¬ (aw q).tag = p.1.tag by show ¬ q.1.tag = p.1.tag;omega)]
   exact mO hw (fun r hr=>hf r (by simp [hr])) hs.2 hp
theorem rp (hw : SchW ts) {k : adA} {v : V} (h : OfK ts k v) : ∀ p ∈ v.leaves,(∀ n ∈ p,0 ≤ n ∧ n ≤ 999999) ∧ ∃ k' u,bi ts k v p = some (k',u) ∧ u.size = 1:=by
 have one : ∀ (k : adA) (w : Nat) (x : adA) (t : Int),cX w true = true → ∀ p ∈ (V.nd w x t []).leaves,(∀ n ∈ p,0 ≤ n ∧ n ≤ 999999) ∧ ∃ k' u,bi ts k (.nd w x t []) p = some (k',u) ∧ u.size = 1:=fun k w x t hl p hp=>by
  rw [V.leaves,if_pos (by simpa using hl)] at hp
  simp only [List.mem_singleton] at hp
  subst hp
  exact ⟨by simp,k,_,rfl,by rw [V.size,if_pos (by simpa using hl)]⟩
 induction h with
 | num k n h1 h2=>exact one _ _ _ _ rfl
 | txt k x h1=>exact one _ _ _ _ rfl
 | flg k x h1=>exact one _ _ _ _ rfl
 | lst k ks h1 h2 ih =>
  intro p hp
  rw [V.leaves,if_neg (by rw [sR];decide),if_neg dC] at hp
  obtain ⟨j,q,h3,rfl,h4⟩:=ge hp
  obtain ⟨g1,k',u,g2,g3⟩:=ih _ (bc h3) q h4
  have e1 : eJ 91 0 (0 + j) (ab ks j) = (j : Int):=by unfold eJ;rw [if_neg dC,if_neg dC];simp
  rw [e1]
  refine ⟨fun n hn=>?_,k',u,?_,g3⟩
  ·rcases List.mem_cons.1 hn with rfl | hn
   ·omega
   ·exact g1 n hn
  ·have hs : aE ts (91 :: k) (.nd 91 [] 0 ks) (j : Int) = some (k,ab ks j):=by
    unfold aE;dsimp only
    rw [if_pos (.inl rfl),V.kids,if_pos oM,Int.toNat_natCast]
   rw [fN hs,g2]
 | non k=>exact one _ _ _ _ rfl
 | opt k v h1 ih =>
  intro p hp
  rw [V.leaves,if_neg (by simp [cX]),if_neg dC] at hp
  obtain ⟨j,q,h3,rfl,h4⟩:=ge hp
  obtain rfl : j = 0:=by simp at h3;omega
  obtain ⟨g1,k',u,g2,g3⟩:=ih q h4
  have e1 : eJ 63 0 (0 + 0) (ab [v] 0) = 0:=by unfold eJ;rw [if_neg dC,if_neg dC];simp
  rw [e1]
  refine ⟨fun n hn=>?_,k',u,?_,g3⟩
  ·rcases List.mem_cons.1 hn with rfl | hn
   ·omega
   ·exact g1 n hn
  ·have hs : aE ts (63 :: k) (.nd 63 [] 0 [v]) 0 = some (k,v):=by
    unfold aE;dsimp only
    rw [if_pos (.inr rfl),V.kids,if_pos (by simp)];rfl
   rw [fN hs,g2]
 | recd k t fs h1 h2 h3 h4 h5 h6 ih =>
  intro p hp
  rw [V.leaves,if_neg (by rw [sT];decide),if_neg dC] at hp
  obtain ⟨j,q,h7,rfl,h8⟩:=ge hp
  have hW:=hw.ty t (br h1)
  have hj : j < fs.length:=by simpa using h7
  have e0 : ab (fs.map aw) j = aw (ab fs j):=by rw [aA h7,aA hj];simp
  rw [e0,xS] at h8
  have hm:=bc hj
  obtain ⟨g1,k',u,g2,g3⟩:=ih _ hm q h8
  have ht:=(hW.fld _ (h3 _ hm)).tag
  have e1 : eJ 82 0 (0 + j) (ab (fs.map aw) j) = (ab fs j).1.tag:=by rw [e0];unfold eJ;rw [if_neg dC,if_pos rfl];rfl
  rw [e1]
  refine ⟨fun n hn=>?_,k',u,?_,g3⟩
  ·rcases List.mem_cons.1 hn with rfl | hn
   ·omega
   ·exact g1 n hn
  ·obtain ⟨r,rfl⟩:=uK h1
   have hs : aE ts (64 :: r) (.nd 82 [] 0 (fs.map aw)) (ab fs j).1.tag = some ((ab fs j).1.kind,(ab fs j).2):=by
    unfold aE;dsimp only
    rw [if_neg dC,h1]
    dsimp only
    rw [gx hW (h3 _ hm)]
    dsimp only
    rw [if_neg oM,if_pos h2]
    unfold dP
    rw [V.kids,mO hW h3 h6 hm];rfl
   rw [fN hs,g2]
 | enm k t d h1 h2 h3=>exact one _ _ _ _ rfl
 | uni k t d v h1 h2 h3 h4 h5 ih =>
  intro p hp
  rw [V.leaves,if_neg (by rw [sS];decide),if_neg dC] at hp
  obtain ⟨j,q,h7,rfl,h8⟩:=ge hp
  obtain rfl : j = 0:=by simp at h7;omega
  obtain ⟨g1,k',u,g2,g3⟩:=ih q h8
  have hW:=hw.ty t (br h1)
  have ht:=(hW.fld _ h4).tag
  have e1 : eJ 85 d.tag (0 + 0) (ab [v] 0) = d.tag:=by unfold eJ;rw [if_pos rfl]
  rw [e1]
  refine ⟨fun n hn=>?_,k',u,?_,g3⟩
  ·rcases List.mem_cons.1 hn with rfl | hn
   ·omega
   ·exact g1 n hn
  ·obtain ⟨r,rfl⟩:=uK h1
   have hs : aE ts (64 :: r) (.nd 85 [] d.tag [v]) d.tag = some (d.kind,v):=by
    unfold aE;dsimp only
    rw [if_neg dC,h1]
    dsimp only
    rw [gx hW h4]
    dsimp only
    rw [if_neg h3,if_neg h2,V.tag,if_pos rfl];rfl
   rw [fN hs,g2]
end Go.E
