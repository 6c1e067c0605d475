/- Contracts and plain laws that the statement rests on, part 4. Conditions: as each says. -/
import Derived.Test.YtglhncibfmhblaaGreatDoorZ3
set_option linter.unusedVariables false
set_option linter.unusedSimpArgs false
namespace Go.E
set_option maxRecDepth 20000
set_option maxHeartbeats 2000000
open Go.Proofs
variable {G : Gh}
abbrev di : TypeId:=61
abbrev abk : TypeId:=9
theorem bK {w : Nat} {x : ael} {t : Int} {ks : List V} : V.tot (.nd w x t ks) = 20 + x.length + V.tots ks:=by rw [V.tot]
theorem ew : ∀ (n : Nat) {v : V} {c : VC},v.tot ≤ n → v.tot ≤ 1000000 → V.rep G v c → a7 aek 48 [Ag (be c)] G (· = S v.out):=by
 intro n
 induction n with
 | zero=>intro v c h1 _ _;have:=iT v;omega
 | succ n ih =>
  intro v c h1 h2 h
  obtain ⟨w,x,t,ks⟩:=v
  rw [bK] at h1 h2
  obtain ⟨a,k,cs,rfl,hw,ht,h61,hcl,hsl,hks⟩:=cU h
  have hkl:=dq ks
  have hol:=kA ks
  have hjl:=oY hks
  have hj2:=gE 44 (V.outs ks)
  rw [hol] at hj2
  simp only [be,VC.sl]
  refine jB (Post:=fun v G' L'=>G' = G ∧ L' = [] ∧ _) [(0,_)] Tryz.func48 Tryz.ntmps48 fun B hok hB hW=>?_
  repeat' (first | refine jR ?_ | (refine jo ?_;first | refine jO fun _=>?_ | refine aC F ?_ | refine jV (af F) ?_))
  rename_i bv
  refine Nx.addNil abk 1 ?_
  refine aW (ι:=Nat × Value) (fun q=>q.1 ≤ ks.length) (fun q=>[(1,Pt bv 0),(2,S []),(3,q.2),(8,.slice a ks.length k),(9,I ks.length),(10,I q.1)]) (fun _=>G) (fun q=>[.acc q.2 abk 1 q.1 (ag dc ((V.outs ks).take q.1)),.blk bv (.cells (List.toArray [U8 w,S x,I t,.slice a ks.length k]) di (0,0))]) (fun q=>ks.length - q.1) (0,aK) ?_ tU F bc (fun q Hq=>?_)
  ·exact Nat.zero_le _
  obtain ⟨i,pv⟩:=q
  dsimp only at Hq ⊢
  by_cases hi : i < ks.length
  ·have hti:=ke hi
   have cx_pr:=ih oM oM (fZ hks i hi)
   obtain ⟨bf,of,cf,e,hs⟩:=hsl.expl oM
   simp only [Value.slice.injEq] at e
   obtain ⟨rfl,-,rfl⟩:=e
   repeat' (first | refine jM ?_ | (refine jo ?_;first | (refine jV (dJ F F aS ?_) ?_;focus omega) | refine bO F ?_ | refine jV (ak F F oM) ?_ | refine jL fun _=>?_ | refine jC F F F ?_ | refine jF fun _=>?_ | refine bG F F F F F F F F F oM fun _ _=>?_ | refine ae F F F cx_pr F ?_) | refine ac F (aA oM) ?_)
   have e2 : ag dc ((V.outs ks).take i) ++ [S (ab ks i).out] = ag dc ((V.outs ks).take (i + 1)):=by rw [dO oM,bX,l6 hi];rfl
   rw [e2]
   exact br (i + 1,_) (by dsimp only;omega) (by dsimp only;omega) tU rfl sB
  ·have hin : i = ks.length:=oM
   subst hin
   refine Nx.sealA .here fun G1 hG1 hsP=>?_
   rw [← hol,List.take_length] at hsP
   have cx_join:=xZ (c:=44) hsP oM
   have hd:=gT ht.2
   have hE : ks.isEmpty = decide (ks.length = 0):=by cases ks <;> simp
   repeat' (first | refine jX ?_ | (refine jo ?_;first | refine aC F ?_ | refine jV (af F) ?_ | refine ae F F F cx_join F ?_ | refine ae F F F (iK oM) F ?_) | refine ad F (aH oM) ?_ | refine eG F (fun _=>?_) (fun _=>?_))
   all_goals refine Nx.base hok hB ?_
   all_goals refine jY (vs:=[_]) ?_
   all_goals (rw [aM,V.out,hE];unfold c7;simp only [decide_eq_true_eq];repeat (first | rw [if_pos oM] | rw [if_neg oM]))
   all_goals (first | rfl | (simp;done))
theorem xy {x : ael} {t : Int} {u : V} : V.deep (.nd 61 x t [u]) = u.deep:=by rw [V.deep,if_pos rfl,V.deeps,V.deeps,Nat.max_zero]
theorem qk (v : V) : ∀ (ks : List V),V.deeps (ks ++ [v]) = max (V.deeps ks) v.deep
 | []=>by simp [V.deeps]
 | u :: r=>by simp only [List.cons_append,V.deeps,qk v r];omega
mutual
theorem ph : ∀ v : V,v.deep ≤ v.tot
 | .nd w x t ks=>by
  have:=nF ks
  rw [V.deep,V.tot];split <;> omega
theorem nF : ∀ ks : List V,V.deeps ks ≤ V.tots ks
 | []=>by simp [V.deeps]
 | v :: r=>by
  have:=ph v
  have:=nF r
  rw [V.deeps,V.tots];omega
end
theorem xS : ∀ (n : Nat) {v : V} {c : VC},v.tot ≤ n → v.tot ≤ 1000000 → V.rep G v c → a7 aek 108 [Ag (be c)] G (· = I (v.deep : Nat)):=by
 intro n
 induction n with
 | zero=>intro v c h1 _ _;have:=iT v;omega
 | succ n ih =>
  intro v c h1 h2 h
  obtain ⟨w,x,t,ks⟩:=v
  rw [bK] at h1 h2
  obtain ⟨a,k,cs,rfl,hw,ht,h61,hcl,hsl,hks⟩:=cU h
  have hkl:=dq ks
  simp only [be,VC.sl]
  by_cases hq : w = 61
  ·have hk1:=h61 hq
   have hti:=ke (ks:=ks) (i:=0) oM
   have cx_dp:=ih oM oM (fZ hks 0 oM)
   obtain ⟨bf,of,cf,e,hs⟩:=hsl.expl oM
   simp only [Value.slice.injEq] at e
   obtain ⟨rfl,-,rfl⟩:=e
   refine jE [(0,_)] Tryz.func108 Tryz.ntmps108 fun B hB=>?_
   repeat' (first | refine jR ?_ | (refine jo ?_;first | refine jO fun _=>?_ | refine aC F ?_ | (refine jV (dJ F F aS ?_) ?_;focus omega) | refine jV (aT F F oM) ?_ | refine ae F F F cx_dp F ?_) | refine ac F (aA oM) ?_)
   refine jY (vs:=[_]) ?_
   rw [aM]
   obtain ⟨u,rfl⟩:=List.length_eq_one_iff.1 hk1
   subst hq
   rw [xy];rfl
  ·rw [eo hq]
   refine jE [(0,_)] Tryz.func108 Tryz.ntmps108 fun B hB=>?_
   repeat' (first | refine jR ?_ | (refine jo ?_;first | refine jO fun _=>?_ | refine aC F ?_ | refine jV (af F) ?_) | refine ad F (aH oM) ?_)
   rename_i bv
   refine Nx.re (d:=3) (v':=I (V.deeps (ks.take 0) : Nat)) F F ?_
   refine aW (ι:=Nat) (fun i=>i ≤ ks.length) (fun i=>[(3,I (V.deeps (ks.take i) : Nat)),(15,.slice a ks.length k),(16,I ks.length),(17,I i)]) (fun _=>G) (fun i=>[]) (fun i=>ks.length - i) 0 ?_ tU F (by repeat (exact List.nil_sublist _)) (fun i Hi=>?_)
   ·exact Nat.zero_le _
   by_cases hi : i < ks.length
   ·have hti:=ke hi
    have cx_dp:=ih oM oM (fZ hks i hi)
    obtain ⟨bf,of,cf,e,hs⟩:=hsl.expl oM
    simp only [Value.slice.injEq] at e
    obtain ⟨rfl,-,rfl⟩:=e
    repeat' (first | refine jM ?_ | (refine jo ?_;first | (refine jV (dJ F F aS ?_) ?_;focus omega) | refine bO F ?_ | refine jV (ak F F oM) ?_ | refine jL fun _=>?_ | refine jC F F F ?_ | refine jV (adc F F) ?_ | refine ae F F F cx_dp F ?_) | refine ac F (aA oM) ?_)
    refine Nx.re (d:=3) (v':=I (V.deeps (ks.take (i + 1)) : Nat)) F (congrArg (Value.int .i64) (by rw [dO hi,qk];omega)) ?_
    exact br (i + 1) oM oM tU F (by repeat (exact List.nil_sublist _))
   ·have hin : i = ks.length:=oM
    subst hin
    rw [List.take_length]
    have hdt:=nF ks
    repeat' (first | refine jM ?_ | refine ad F (aH oM) ?_)
    refine jY (vs:=[_]) ?_
    rw [aM];congr 1
abbrev ad0 : TypeId:=170
theorem uB {s p : ael} (hs : s.length ≤ 1000000 ∧ p.length ≤ 1000000) : a7 aek 184 [S s,S p] G (· = Tu [S (if p.isPrefixOf s = true then s.drop p.length else s),Bo (p.isPrefixOf s)]):=by
 have cx_hp : a7 aek 122 [S s,S p] G (· = Bo (p.isPrefixOf s)):=iN
 cases hp : p.isPrefixOf s with
 | false =>
  rw [hp] at cx_hp
  refine jE [(0,_),(1,_)] Tryz.func184 Tryz.ntmps184 fun B hB=>?_
  repeat' (first | refine jR ?_ | (refine jo ?_;refine ae F F F iN F ?_) | (refine ac F ?_ ?_;(focus ((simp [*];done);done))))
  refine jY (vs:=[_,_]) ?_
  rfl
 | true =>
  rw [hp] at cx_hp
  have hl : p.length ≤ s.length:=by
   have:=List.isPrefixOf_iff_prefix.1 hp
   exact this.length_le
  refine jE [(0,_),(1,_)] Tryz.func184 Tryz.ntmps184 fun B hB=>?_
  repeat' (first | refine jM ?_ | (refine jo ?_;refine ae F F F iN F ?_) | (refine ad F ?_ ?_;(focus ((simp [*];done);done))))
  refine jY (vs:=[_,_]) ?_
  rfl
theorem uT {s p : ael} (hs : s.length ≤ 1000000 ∧ p.length ≤ 1000000) : a7 aek 170 [S s,S p] G (· = Tu [S (if p.isPrefixOf s = true then s.drop p.length else s),Bo (p.isPrefixOf s)]):=by
 have cx_cp:=uB (G:=G) hs
 refine jE [(0,_),(1,_)] Tryz.func170 Tryz.ntmps170 fun B hB=>?_
 repeat' (first | refine jR ?_ | (refine jo ?_;refine ae F F F cx_cp F ?_))
 refine jY (vs:=[_,_]) ?_
 rfl
def dl (l s : ael) (b : Bool) : Bool:=!b && l.isPrefixOf s
def eK (l s : ael) (b : Bool) : ael:=if dl l s b = true then s.drop l.length else s
abbrev eQ (r sc : Nat) (s : ael) (b : Bool) : Own:=.blk r (.cells (List.toArray [Pt sc 0,S s,Bo b]) ad0 (0,0))
theorem iJ {r sc : Nat} {s l : ael} {b : Bool} (hs : s.length ≤ 1000000 ∧ l.length ≤ 1000000) : d9 aek 145 [Pt r 0,S l] G [eQ r sc s b] (fun v L'=>v = Bo (dl l s b) ∧ L' = [eQ r sc (eK l s b) b]):=by
 have cx_cp:=uT (G:=G) hs
 unfold eK dl
 cases hp : l.isPrefixOf s with
 | false =>
  rw [hp] at cx_cp
  refine jH [(0,_),(1,_)] Tryz.func145 Tryz.ntmps145 fun B hB hW=>?_
  repeat' (first | refine jR ?_ | (refine jo ?_;first | refine aC F ?_ | refine aE F ?_ | refine ae F F F cx_cp F ?_) | refine aw F F F ?_ | refine ad F F ?_)
  exact aX (vs:=[_]) F ⟨F,trivial⟩ F (List.Sublist.refl _) ⟨F,by cases b <;> rfl,by cases b <;> rfl⟩
 | true =>
  rw [hp] at cx_cp
  cases b with
  | true =>
   refine jH [(0,_),(1,_)] Tryz.func145 Tryz.ntmps145 fun B hB hW=>?_
   repeat' (first | refine jR ?_ | (refine jo ?_;first | refine aC F ?_ | refine aP F ?_ | refine ae F F F cx_cp F ?_) | refine aF F F F ?_ | refine ad F F ?_)
   exact aX (vs:=[_]) F ⟨F,trivial⟩ F (List.Sublist.refl _) ⟨F,F,F⟩
  | false =>
   refine jH [(0,_),(1,_)] Tryz.func145 Tryz.ntmps145 fun B hB hW=>?_
   repeat' (first | refine jR ?_ | (refine jo ?_;first | refine aC F ?_ | refine aP F ?_ | refine jD F F F ?_ | refine ae F F F cx_cp F ?_) | refine aF F F F ?_ | refine ac F F ?_)
   exact aX (vs:=[_]) F ⟨F,trivial⟩ F (List.Sublist.refl _) ⟨F,F,F⟩
theorem d7 {r sc : Nat} {s l : ael} {b : Bool} (hs : s.length ≤ 1000000 ∧ l.length ≤ 1000000) : d9 aek 146 [Pt r 0,S l] G [eQ r sc s b] (fun v L'=>L' = [eQ r sc (eK l s b) (!dl l s b)]):=by
 have cx_tk:=iJ (G:=G) (r:=r) (sc:=sc) (b:=b) hs
 cases ht : dl l s b with
 | false =>
  rw [ht] at cx_tk
  refine jH [(0,_),(1,_)] Tryz.func146 Tryz.ntmps146 fun B hB hW=>?_
  repeat' (first | refine jR ?_ | (refine jo ?_;first | refine jD F F F ?_ | (refine aL F F F cx_tk F ?_;rintro _ _ ⟨rfl,rfl⟩;dsimp only [zA,fA])) | refine ac F F ?_)
  exact kC (vs:=[]) F trivial F (List.Sublist.refl _) ⟨F,F⟩
 | true =>
  have hb : b = false:=by unfold dl at ht;cases b <;> simp_all
  subst hb
  rw [ht] at cx_tk
  refine jH [(0,_),(1,_)] Tryz.func146 Tryz.ntmps146 fun B hB hW=>?_
  repeat' (first | refine jR ?_ | (refine jo ?_;(refine aL F F F cx_tk F ?_;rintro _ _ ⟨rfl,rfl⟩;dsimp only [zA,fA])) | refine ad F F ?_)
  exact kC (vs:=[]) F trivial F (List.Sublist.refl _) ⟨F,F⟩
theorem lP {p : Nat → Bool} {q : UInt8 → Bool} (h : ∀ c : UInt8,p c.toNat = q c) : ∀ s : ael,dU p s = s.dropWhile q
 | []=>rfl
 | c :: r=>by
  rw [dU,h c,List.dropWhile_cons]
  cases q c with
  | true=>simp only [if_true];exact lP h r
  | false=>simp
theorem acb : ∀ c : UInt8,fV [48,49,50,51,52,53,54,55,56,57] c.toNat = bn c:=by
 intro c
 have : ∀ n : Nat,n < 256 → fV [48,49,50,51,52,53,54,55,56,57] n = decide (48 ≤ n ∧ n ≤ 57):=by decide +kernel
 exact this _ c.toNat_lt
def txB : ael:=[97,98,99,100,101,102,103,104,105,106,107,108,109,110,111,112,113,114,115,116,117,118,119,120,121,122,48,49,50,51,52,53,54,55,56,57,32]
def du (c : UInt8) : Bool:=decide (jP c.toNat)
theorem abi : ∀ c : UInt8,fV txB c.toNat = du c:=by
 intro c
 have : ∀ n : Nat,n < 256 → fV txB n = decide (jP n):=by decide +kernel
 exact this _ c.toNat_lt
theorem kP (q : UInt8 → Bool) (s : ael) : s.take (s.length - (s.dropWhile q).length) = s.takeWhile q:=by
 have h:=List.takeWhile_append_dropWhile (p:=q) (l:=s)
 have hl : (s.takeWhile q).length + (s.dropWhile q).length = s.length:=by
  have:=congrArg List.length h
  rwa [List.length_append] at this
 have e : s.length - (s.dropWhile q).length = (s.takeWhile q).length:=oM
 rw [e]
 have h2 : (s.takeWhile q ++ s.dropWhile q).take (s.takeWhile q).length = s.takeWhile q:=List.take_left
 rwa [h] at h2
theorem eJ (q : UInt8 → Bool) (s : ael) : (s.takeWhile q).length + (s.dropWhile q).length = s.length:=by
 have h:=List.takeWhile_append_dropWhile (p:=q) (l:=s)
 have:=congrArg List.length h
 rwa [List.length_append] at this
theorem qM (x : ael) : ec (39 :: (x ++ [39])) = true ↔ x.length ≤ 12 ∧ ∀ c ∈ x,du c = true:=by
 unfold ec
 rw [decide_eq_true_eq]
 unfold TxP
 have e0 : bt (39 :: (x ++ [39])) 0 = 39:=bH _ _
 have e1 : (39 :: (x ++ [39]) : ael).length = x.length + 2:=by simp
 have e2 : bt (39 :: (x ++ [39])) (x.length + 1) = 39:=by
  rw [eS];simp [bt]
 have e3 : ∀ i,i < x.length → bt (39 :: (x ++ [39])) (i + 1) = bt x i:=fun i hi=>by
  rw [eS];simp [bt,List.getD,List.getElem?_append_left hi]
 rw [e1,show x.length + 2 - 1 = x.length + 1 by omega]
 constructor
 ·rintro ⟨⟨_,h1⟩,_,_,h2⟩
  refine ⟨oM,fun c hc=>?_⟩
  obtain ⟨i,hi,rfl⟩:=List.mem_iff_getElem.1 hc
  have:=h2 (i + 1) oM
  rw [e3 i hi] at this
  have h3 : bt x i = (x[i]).toNat:=by simp [bt,List.getD,List.getElem?_eq_getElem hi]
  rw [h3] at this
  unfold du
  rw [decide_eq_true_eq]
  rcases this with h | h
  ·omega
  ·exact h
 ·rintro ⟨h1,h2⟩
  refine ⟨⟨oM,oM⟩,e0,e2,fun i hi=>?_⟩
  cases i with
  | zero=>exact .inl F
  | succ i =>
   have hi' : i < x.length:=oM
   rw [e3 i hi']
   have h3 : bt x i = (x[i]).toNat:=by simp [bt,List.getD,List.getElem?_eq_getElem hi']
   rw [h3]
   have:=h2 _ (List.getElem_mem hi')
   unfold du at this
   rw [decide_eq_true_eq] at this
   exact .inr this
theorem abD {c : UInt8} (h : c.toNat = 39) : du c = false:=by
 have : c = 39:=UInt8.toNat_inj.1 h
 subst this;decide
theorem w9 (s : ael) : dS s = match s with
  | []=>none
  | c :: r=>if c.toNat = 39 then (match r.dropWhile du with
   | []=>none
   | d :: t=>if d.toNat = 39 ∧ (r.takeWhile du).length ≤ 12 then some (.nd 116 (r.takeWhile du) 0 [],t) else none) else none:=by
 cases s with
 | nil=>rfl
 | cons c r =>
  unfold dS
  dsimp only
  by_cases hc : c.toNat = 39
  ·rw [if_pos hc,if_pos hc]
   have hcut : ∀ r : ael,aG 39 r = match r.dropWhile du with
    | []=>(r,[],false)
    | d :: t=>if d.toNat = 39 then (r.takeWhile du,t,true) else (r.takeWhile du ++ (aG 39 (d :: t)).1,(aG 39 (d :: t)).2):=by
    intro r
    induction r with
    | nil=>rfl
    | cons x r ih =>
     rw [List.dropWhile_cons,List.takeWhile_cons]
     by_cases hx : du x = true
     ·rw [if_pos hx,if_pos hx]
      have h39 : ¬ x.toNat = 39:=fun h=>by rw [abD h] at hx;cases hx
      rw [aG,if_neg h39,ih]
      cases hd : r.dropWhile du with
      | nil=>rfl
      | cons d t =>
       dsimp only
       split
       ·rfl
       ·rfl
     ·rw [if_neg hx,if_neg hx]
      dsimp only
      split
      ·rename_i h39;rw [aG,if_pos h39]
      ·simp
   rw [hcut]
   cases hd : r.dropWhile du with
   | nil=>rfl
   | cons d t =>
    dsimp only
    by_cases h39 : d.toNat = 39
    ·rw [if_pos h39]
     dsimp only
     by_cases h12 : (r.takeWhile du).length ≤ 12
     ·rw [if_pos ((qM _).2 ⟨h12,fun c hc=>List.all_eq_true.1 (List.all_takeWhile (l:=r) (p:=du)) c hc⟩),if_pos ⟨h39,h12⟩]
     ·rw [if_neg (fun h=>h12 ((qM _).1 h).1),if_neg (fun h=>h12 h.2)]
    ·rw [if_neg h39,if_neg (fun h=>h39 h.1)]
     cases hcc : aG 39 (d :: t) with
     | mk a b =>
      obtain ⟨b,f⟩:=b
      cases f with
      | false=>rfl
      | true =>
       dsimp only
       rw [if_neg]
       intro h
       have hall:=((qM _).1 h).2
       have hdx : du d = false:=by
        have:=List.head_dropWhile_not (p:=du) (l:=r) (by rw [hd];simp)
        simpa [hd] using this
       have ha : d ∈ a:=by
        rw [aG,if_neg h39] at hcc
        simp only [Prod.mk.injEq] at hcc
        rw [← hcc.1];simp
       have:=hall d (List.mem_append_right _ ha)
       rw [hdx] at this;cases this
  ·rw [if_neg hc,if_neg hc]
theorem mF {r sc : Nat} {s : ael} {b : Bool} {top : Int} (hs : s.length ≤ 1000000) : d9 aek 147 [Pt r 0,I top] G [eQ r sc s b]
  (fun v L'=>∃ n,v = I n ∧ (0 ≤ n ∧ n ≤ 999999) ∧ (∀ m,aQ (s.takeWhile bn) top = some m → n = m) ∧ L' = [eQ r sc (s.dropWhile bn) (b || (aQ (s.takeWhile bn) top).isNone)]):=by
 have hwl:=eJ bn s
 have cx_tl : a7 aek 133 [S s,S [48,49,50,51,52,53,54,55,56,57]] G (· = S (s.dropWhile bn)):=by
  rw [← lP acb]
  exact mJ F kR F
 have e1 : s.take (((s.length : Nat) : Int) - (((s.dropWhile bn).length : Nat) : Int)).toNat = s.takeWhile bn:=by
  rw [← kP];congr 1;omega
 have cx_pnB:=lF (G:=G) (s:=s.takeWhile bn) (top:=top) oM
 rw [← e1] at cx_pnB
 cases hnum2 : (aQ (s.takeWhile bn) top) with
 | none =>
  rw [← e1] at hnum2
  have hno : (!(aQ (s.take (((s.length : Nat) : Int) - (((s.dropWhile bn).length : Nat) : Int)).toNat) top).isSome) = true:=by rw [hnum2];rfl
  refine jH [(0,_),(1,_)] Tryz.func147 Tryz.ntmps147 fun B hB hW=>?_
  repeat' (first | refine jR ?_ | (refine jo ?_;first | refine aC F ?_ | refine jD F F F ?_ | refine ae F F F cx_tl F ?_) | refine ac F ‹_› ?_ | (refine an (ao (id:=2) _ (fun _ h=>h) am ?_);refine jT 11 [0,1,2,4,5,6,9,10,13] (aa 20 9847) ?_;(refine jG (aa 20 9855) 3 F (aV F F F) ?_);(refine jG (aa 20 9983) 7 F (aV F F F) ?_);refine jW 6 [8,11,12] (aa 20 16383) ?_;refine jA 14 F ?_;(refine eE F F F cx_pnB F ?_;rintro _ ⟨n,rfl,hnum,hn0,hn1⟩);refine jS (aa 20 32767) ?_;refine jT 0 [15,16,17,18,19] (aa 20 1048575) ?_;refine jQ ?_))
  exact aX (vs:=[_]) F ⟨F,trivial⟩ F (List.Sublist.refl _) ⟨F,_,F,⟨hn0,hn1⟩,fun m hm=>(by cases hm),by simp⟩
 | some m =>
  rw [← e1] at hnum2
  have hno : (!(aQ (s.take (((s.length : Nat) : Int) - (((s.dropWhile bn).length : Nat) : Int)).toNat) top).isSome) = false:=by rw [hnum2];rfl
  refine jH [(0,_),(1,_)] Tryz.func147 Tryz.ntmps147 fun B hB hW=>?_
  repeat' (first | refine jR ?_ | (refine jo ?_;first | refine aC F ?_ | refine jD F F F ?_ | refine ae F F F cx_tl F ?_) | refine ad F ‹_› ?_ | (refine an (ao (id:=2) _ (fun _ h=>h) am ?_);refine jT 11 [0,1,2,4,5,6,9,10,13] (aa 20 9847) ?_;(refine jG (aa 20 9855) 3 F (aV F F F) ?_);(refine jG (aa 20 9983) 7 F (aV F F F) ?_);refine jW 6 [8,11,12] (aa 20 16383) ?_;refine jA 14 F ?_;(refine eE F F F cx_pnB F ?_;rintro _ ⟨n,rfl,hnum,hn0,hn1⟩);refine jS (aa 20 32767) ?_;refine jT 0 [15,16,17,18,19] (aa 20 1048575) ?_;refine jQ ?_))
  exact aX (vs:=[_]) F ⟨F,trivial⟩ F (List.Sublist.refl _) ⟨F,_,F,⟨hn0,hn1⟩,fun m' hm=>hnum m' (by rw [hnum2];exact hm),by simp⟩
theorem kq {l s : ael} {b : Bool} : (eK l s b).length ≤ s.length:=by unfold eK;split <;> simp
theorem gf {c : UInt8} {s : ael} : dl [c] s false = true ↔ ∃ r,s = c :: r:=by
 cases s with
 | nil =>
  constructor
  ·intro h;simp [dl,List.isPrefixOf] at h
  ·rintro ⟨r,h⟩;cases h
 | cons d r =>
  constructor
  ·intro h
   have : c = d:=by simpa [dl,List.isPrefixOf] using h
   exact ⟨r,by rw [this]⟩
  ·rintro ⟨r',h⟩
   simp only [List.cons.injEq] at h
   simp [dl,List.isPrefixOf,h.1]
theorem gW {c : UInt8} {r : ael} : eK [c] (c :: r) false = r:=by unfold eK;rw [if_pos (gf.2 ⟨r,rfl⟩)];rfl
theorem il {l s : ael} : dl l s true = false:=by simp [dl]
theorem jI {l s : ael} : eK l s true = s:=by simp [eK,il]
theorem hX {l s : ael} {b : Bool} (h : dl l s b = false) : eK l s b = s:=by simp [eK,h]
def QuP (s : ael) (b : Bool) (x s' : ael) (b' : Bool) : Prop :=
 x.length + s'.length ≤ s.length ∧ (b' = false → b = false ∧ dS s = some (.nd 116 x 0 [],s')) ∧ (b' = true → b = true ∨ dS s = none)
theorem abz (s : ael) (b : Bool) : QuP s b ((eK [39] s b).takeWhile du) (eK [39] ((eK [39] s b).dropWhile du) (!dl [39] s b)) (!dl [39] ((eK [39] s b).dropWhile du) (!dl [39] s b) || decide (12 < ((eK [39] s b).takeWhile du).length)):=by
 have hl : ((eK [39] s b).takeWhile du).length + (eK [39] ((eK [39] s b).dropWhile du) (!dl [39] s b)).length ≤ s.length:=by
  have h1:=kq (l:=[39]) (s:=s) (b:=b)
  have h2:=eJ du (eK [39] s b)
  have h3:=kq (l:=[39]) (s:=(eK [39] s b).dropWhile du) (b:=!dl [39] s b)
  omega
 refine ⟨hl,?_⟩
 rw [w9]
 cases b with
 | true=>rw [jI,il];simp [il]
 | false =>
  cases ht : dl [39] s false with
  | false =>
   simp only [Bool.not_false,il,Bool.true_or]
   refine ⟨fun h=>(by cases h),fun _=>.inr ?_⟩
   cases s with
   | nil=>rfl
   | cons c r =>
    dsimp only
    rw [if_neg]
    intro hc
    have : dl [39] (c :: r) false = true:=gf.2 ⟨r,by rw [show c = 39 from UInt8.toNat_inj.1 hc]⟩
    rw [this] at ht;cases ht
  | true =>
   obtain ⟨r,rfl⟩:=gf.1 ht
   rw [gW]
   dsimp only
   rw [if_pos (show (39 : UInt8).toNat = 39 from rfl),Bool.not_true]
   cases ht2 : dl [39] (r.dropWhile du) false with
   | false =>
    simp only [Bool.not_false,Bool.true_or]
    refine ⟨fun h=>(by cases h),fun _=>.inr ?_⟩
    cases hd : r.dropWhile du with
    | nil=>rfl
    | cons d t =>
     dsimp only
     rw [if_neg]
     rintro ⟨hc,_⟩
     have : dl [39] (r.dropWhile du) false = true:=gf.2 ⟨t,by rw [hd,show d = 39 from UInt8.toNat_inj.1 hc]⟩
     rw [this] at ht2;cases ht2
   | true =>
    obtain ⟨t,hd⟩:=gf.1 ht2
    rw [hd,gW]
    dsimp only
    by_cases h12 : 12 < (r.takeWhile du).length
    ·rw [decide_eq_true h12,if_neg (fun h=>by omega)]
     exact ⟨fun h=>(by cases h),fun _=>.inr F⟩
    ·rw [decide_eq_false h12,if_pos ⟨rfl,oM⟩]
     exact ⟨fun _=>⟨F,F⟩,fun h=>(by cases h)⟩
theorem aaU {r sc : Nat} {s : ael} {b : Bool} (hs : s.length ≤ 1000000) : d9 aek 148 [Pt r 0] G [eQ r sc s b]
  (fun v L'=>∃ x s' b',v = S x ∧ QuP s b x s' b' ∧ L' = [eQ r sc s' b']):=by
 have hq:=abz s b
 have h1:=kq (l:=[39]) (s:=s) (b:=b)
 have h2:=eJ du (eK [39] s b)
 have h3:=kq (l:=[39]) (s:=(eK [39] s b).dropWhile du) (b:=!dl [39] s b)
 have cx_wa:=d7 (G:=G) (r:=r) (sc:=sc) (s:=s) (l:=[39]) (b:=b) ⟨hs,by simp⟩
 have cx_wb:=d7 (G:=G) (r:=r) (sc:=sc) (s:=(eK [39] s b).dropWhile du) (l:=[39]) (b:=!dl [39] s b) ⟨oM,by simp⟩
 have cx_tl : a7 aek 133 [S (eK [39] s b),S [97,98,99,100,101,102,103,104,105,106,107,108,109,110,111,112,113,114,115,116,117,118,119,120,121,122,48,49,50,51,52,53,54,55,56,57,32]] G (· = S ((eK [39] s b).dropWhile du)):=by
  rw [← lP abi]
  exact mJ F kR F
 have e1 : (eK [39] s b).take ((((eK [39] s b).length : Nat) : Int) - ((((eK [39] s b).dropWhile du).length : Nat) : Int)).toNat = (eK [39] s b).takeWhile du:=by
  rw [← kP];congr 1;omega
 by_cases h12 : 12 < ((eK [39] s b).takeWhile du).length
 ·rw [decide_eq_true h12,Bool.or_true] at hq
  rw [← e1] at h12
  refine jH [(0,_)] Tryz.func148 Tryz.ntmps148 fun B hB hW=>?_
  repeat' (first | refine jR ?_ | (refine jo ?_;first | refine aC F ?_ | refine jD F F F ?_ | (refine aL F F F cx_wa F ?_;rintro _ _ rfl;dsimp only [zA,fA]) | (refine aL F F F cx_wb F ?_;rintro _ _ rfl;dsimp only [zA,fA]) | refine ae F F F cx_tl F ?_) | refine ac F (aA oM) ?_ | (refine an (ao (id:=3) _ (fun _ h=>h) am ?_);refine jT 6 [0,1,2,4,5,6,9,10] (aa 14 1655) ?_;(refine jG (aa 14 1663) 3 F (aV F F F) ?_);(refine jG (aa 14 1791) 7 F (aV F F F) ?_);refine jW 0 [8,11,12,13] (aa 14 16383) ?_;refine jQ ?_))
  all_goals exact aX (vs:=[_]) F ⟨F,trivial⟩ F (List.Sublist.refl _) ⟨F,_,_,_,F,by rw [e1];exact hq,F⟩
 ·rw [decide_eq_false h12,Bool.or_false] at hq
  rw [← e1] at h12
  refine jH [(0,_)] Tryz.func148 Tryz.ntmps148 fun B hB hW=>?_
  repeat' (first | refine jR ?_ | (refine jo ?_;first | refine aC F ?_ | refine jD F F F ?_ | (refine aL F F F cx_wa F ?_;rintro _ _ rfl;dsimp only [zA,fA]) | (refine aL F F F cx_wb F ?_;rintro _ _ rfl;dsimp only [zA,fA]) | refine ae F F F cx_tl F ?_) | refine ad F (aH oM) ?_ | (refine an (ao (id:=3) _ (fun _ h=>h) am ?_);refine jT 6 [0,1,2,4,5,6,9,10] (aa 14 1655) ?_;(refine jG (aa 14 1663) 3 F (aV F F F) ?_);(refine jG (aa 14 1791) 7 F (aV F F F) ?_);refine jW 0 [8,11,12,13] (aa 14 16383) ?_;refine jQ ?_))
  all_goals exact aX (vs:=[_]) F ⟨F,trivial⟩ F (List.Sublist.refl _) ⟨F,_,_,_,F,by rw [e1];exact hq,F⟩
def RdP (f : ael → Option (V × ael)) (s : ael) (b : Bool) (u : V) (s' : ael) (b' : Bool) : Prop :=
 s'.length ≤ s.length ∧ (b' = false → b = false ∧ f s = some (u,s')) ∧ (b' = true → (b = true ∨ f s = none) ∧ u.tot + 100 * s'.length ≤ 100 * s.length + 100)
def je (f : ael → Option (V × ael)) (r sc : Nat) (s : ael) (b : Bool) (v : Value) (G' : Gh) (L' : List Own) : Prop :=
 ∃ u c s' b',v = Ag (be c) ∧ V.rep G' u c ∧ L' = [eQ r sc s' b'] ∧ RdP f s b u s' b'
def nQ (n sc : Nat) (qs : List c8) : Prop:=∀ (G : Gh) (r : Nat) (k s : ael) (b : Bool),ScI G sc qs → ax (al qs) k = true → s.length < n → s.length ≤ 1000 →
 fp aek 107 [Pt r 0,Ag (cT k)] G [eQ r sc s b] (je (rd (al qs) n k) r sc s b)
def fQ (f : ael → Option (V × ael)) : ael → Option (V × ael)
 | []=>none
 | d :: s'=>if d.toNat = 91 then (match s' with
   | []=>none
   | e :: r=>if e.toNat = 93 then some (.nd 91 [] 0 [],r) else (bL f 20 s' []).map fun x=>(.nd 91 [] 0 x.1,x.2)) else none
theorem m7 {f : ael → Option (V × ael)} (hf : ∀ s x,f s = some x → x.2.length < s.length) : ∀ (m M : Nat) (s : ael) (acc : List V),s.length < M →
  bL f m s acc = match bL f M s acc with
   | none=>none
   | some x=>if x.1.length ≤ acc.length + m then some x else none
 | 0,M,s,acc,hM=>by
  cases hr : bL f M s acc with
  | none=>rfl
  | some x =>
   have : acc.length + 1 ≤ x.1.length:=by
    clear hM
    induction M generalizing s acc with
    | zero=>cases hr
    | succ M ih =>
     unfold bL at hr
     cases hfs : f s with
     | none=>rw [hfs] at hr;cases hr
     | some y =>
      rw [hfs] at hr
      obtain ⟨v,r⟩:=y
      cases r with
      | nil=>cases hr
      | cons c r =>
       dsimp only at hr
       split at hr
       ·have:=ih _ _ hr;simp at this;omega
       ·split at hr
        ·simp only [Option.some.injEq] at hr;subst hr;simp
        ·cases hr
   dsimp only
   rw [if_neg oM];rfl
 | m + 1,0,s,acc,hM=>by omega
 | m + 1,M + 1,s,acc,hM=>by
  rw [bL,bL]
  cases hfs : f s with
  | none=>rfl
  | some y =>
   have hlt:=hf _ _ hfs
   obtain ⟨v,r⟩:=y
   cases r with
   | nil=>rfl
   | cons c r =>
    simp only [List.length_cons] at hlt
    dsimp only
    split
    ·rw [m7 hf m M r (acc ++ [v]) oM]
     cases bL f M r (acc ++ [v]) with
     | none=>rfl
     | some x=>dsimp only;simp only [List.length_append,List.length_singleton];congr 1;simp;omega
    ·split
     ·dsimp only;rw [if_pos (by simp)]
     ·rfl
theorem j8 {f : ael → Option (V × ael)} {t : ael} {vs : List V} : ∀ {m : Nat},(f t = none ∨ ∃ u,f t = some (u,[])) → bL f m t vs = none
 | 0,_=>rfl
 | m + 1,h=>by
  rw [bL]
  rcases h with h | ⟨u,h⟩ <;> rw [h]
theorem j7 {f : ael → Option (V × ael)} {t t2 : ael} {c : UInt8} {u : V} {vs : List V} {m : Nat} (h : f t = some (u,c :: t2)) (hm : 0 < m) :
  bL f m t vs = if c.toNat = 44 then bL f (m - 1) t2 (vs ++ [u]) else if c.toNat = 93 then some (vs ++ [u],t2) else none:=by
 obtain ⟨m,rfl⟩ : ∃ k,m = k + 1:=⟨m - 1,oM⟩
 rw [bL,h];rfl
theorem iX {ts : List Ty} {n : Nat} {k s : ael} {x : V × ael} (h : rd ts n k s = some x) : x.2.length < s.length:=by
 have:=gB n k s x h
 have:=iT x.1
 omega
abbrev fJ : TypeId:=58
abbrev rK (b : Nat) (cs : List Value) : Own:=.blk b (.cells cs.toArray di (0,0))
theorem acw {n r sc : Nat} {qs : List c8} {k s : ael} {b : Bool} (hV : nQ n sc qs) (hS : ScI G sc qs) (hk : ax (al qs) k = true) (hs : s.length ≤ n ∧ s.length ≤ 1000) :
  fp aek 144 [Pt r 0,Ag (cT k)] G [eQ r sc s b] (je (fQ (rd (al qs) n k)) r sc s b):=by
 have cx_wa:=d7 (G:=G) (r:=r) (sc:=sc) (s:=s) (l:=[91]) (b:=b) ⟨oM,by simp⟩
 have cx_tk:=iJ (G:=G) (r:=r) (sc:=sc) (s:=eK [91] s b) (l:=[93]) (b:=!dl [91] s b) ⟨by have:=kq (l:=[91]) (s:=s) (b:=b);omega,by simp⟩
 simp only [cT]
 cases ht : dl [91] s b with
 | false =>
  rw [ht,hX ht] at cx_wa cx_tk
  rw [Bool.not_false,il,jI] at cx_tk
  have cx_wb:=d7 (G:=G) (r:=r) (sc:=sc) (s:=s) (l:=[93]) (b:=true) ⟨oM,by simp⟩
  rw [il,jI] at cx_wb
  refine bM [(0,_),(1,_)] Tryz.func144 kR Tryz.ntmps144 F F tU fun B hB hW=>?_
  repeat' (first | refine jR ?_ | (refine jo ?_;first | refine jO fun _=>?_ | refine jL fun _=>?_ | refine jV (ay F F) ?_ | refine jC F F F ?_ | (refine aL F F F cx_wa F ?_;rintro _ _ rfl;dsimp only [zA,fA]) | (refine aL F F F cx_tk F ?_;rintro _ _ ⟨rfl,rfl⟩;dsimp only [zA,fA])) | refine ad F F ?_)
  rename_i x3 x4 x5 _
  refine aW (ι:=Unit) (fun i=>True) (fun i=>[(0,Pt r 0),(4,Pt x4 0),(5,Pt x5 0)]) (fun _=>G) (fun i=>[eQ r sc s true,rK x5 [U8 91,S [],I 0,aK],rK x4 [U8 0,S [],I 0,aK]]) (fun i=>0) () ?_ tU F sB (fun i Hi=>?_)
  ·trivial
  repeat' (first | refine jR ?_ | (refine jo ?_;first | refine jC F F F ?_ | refine aC F ?_ | refine bO F ?_ | refine jV (af F) ?_ | (refine aL F F F cx_wb F ?_;rintro _ _ rfl;dsimp only [zA,fA])) | refine ad F F ?_)
  refine aX (vs:=[_]) F ⟨aJ F F F F,trivial⟩ F sB ⟨Gh.le.refl _,.nd 91 [] 0 [],⟨91,[],0,none,0,0⟩,s,true,F,da dC dC,F,Nat.le_refl _,fun h=>(by cases h),fun _=>⟨?_,by simp only [V.tot,V.tots,List.length_nil];omega⟩⟩
  cases b with
  | true=>exact .inl F
  | false =>
   right
   cases s with
   | nil=>rfl
   | cons d r' =>
    unfold fQ
    dsimp only
    rw [if_neg]
    intro h91
    have : dl [91] (d :: r') false = true:=gf.2 ⟨r',by rw [show d = 91 from UInt8.toNat_inj.1 h91]⟩
    rw [this] at ht;cases ht
 | true =>
  have hb : b = false:=by cases b with | true=>rw [il] at ht;cases ht | false=>rfl
  subst hb
  obtain ⟨s1,rfl⟩:=gf.1 ht
  rw [ht,gW] at cx_wa cx_tk
  rw [Bool.not_true] at cx_wa cx_tk
  simp only [List.length_cons] at hs
  cases ht2 : dl [93] s1 false with
  | true =>
   obtain ⟨s2,rfl⟩:=gf.1 ht2
   rw [ht2,gW] at cx_tk
   refine bM [(0,_),(1,_)] Tryz.func144 kR Tryz.ntmps144 F F tU fun B hB hW=>?_
   repeat' (first | refine jR ?_ | (refine jo ?_;first | refine jO fun _=>?_ | refine jL fun _=>?_ | refine jV (ay F F) ?_ | refine jC F F F ?_ | refine bO F ?_ | (refine aL F F F cx_wa F ?_;rintro _ _ rfl;dsimp only [zA,fA]) | (refine aL F F F cx_tk F ?_;rintro _ _ ⟨rfl,rfl⟩;dsimp only [zA,fA])) | refine ac F F ?_)
   refine aX (vs:=[_]) F ⟨aJ F F F F,trivial⟩ F sB ⟨Gh.le.refl _,.nd 91 [] 0 [],⟨91,[],0,none,0,0⟩,s2,false,F,da dC dC,F,by simp only [List.length_cons];omega,fun _=>⟨rfl,rfl⟩,fun h=>(by cases h)⟩
  | false =>
   rw [ht2,hX ht2] at cx_tk
   have hR : fQ (rd (al qs) n k) (91 :: s1) = (bL (rd (al qs) n k) 20 s1 []).map fun x=>(.nd 91 [] 0 x.1,x.2):=by
    unfold fQ
    dsimp only
    rw [if_pos (show (91 : UInt8).toNat = 91 from rfl)]
    cases s1 with
    | nil =>
     have : rd (al qs) n k [] = none:=by
      cases h : rd (al qs) n k [] with
      | none=>rfl
      | some x=>have:=iX h;simp at this
     simp [bL,this]
    | cons e r' =>
     dsimp only
     rw [if_neg]
     intro h93
     have : dl [93] (e :: r') false = true:=gf.2 ⟨r',by rw [show e = 93 from UInt8.toNat_inj.1 h93]⟩
     rw [this] at ht2;cases ht2
   have hmore:=m7 (f:=rd (al qs) n k) (fun s x h=>iX h) 20 (s1.length + 1) s1 [] oM
   refine bM [(0,_),(1,_)] Tryz.func144 kR Tryz.ntmps144 F F tU fun B hB hW=>?_
   repeat' (first | refine jR ?_ | (refine jo ?_;first | refine jO fun _=>?_ | refine jL fun _=>?_ | refine jV (ay F F) ?_ | refine jC F F F ?_ | (refine aL F F F cx_wa F ?_;rintro _ _ rfl;dsimp only [zA,fA]) | (refine aL F F F cx_tk F ?_;rintro _ _ ⟨rfl,rfl⟩;dsimp only [zA,fA])) | refine ad F F ?_)
   rename_i x3 x4 x5 _
   refine Nx.addNil di 4 (Nx.perm (List.Perm.swap _ _ _) ?_)
   refine aW (ι:=List V × List VC × Option Addr × Nat × ael × Nat × Gh) (fun q=>(V.reps q.2.2.2.2.2.2 q.1 q.2.1 ∧ Gh.le G q.2.2.2.2.2.2) ∧ (bL (rd (al qs) n k) (s1.length + 1) s1 [] = bL (rd (al qs) n k) q.2.2.2.2.2.1 q.2.2.2.2.1 q.1 ∧ q.2.2.2.2.1.length < q.2.2.2.2.2.1) ∧ (V.tots q.1 + 100 * q.2.2.2.2.1.length + 100 ≤ 100 * (s1.length + 1) ∧ q.2.2.2.2.1.length ≤ s1.length)) (fun q=>[(0,Pt r 0),(3,Pt x3 0),(4,Pt x4 0),(5,Pt x5 0)]) (fun q=>q.2.2.2.2.2.2) (fun q=>[eQ r sc q.2.2.2.2.1 false,.acc (.slice q.2.2.1 q.1.length q.2.2.2.1) di 4 q.1.length (ag be q.2.1),rK x5 [U8 91,S [],I 0,.slice q.2.2.1 q.1.length q.2.2.2.1],rK x4 [U8 0,S [],I 0,aK],.blk x3 (.cells (List.toArray [S (sg k),S (bs k),S (nm k)]) fJ (0,0))]) (fun q=>q.2.2.2.2.1.length) ([],[],none,0,s1,s1.length + 1,G) ?_ tU F bc (fun q Hq=>?_)
   ·exact ⟨⟨F,Gh.le.refl _⟩,⟨F,by dsimp only;omega⟩,by dsimp only;simp only [V.tots];omega,Nat.le_refl _⟩
   obtain ⟨vs,cs,a,cap,t,m,Gq⟩:=q
   dsimp only at Hq ⊢
   obtain ⟨⟨hreps,hgq⟩,⟨hit,htm⟩,hT,htl⟩:=Hq
   have hcl:=gy hreps
   have hkl:=dq vs
   have cx_vl:=hV Gq r k t false (hS.mono hgq) hk oM oM
   repeat' (first | refine jR ?_ | (refine jo ?_;refine aC F ?_) | refine ac F F ?_)
   (refine an (ao (id:=6) [.blk x3 (.cells (List.toArray [S (sg k),S (bs k),S (nm k)]) fJ (0,0))] (by intro y hy;simp only [List.mem_cons,List.not_mem_nil,or_false] at hy ⊢;simp [hy]) am ?_);refine jW 7 [0,2] (aa 9 5) ?_;(refine jG (aa 9 13) 3 F (bS F F F F) ?_);refine b8 [1,4] kR dC ⟨?_,?_,trivial⟩;(focus (refine aO F F ?_;(refine aC F ?_);refine jK (aa 9 15) ?_;refine jA 4 F ?_;(refine eR F F F cx_vl F ?_;rintro _ G1 _ hle ⟨u1,c1,t1,b1,rfl,hrep,rfl,hP⟩;dsimp only [zA,fA];skip);refine jK (aa 9 31) ?_;refine jA 5 F ?_;(refine jF fun _=>?_);refine jK (aa 9 63) ?_;refine jA 6 F ?_;((refine bG F F F F F F F F F ?_ fun _ _=>?_;focus omega));refine jK (aa 9 127) ?_;refine jW 1 [7] (aa 9 255) ?_;refine jA 8 F ?_;(refine jD F F F ?_);refine jK (aa 9 511) ?_;refine jQ ?_));rotate_left 1;(focus (refine aO F F ?_;(refine eR F F F cx_vl F ?_;rintro _ G1 _ hle ⟨u1,c1,t1,b1,rfl,hrep,rfl,hP⟩;dsimp only [zA,fA];skip);refine jK (aa 9 29) ?_;refine b8 [1,5] kR dC ⟨?_,?_,trivial⟩;(focus (refine aO F F ?_;(refine aC F ?_);refine jK (aa 9 31) ?_;refine jA 5 F ?_;(refine jF fun _=>?_);refine jK (aa 9 63) ?_;refine jA 6 F ?_;((refine bG F F F F F F F F F ?_ fun _ _=>?_;focus omega));refine jK (aa 9 127) ?_;refine jW 1 [7] (aa 9 255) ?_;refine jA 8 F ?_;(refine jD F F F ?_);refine jK (aa 9 511) ?_;refine jQ ?_));rotate_left 1;(focus (refine aO F F ?_;(refine jF fun _=>?_);refine jK (aa 9 61) ?_;refine jA 1 F ?_;(refine aC F ?_);refine jK (aa 9 63) ?_;refine jA 6 F ?_;((refine bG F F F F F F F F F ?_ fun _ _=>?_;focus omega));refine jK (aa 9 127) ?_;refine jW 1 [7] (aa 9 255) ?_;refine jA 8 F ?_;(refine jD F F F ?_);refine jK (aa 9 511) ?_;refine jQ ?_));rotate_left 1));rotate_left 2)
   all_goals
    rename_i y1 yc
    have hrow : ag be cs ++ [U8 (c1.what : Nat),S c1.text,I c1.tag,c1.sl] = ag be (cs ++ [c1]):=(bX be cs c1).symm
    have hr2 : V.reps G1 (vs ++ [u1]) (cs ++ [c1]):=io hrep (cO hle hreps)
    have hvl : (vs ++ [u1]).length = vs.length + 1:=by simp
    have htu : V.tots (vs ++ [u1]) = V.tots vs + u1.tot:=by simp [fI,V.tots]
    have hgl:=hgq.trans hle
    obtain ⟨hPl,hP0,hP1⟩:=hP
    rw [hrow]
    cases b1 with
    | true =>
     obtain ⟨hno,hto⟩:=hP1 rfl
     have hno : rd (al qs) n k t = none:=by
      rcases hno with h | h
      ·cases h
      ·exact h
     have hit2 : bL (rd (al qs) n k) m t vs = none:=j8 (.inl hno)
     have cx_tm:=iJ (G:=G1) (r:=r) (sc:=sc) (s:=t1) (l:=[44]) (b:=true) ⟨oM,by simp⟩
     have cx_wb:=d7 (G:=G1) (r:=r) (sc:=sc) (s:=t1) (l:=[93]) (b:=true) ⟨oM,by simp⟩
     rw [il,jI] at cx_tm cx_wb
     repeat' (first | refine jR ?_ | (refine jo ?_;first | refine jD F F F ?_ | refine jC F F F ?_ | refine aC F ?_ | refine bO F ?_ | refine jV (af F) ?_ | (refine aL F F F cx_wb F ?_;rintro _ _ rfl;dsimp only [zA,fA]) | (refine aL F F F cx_tm F ?_;rintro _ _ ⟨rfl,rfl⟩;dsimp only [zA,fA])) | refine ac F F ?_ | refine eG F (fun _=>?_) (fun _=>?_))
     all_goals (refine Nx.sealS (v:=.slice (some ⟨y1,0,none⟩) (vs.length + 1) yc) fun G2 hG2 hsl=>?_)
     all_goals refine aX (vs:=[_]) F ⟨aJ F F F F,trivial⟩ F sB ⟨hgl.trans hG2,.nd 91 [] 0 (vs ++ [u1]),⟨91,[],0,some ⟨y1,0,none⟩,vs.length + 1,yc⟩,t1,true,F,d4 dC dC (fun h=>absurd h dC) hvl.symm (by rw [List.length_append,List.length_singleton,hcl];exact hsl) (cO hG2 hr2),F,by simp only [List.length_cons];omega,fun h=>(by cases h),fun _=>⟨.inr (by rw [hR,hmore,hit,hit2];rfl),by rw [bK,htu];simp only [List.length_cons,List.length_nil];omega⟩⟩
    | false =>
     obtain ⟨_,hfs⟩:=hP0 rfl
     have htot:=gB n k t _ hfs
     dsimp only at htot
     have hup:=iT u1
     have cx_tm:=iJ (G:=G1) (r:=r) (sc:=sc) (s:=t1) (l:=[44]) (b:=false) ⟨oM,by simp⟩
     cases ht3 : dl [44] t1 false with
     | true =>
      obtain ⟨t2,rfl⟩:=gf.1 ht3
      rw [ht3,gW] at cx_tm
      have hit2:=j7 (m:=m) (vs:=vs) hfs oM
      rw [if_pos (show (44 : UInt8).toNat = 44 from rfl)] at hit2
      simp only [List.length_cons] at htot hPl
      have hlt : t2.length < m - 1:=oM
      repeat' (first | refine jR ?_ | (refine jo ?_;(refine aL F F F cx_tm F ?_;rintro _ _ ⟨rfl,rfl⟩;dsimp only [zA,fA])) | refine ad F F ?_)
      exact br (vs ++ [u1],cs ++ [c1],some ⟨y1,0,none⟩,yc,t2,m - 1,G1) ⟨⟨hr2,hgl⟩,⟨by rw [hit,hit2],hlt⟩,by dsimp only;omega,by dsimp only;omega⟩ (by dsimp only;omega) tU rfl (by rw [hvl];repeat (first | exact List.Sublist.refl _ | apply List.Sublist.cons_cons | apply List.Sublist.cons))
     | false =>
      rw [ht3,hX ht3] at cx_tm
      have cx_wb:=d7 (G:=G1) (r:=r) (sc:=sc) (s:=t1) (l:=[93]) (b:=false) ⟨oM,by simp⟩
      cases ht4 : dl [93] t1 false with
      | true =>
       obtain ⟨t2,rfl⟩:=gf.1 ht4
       rw [ht4,gW,Bool.not_true] at cx_wb
       have hit2:=j7 (m:=m) (vs:=vs) hfs oM
       rw [if_neg (show ¬ (93 : UInt8).toNat = 44 by decide),if_pos (show (93 : UInt8).toNat = 93 from rfl)] at hit2
       simp only [List.length_cons] at htot hPl
       by_cases h20 : vs.length + 1 ≤ 20
       ·repeat' (first | refine jR ?_ | (refine jo ?_;first | refine jC F F F ?_ | refine aC F ?_ | refine bO F ?_ | refine jV (af F) ?_ | (refine aL F F F cx_wb F ?_;rintro _ _ rfl;dsimp only [zA,fA]) | (refine aL F F F cx_tm F ?_;rintro _ _ ⟨rfl,rfl⟩;dsimp only [zA,fA])) | refine ac F F ?_ | refine ad F (aH oM) ?_)
        refine Nx.sealS (v:=.slice (some ⟨y1,0,none⟩) (vs.length + 1) yc) fun G2 hG2 hsl=>?_
        refine aX (vs:=[_]) F ⟨aJ F F F F,trivial⟩ F sB ⟨hgl.trans hG2,.nd 91 [] 0 (vs ++ [u1]),⟨91,[],0,some ⟨y1,0,none⟩,vs.length + 1,yc⟩,t2,false,F,d4 dC dC (fun h=>absurd h dC) hvl.symm (by rw [List.length_append,List.length_singleton,hcl];exact hsl) (cO hG2 hr2),F,by simp only [List.length_cons];omega,fun _=>⟨rfl,by rw [hR,hmore,hit,hit2];dsimp only;rw [if_pos (by simp;omega)];rfl⟩,fun h=>(by cases h)⟩
       ·repeat' (first | refine jR ?_ | (refine jo ?_;first | refine jD F F F ?_ | refine jC F F F ?_ | refine aC F ?_ | refine bO F ?_ | refine jV (af F) ?_ | (refine aL F F F cx_wb F ?_;rintro _ _ rfl;dsimp only [zA,fA]) | (refine aL F F F cx_tm F ?_;rintro _ _ ⟨rfl,rfl⟩;dsimp only [zA,fA])) | (refine ac F (by first | rfl | (refine decide_eq_true ?_;(omega))) ?_))
        refine Nx.sealS (v:=.slice (some ⟨y1,0,none⟩) (vs.length + 1) yc) fun G2 hG2 hsl=>?_
        refine aX (vs:=[_]) F ⟨aJ F F F F,trivial⟩ F sB ⟨hgl.trans hG2,.nd 91 [] 0 (vs ++ [u1]),⟨91,[],0,some ⟨y1,0,none⟩,vs.length + 1,yc⟩,t2,true,F,d4 dC dC (fun h=>absurd h dC) hvl.symm (by rw [List.length_append,List.length_singleton,hcl];exact hsl) (cO hG2 hr2),F,by simp only [List.length_cons];omega,fun h=>(by cases h),fun _=>⟨.inr (by rw [hR,hmore,hit,hit2];dsimp only;rw [if_neg (by simp;omega)];rfl),by rw [bK,htu];simp only [List.length_cons,List.length_nil];omega⟩⟩
      | false =>
       rw [ht4,hX ht4,Bool.not_false] at cx_wb
       have hit2 : bL (rd (al qs) n k) m t vs = none:=by
        cases t1 with
        | nil=>exact j8 (.inr ⟨u1,hfs⟩)
        | cons d t2 =>
         rw [j7 hfs oM,if_neg,if_neg]
         ·intro h93
          have : dl [93] (d :: t2) false = true:=gf.2 ⟨t2,by rw [show d = 93 from UInt8.toNat_inj.1 h93]⟩
          rw [this] at ht4;cases ht4
         ·intro h44
          have : dl [44] (d :: t2) false = true:=gf.2 ⟨t2,by rw [show d = 44 from UInt8.toNat_inj.1 h44]⟩
          rw [this] at ht3;cases ht3
       repeat' (first | refine jR ?_ | (refine jo ?_;first | refine jD F F F ?_ | refine jC F F F ?_ | refine aC F ?_ | refine bO F ?_ | refine jV (af F) ?_ | (refine aL F F F cx_wb F ?_;rintro _ _ rfl;dsimp only [zA,fA]) | (refine aL F F F cx_tm F ?_;rintro _ _ ⟨rfl,rfl⟩;dsimp only [zA,fA])) | refine ac F F ?_ | refine eG F (fun _=>?_) (fun _=>?_))
       all_goals (refine Nx.sealS (v:=.slice (some ⟨y1,0,none⟩) (vs.length + 1) yc) fun G2 hG2 hsl=>?_)
       all_goals refine aX (vs:=[_]) F ⟨aJ F F F F,trivial⟩ F sB ⟨hgl.trans hG2,.nd 91 [] 0 (vs ++ [u1]),⟨91,[],0,some ⟨y1,0,none⟩,vs.length + 1,yc⟩,t1,true,F,d4 dC dC (fun h=>absurd h dC) hvl.symm (by rw [List.length_append,List.length_singleton,hcl];exact hsl) (cO hG2 hr2),F,by simp only [List.length_cons];omega,fun h=>(by cases h),fun _=>⟨.inr (by rw [hR,hmore,hit,hit2];rfl),by rw [bK,htu];simp only [List.length_cons,List.length_nil];omega⟩⟩
def zVC : VC:=⟨0,[],0,none,0,0⟩
def acM (t : Ty) (bf of : Nat) (f : ael → ael → Option (V × ael)) (r sc : Nat) (s : ael) (b : Bool) (v : Value) (G' : Gh) (L' : List Own) : Prop :=
  ∃ s' b',L' = [eQ r sc s' b'] ∧ s'.length ≤ s.length ∧
    ((v = Tu [Ag (be zVC),.pointer none] ∧ b' = true ∧ (b = true ∨ aY f t s = none)) ∨
     (∃ j u c,j < t.fields.length ∧ v = Tu [Ag (be c),Pt bf (of + j * 6)] ∧ V.rep G' (.nd 61 [] (ab t.fields j).tag [u]) c ∧ b = false ∧ u.tot + 100 * s'.length + 100 ≤ 100 * s.length ∧
       (b' = false → aY f t s = some ((ab t.fields j,u),s')) ∧ (b' = true → aY f t s = none)))
abbrev zP : Value:=Ag [U8 0,S [],I 0,aK]
theorem f8 {f : ael → ael → Option (V × ael)} {t : Ty} {s : ael} (h : aQ (s.takeWhile bn) 200 = none ∨ ∃ m,aQ (s.takeWhile bn) 200 = some m ∧ cm t.fields m = none) : aY f t s = none:=by
 unfold aY cP
 rcases h with h | ⟨m,h,h2⟩
 ·rw [h];rfl
 ·rw [h];dsimp only [Option.map_some];rw [h2]
theorem iH {f : ael → ael → Option (V × ael)} {t : Ty} {s : ael} {m : Int} (h : aQ (s.takeWhile bn) 200 = some m) (h2 : ∀ s2,s.dropWhile bn ≠ 61 :: s2) : aY f t s = none:=by
 unfold aY cP
 rw [h];dsimp only [Option.map_some]
 cases cm t.fields m with
 | none=>rfl
 | some d =>
  dsimp only
  cases hd : s.dropWhile bn with
  | nil=>rfl
  | cons c r =>
   dsimp only
   rw [if_neg]
   intro hc
   exact h2 r (by rw [hd,show c = 61 from UInt8.toNat_inj.1 hc])
theorem mq {f : ael → ael → Option (V × ael)} {t : Ty} {s s2 : ael} {m : Int} {d : Fld} (h : aQ (s.takeWhile bn) 200 = some m) (hd : cm t.fields m = some d) (h2 : s.dropWhile bn = 61 :: s2) : aY f t s = (f d.kind s2).map fun x=>((d,x.1),x.2):=by
 unfold aY cP
 rw [h];dsimp only [Option.map_some];rw [hd,h2];dsimp only;rw [if_pos (show (61 : UInt8).toNat = 61 from rfl)]
theorem py {n r sc bt bf of cf : Nat} {qs : List c8} {t : Ty} {ln s : ael} {b : Bool} {fv : Value} (hV : nQ n sc qs) (hS : ScI G sc qs) (hw : TyW t) (hkf : ∀ d ∈ t.fields,ax (al qs) d.kind = true)
  (h1 : bU G bt 0 [U8 t.sort,S t.name,fv,S ln]) (h2 : aN G fv 6 t.fields.length (ag gG t.fields)) (hfv : t.fields ≠ [] → fv = .slice (some ⟨bf,of,none⟩) t.fields.length cf ∧ bU G bf of (ag gG t.fields)) (hs : s.length ≤ n ∧ s.length ≤ 1000) :
  fp aek 171 [Pt r 0,Pt bt 0] G [eQ r sc s b] (acM t bf of (rd (al qs) n) r sc s b):=by
 have hwl:=eJ bn s
 have hfl:=hw.len
 have cx_nu:=mF (G:=G) (r:=r) (sc:=sc) (s:=s) (b:=b) (top:=200) oM
 have cx_wa:=d7 (G:=G) (r:=r) (sc:=sc) (s:=s.dropWhile bn) (l:=[61]) (b:=(b || (aQ (s.takeWhile bn) 200).isNone)) ⟨oM,by simp⟩
 have htl:=kq (l:=[61]) (s:=s.dropWhile bn) (b:=(b || (aQ (s.takeWhile bn) 200).isNone))
 have hleft : ∀ (s' : ael),s'.length ≤ s.length → (b = true ∨ aY (rd (al qs) n) t s = none) → ∀ G',acM t bf of (rd (al qs) n) r sc s b (Tu [Ag (be zVC),.pointer none]) G' [eQ r sc s' true]:=fun s' h3 h4 G'=>⟨s',true,rfl,h3,.inl ⟨rfl,rfl,h4⟩⟩
 refine bM [(0,_),(1,_)] Tryz.func171 kR Tryz.ntmps171 F F tU fun B hB hW=>?_
 repeat' (first | refine jR ?_ | (refine jo ?_;first | refine jL fun _=>?_ | (refine aL F F F cx_nu F ?_;rintro _ _ ⟨n1,rfl,⟨hn0,hn1⟩,hnum,rfl⟩;dsimp only [zA,fA])))
 rename_i x4
 cases hft : cm t.fields n1 with
 | none =>
  have hno : aY (rd (al qs) n) t s = none:=by
   cases hm : aQ (s.takeWhile bn) 200 with
   | none=>exact f8 (.inl hm)
   | some m=>exact f8 (.inr ⟨m,hm,by rw [← hnum m hm];exact hft⟩)
  have cx_fld:=jv h1 h2 oM hft
  repeat' (first | refine jR ?_ | (refine jo ?_;first | refine jV (dn F F) ?_ | refine aP F ?_ | refine jD F F F ?_ | refine jC F F F ?_ | refine jV (ay F F) ?_ | refine ae F F F cx_fld F ?_ | (refine aL F F F cx_wa F ?_;rintro _ _ rfl;dsimp only [zA,fA])) | refine aF F F F ?_ | refine ac F F ?_)
  refine aX (vs:=[_,_]) F ⟨aJ F F F F,F,trivial⟩ F sB ⟨Gh.le.refl _,hleft _ oM (.inr hno) _⟩
 | some d =>
  obtain ⟨j,hj,hjn,hjt,hjd⟩:=gF hft
  subst hjd
  obtain ⟨rfl,hsf⟩:=hfv (fun h=>by rw [h] at hj;simp at hj)
  have cx_fld:=gM h1 hsf oM hj hjn hjt
  cases ht : dl [61] (s.dropWhile bn) (b || (aQ (s.takeWhile bn) 200).isNone) with
  | false =>
   rw [ht,Bool.not_false] at cx_wa
   have hno : b = true ∨ aY (rd (al qs) n) t s = none:=by
    cases b with
    | true=>exact .inl F
    | false =>
     right
     cases hm : aQ (s.takeWhile bn) 200 with
     | none=>exact f8 (.inl hm)
     | some m =>
      refine iH hm (fun s2 h=>?_)
      rw [hm,h] at ht
      have : dl [61] (61 :: s2) false = true:=gf.2 ⟨s2,rfl⟩
      rw [show (false || (some m).isNone) = false from rfl,this] at ht;cases ht
   repeat' (first | refine jR ?_ | (refine jo ?_;first | refine jV (dn F F) ?_ | refine aC F ?_ | refine aE F ?_ | refine jD F F F ?_ | refine jC F F F ?_ | refine jV (ay F F) ?_ | refine ae F F F cx_fld F ?_ | (refine aL F F F cx_wa F ?_;rintro _ _ rfl;dsimp only [zA,fA])) | refine aw F F F ?_ | refine ac F F ?_)
   refine aX (vs:=[_,_]) F ⟨aJ F F F F,F,trivial⟩ F sB ⟨Gh.le.refl _,hleft _ oM hno _⟩
  | true =>
   have hb0 : (b || (aQ (s.takeWhile bn) 200).isNone) = false:=by
    cases hb : (b || (aQ (s.takeWhile bn) 200).isNone) with
    | false=>rfl
    | true=>rw [hb,il] at ht;cases ht
   rw [hb0] at ht cx_wa htl
   rw [hb0]
   simp only [Bool.or_eq_false_iff] at hb0
   obtain ⟨hb,hnn⟩:=hb0
   obtain ⟨m,hm⟩ : ∃ m,aQ (s.takeWhile bn) 200 = some m:=by
    cases hm : aQ (s.takeWhile bn) 200 with
    | none=>rw [hm] at hnn;cases hnn
    | some m=>exact ⟨m,F⟩
   obtain ⟨s2,hs2⟩:=gf.1 ht
   rw [ht,hs2,gW,Bool.not_true] at cx_wa
   have hdig : 1 ≤ (s.takeWhile bn).length:=by
    have h3:=(en hm).2.1
    rw [h3];exact gH m
   rw [hs2,List.length_cons] at hwl
   have hfd : ∀ x,aY (rd (al qs) n) t s = some x ↔ (rd (al qs) n (ab t.fields j).kind s2).map (fun x=>((ab t.fields j,x.1),x.2)) = some x:=fun x=>by
    rw [mq hm (d:=ab t.fields j) (by rw [← hnum m hm,hft]) hs2]
   have hkd:=hkf (ab t.fields j) (bC hj)
   have cx_vl:=hV G r (ab t.fields j).kind s2 false hS hkd oM oM
   rw [hs2]
   repeat' (first | refine jR ?_ | (refine jo ?_;first | refine jL fun _=>?_ | refine jV (dn F F) ?_ | refine aC F ?_ | (refine jV (gi F F aS ?_ F F) ?_;focus omega) | refine aE F ?_ | refine jC F F F ?_ | refine ae F F F cx_fld F ?_ | (refine aL F F F cx_wa F ?_;rintro _ _ rfl;dsimp only [zA,fA]) | (refine eR F F F cx_vl F ?_;rintro _ G1 _ hle ⟨u1,c1,t1,b1,rfl,hrep,rfl,hP⟩;dsimp only [zA,fA];skip)) | refine aw F F F ?_ | refine ad F F ?_)
   have hsf1:=hsf.mono hle
   have htag:=(hw.fld _ (bC hj)).tag
   repeat' (first | refine jR ?_ | (refine an (em (id:=7) (tt:=4) F am ?_);refine jW 6 [0,1,2,7] (aa 10 135) ?_;((refine jG (aa 10 143) 3 F (b9 F F aS ?_ F F) ?_;focus omega));(refine jG (aa 10 159) 4 F (bS F F F F) ?_);refine jA 5 F ?_;(refine jF fun _=>?_);refine jK (aa 10 191) ?_;(refine jG (aa 10 255) 6 F (ay F F) ?_);refine jA 8 F ?_;(refine jC F F F ?_);refine jK (aa 10 511) ?_;refine jW 0 [9] (aa 10 1023) ?_;refine jQ ?_))
   rename_i y
   refine Nx.sealC (b:=y) fun G2 hG2 hsy=>?_
   have hsl : aN G2 (.slice (some ⟨y,0,none⟩) 1 1) 4 ([c1] : List VC).length (ag be [c1]):=⟨rfl,.inr ⟨y,0,1,rfl,Nat.le_refl _,hsy⟩⟩
   have hrp : V.rep G2 (.nd 61 [] (ab t.fields j).tag [u1]) ⟨61,[],(ab t.fields j).tag,some ⟨y,0,none⟩,1,1⟩:=d4 dC oM (fun _=>rfl) rfl hsl ⟨c1,[],rfl,aD hG2 hrep,rfl⟩
   obtain ⟨hPl,hP0,hP1⟩:=hP
   have hf2:=fun x=>hfd x
   cases b1 with
   | false =>
    obtain ⟨_,hgood⟩:=hP0 rfl
    have htot:=gB n _ _ _ hgood
    dsimp only at htot
    refine aX (vs:=[_,_]) F ⟨aJ F F F F,F,trivial⟩ F sB ⟨hle.trans hG2,t1,false,F,oM,.inr ⟨j,u1,⟨61,[],(ab t.fields j).tag,some ⟨y,0,none⟩,1,1⟩,hj,F,hrp,hb,oM,fun _=>(hfd _).2 (by rw [hgood];rfl),fun h=>(by cases h)⟩⟩
   | true =>
    obtain ⟨hbad,hto⟩:=hP1 rfl
    have hbad2 : rd (al qs) n (ab t.fields j).kind s2 = none:=by
     rcases hbad with h | h
     ·cases h
     ·exact h
    have hno : aY (rd (al qs) n) t s = none:=by
     cases hx : aY (rd (al qs) n) t s with
     | none=>rfl
     | some x=>have:=(hfd x).1 hx;rw [hbad2] at this;cases this
    refine aX (vs:=[_,_]) F ⟨aJ F F F F,F,trivial⟩ F sB ⟨hle.trans hG2,t1,true,F,oM,.inr ⟨j,u1,⟨61,[],(ab t.fields j).tag,some ⟨y,0,none⟩,1,1⟩,hj,F,hrp,hb,oM,fun h=>(by cases h),fun _=>hno⟩⟩
theorem j3 {c : UInt8} {s : ael} (h : dl [c] s false = false) : ∀ s2,s ≠ c :: s2:=fun s2 e=>by
 have : dl [c] s false = true:=gf.2 ⟨s2,e⟩
 rw [this] at h;cases h
theorem oN {ts : List Ty} {f : ael → ael → Option (V × ael)} {t : Ty} {s : ael} {c : UInt8} (hc : t.sort = 82 ∧ c = 123 ∨ t.sort = 69 ∧ c = 35 ∨ (t.sort ≠ 82 ∧ t.sort ≠ 69) ∧ c = 60) (h : ∀ s2,s ≠ c :: s2) : bA ts f t s = none:=by
 cases s with
 | nil=>rfl
 | cons d r =>
  have hd : d ≠ c:=fun e=>h r (by rw [e])
  unfold bA
  dsimp only
  have hn : ∀ k : Nat,k < 256 → c = UInt8.ofNat k → ¬ d.toNat = k:=fun k hk e h2=>hd (by rw [e,bY h2 hk])
  rcases hc with ⟨h1,h2⟩ | ⟨h1,h2⟩ | ⟨⟨h1,h1'⟩,h2⟩
  ·rw [if_pos h1,if_neg (hn 123 dC h2)]
  ·rw [if_neg oM,if_pos h1,if_neg (hn 35 dC h2)]
  ·rw [if_neg h1,if_neg h1',if_neg (hn 60 dC h2)]
theorem adq {n r sc bt : Nat} {qs : List c8} {t : Ty} {s : ael} {b : Bool} (hT : oJ G bt t) (hw : TyW t) (hso : t.sort = 69) (hs : s.length ≤ n ∧ s.length ≤ 1000) :
  fp aek 149 [Pt r 0,Pt bt 0] G [eQ r sc s b] (je (bA (al qs) (rd (al qs) n) t) r sc s b):=by
 obtain ⟨fv,ln,h1,h2⟩:=hT
 have hfl:=hw.len
 have hso' : (t.sort : Int) = 69:=oM
 have cx_wa:=d7 (G:=G) (r:=r) (sc:=sc) (s:=s) (l:=[35]) (b:=b) ⟨oM,by simp⟩
 cases ht : dl [35] s b with
 | false =>
  rw [ht,hX ht,Bool.not_false] at cx_wa
  have hno : b = true ∨ bA (al qs) (rd (al qs) n) t s = none:=by
   cases b with
   | true=>exact .inl F
   | false=>exact .inr (oN (.inr (.inl ⟨hso,F⟩)) (j3 ht))
  have cx_nu:=mF (G:=G) (r:=r) (sc:=sc) (s:=s) (b:=true) (top:=200) oM
  rw [Bool.true_or] at cx_nu
  have hwl:=eJ bn s
  refine bM [(0,_),(1,_)] Tryz.func149 kR Tryz.ntmps149 F F tU fun B hB hW=>?_
  repeat' (first | refine jR ?_ | (refine jo ?_;first | refine jL fun _=>?_ | refine aC F ?_ | refine jV (aj F F aS F F) ?_ | refine jV (ay F F) ?_ | refine jD F F F ?_ | refine jC F F F ?_ | (refine aL F F F cx_wa F ?_;rintro _ _ rfl;dsimp only [zA,fA]) | (refine aL F F F cx_nu F ?_;rintro _ _ ⟨n1,rfl,⟨hn0,hn1⟩,hnum,rfl⟩;dsimp only [zA,fA])) | refine ac F (aA ‹_›) ?_)
  cases hft : cm t.fields n1 with
  | none =>
   have cx_fld:=jv h1 h2 oM hft
   repeat' (first | refine jR ?_ | (refine jo ?_;first | refine bO F ?_ | refine jD F F F ?_ | refine jC F F F ?_ | refine jV (dn F F) ?_ | refine ae F F F cx_fld F ?_) | refine ac F F ?_)
   refine aX (vs:=[_]) F ⟨aJ F F F F,trivial⟩ F sB ⟨Gh.le.refl _,.nd 69 [] n1 [],⟨69,[],n1,none,0,0⟩,s.dropWhile bn,true,by rw [hso];rfl,da dC ⟨hn0,hn1⟩,rfl,oM,fun h=>(by cases h),fun _=>⟨hno,by simp only [V.tot,V.tots,List.length_nil];omega⟩⟩
  | some d =>
   obtain ⟨j,hj,hjn,hjt,hjd⟩:=gF hft
   obtain ⟨bf,of,cf,rfl,hsf⟩:=h2.expl oM
   have cx_fld:=gM h1 hsf oM hj hjn hjt
   repeat' (first | refine jR ?_ | (refine jo ?_;first | refine bO F ?_ | refine jC F F F ?_ | refine jV (dn F F) ?_ | refine ae F F F cx_fld F ?_) | refine ad F F ?_)
   refine aX (vs:=[_]) F ⟨aJ F F F F,trivial⟩ F sB ⟨Gh.le.refl _,.nd 69 [] n1 [],⟨69,[],n1,none,0,0⟩,s.dropWhile bn,true,by rw [hso];rfl,da dC ⟨hn0,hn1⟩,rfl,oM,fun h=>(by cases h),fun _=>⟨hno,by simp only [V.tot,V.tots,List.length_nil];omega⟩⟩
 | true =>
  have hb : b = false:=by cases b with | true=>rw [il] at ht;cases ht | false=>rfl
  subst hb
  obtain ⟨s1,rfl⟩:=gf.1 ht
  rw [ht,gW,Bool.not_true] at cx_wa
  simp only [List.length_cons] at hs
  have cx_nu:=mF (G:=G) (r:=r) (sc:=sc) (s:=s1) (b:=false) (top:=200) oM
  rw [Bool.false_or] at cx_nu
  have hwl:=eJ bn s1
  have hRT : bA (al qs) (rd (al qs) n) t (35 :: s1) = match cP 200 s1 with
    | none=>none
    | some (n,r)=>if (cm t.fields n).isSome = true then some (.nd 69 [] n [],r) else none:=by
   unfold bA
   dsimp only
   rw [if_neg oM,if_pos hso,if_pos (show (35 : UInt8).toNat = 35 from rfl)]
   cases cP 200 s1 <;> rfl
  cases hnu : aQ (s1.takeWhile bn) 200 with
  | none =>
   have hno : bA (al qs) (rd (al qs) n) t (35 :: s1) = none:=by rw [hRT];unfold cP;rw [hnu];rfl
   rw [hnu] at cx_nu
   refine bM [(0,_),(1,_)] Tryz.func149 kR Tryz.ntmps149 F F tU fun B hB hW=>?_
   repeat' (first | refine jR ?_ | (refine jo ?_;first | refine jL fun _=>?_ | refine aC F ?_ | refine jV (aj F F aS F F) ?_ | refine jV (ay F F) ?_ | refine jD F F F ?_ | refine jC F F F ?_ | (refine aL F F F cx_wa F ?_;rintro _ _ rfl;dsimp only [zA,fA]) | (refine aL F F F cx_nu F ?_;rintro _ _ ⟨n1,rfl,⟨hn0,hn1⟩,hnum,rfl⟩;dsimp only [zA,fA])) | refine ac F (aA ‹_›) ?_)
   cases hft : cm t.fields n1 with
   | none =>
    have cx_fld:=jv h1 h2 oM hft
    repeat' (first | refine jR ?_ | (refine jo ?_;first | refine bO F ?_ | refine jD F F F ?_ | refine jC F F F ?_ | refine jV (dn F F) ?_ | refine ae F F F cx_fld F ?_) | refine ac F F ?_)
    refine aX (vs:=[_]) F ⟨aJ F F F F,trivial⟩ F sB ⟨Gh.le.refl _,.nd 69 [] n1 [],⟨69,[],n1,none,0,0⟩,s1.dropWhile bn,true,by rw [hso];rfl,da dC ⟨hn0,hn1⟩,rfl,by simp only [List.length_cons];omega,fun h=>(by cases h),fun _=>⟨.inr hno,by simp only [V.tot,V.tots,List.length_nil,List.length_cons];omega⟩⟩
   | some d =>
    obtain ⟨j,hj,hjn,hjt,hjd⟩:=gF hft
    obtain ⟨bf,of,cf,rfl,hsf⟩:=h2.expl oM
    have cx_fld:=gM h1 hsf oM hj hjn hjt
    repeat' (first | refine jR ?_ | (refine jo ?_;first | refine bO F ?_ | refine jC F F F ?_ | refine jV (dn F F) ?_ | refine ae F F F cx_fld F ?_) | refine ad F F ?_)
    refine aX (vs:=[_]) F ⟨aJ F F F F,trivial⟩ F sB ⟨Gh.le.refl _,.nd 69 [] n1 [],⟨69,[],n1,none,0,0⟩,s1.dropWhile bn,true,by rw [hso];rfl,da dC ⟨hn0,hn1⟩,rfl,by simp only [List.length_cons];omega,fun h=>(by cases h),fun _=>⟨.inr hno,by simp only [V.tot,V.tots,List.length_nil,List.length_cons];omega⟩⟩
  | some m =>
   rw [hnu] at cx_nu
   have hRT2 : bA (al qs) (rd (al qs) n) t (35 :: s1) = if (cm t.fields m).isSome = true then some (.nd 69 [] m [],s1.dropWhile bn) else none:=by rw [hRT];unfold cP;rw [hnu];rfl
   refine bM [(0,_),(1,_)] Tryz.func149 kR Tryz.ntmps149 F F tU fun B hB hW=>?_
   repeat' (first | refine jR ?_ | (refine jo ?_;first | refine jL fun _=>?_ | refine aC F ?_ | refine jV (aj F F aS F F) ?_ | refine jV (ay F F) ?_ | refine jD F F F ?_ | refine jC F F F ?_ | (refine aL F F F cx_wa F ?_;rintro _ _ rfl;dsimp only [zA,fA]) | (refine aL F F F cx_nu F ?_;rintro _ _ ⟨n1,rfl,⟨hn0,hn1⟩,hnum,rfl⟩;dsimp only [zA,fA])) | refine ac F (aA ‹_›) ?_)
   obtain rfl : n1 = m:=hnum m rfl
   cases hft : cm t.fields n1 with
   | none =>
    rw [hft] at hRT2
    have cx_fld:=jv h1 h2 oM hft
    repeat' (first | refine jR ?_ | (refine jo ?_;first | refine bO F ?_ | refine jD F F F ?_ | refine jC F F F ?_ | refine jV (dn F F) ?_ | refine ae F F F cx_fld F ?_) | refine ac F F ?_)
    refine aX (vs:=[_]) F ⟨aJ F F F F,trivial⟩ F sB ⟨Gh.le.refl _,.nd 69 [] n1 [],⟨69,[],n1,none,0,0⟩,s1.dropWhile bn,true,by rw [hso];rfl,da dC ⟨hn0,hn1⟩,rfl,by simp only [List.length_cons];omega,fun h=>(by cases h),fun _=>⟨.inr hRT2,by simp only [V.tot,V.tots,List.length_nil,List.length_cons];omega⟩⟩
   | some d =>
    rw [hft] at hRT2
    obtain ⟨j,hj,hjn,hjt,hjd⟩:=gF hft
    obtain ⟨bf,of,cf,rfl,hsf⟩:=h2.expl oM
    have cx_fld:=gM h1 hsf oM hj hjn hjt
    repeat' (first | refine jR ?_ | (refine jo ?_;first | refine bO F ?_ | refine jC F F F ?_ | refine jV (dn F F) ?_ | refine ae F F F cx_fld F ?_) | refine ad F F ?_)
    refine aX (vs:=[_]) F ⟨aJ F F F F,trivial⟩ F sB ⟨Gh.le.refl _,.nd 69 [] n1 [],⟨69,[],n1,none,0,0⟩,s1.dropWhile bn,false,by rw [hso];rfl,da dC ⟨hn0,hn1⟩,rfl,by simp only [List.length_cons];omega,fun _=>⟨rfl,hRT2⟩,fun h=>(by cases h)⟩
theorem u7 {G : Gh} {t : Int} {u : V} {c : VC} (h : V.rep G (.nd 61 [] t [u]) c) : ∃ (b o k : Nat) (d : VC),c = ⟨61,[],t,some ⟨b,o,none⟩,1,k⟩ ∧ (0 ≤ t ∧ t ≤ 999999) ∧ bU G b o (ag be [d]) ∧ V.rep G u d ∧ V.rep G (.nd 85 [] t [u]) ⟨85,[],t,some ⟨b,o,none⟩,1,k⟩:=by
 obtain ⟨a,k,cs,rfl,_,ht,_,hcl,hsl,hks⟩:=cU h
 rw [V.reps] at hks
 obtain ⟨d,cs',rfl,hd,hcs⟩:=hks
 rw [V.reps] at hcs
 subst hcs
 obtain ⟨b,o,cap,e,hs⟩:=hsl.expl (by simp)
 simp only [Value.slice.injEq] at e
 obtain ⟨rfl,-,rfl⟩:=e
 exact ⟨b,o,k,d,F,ht,hs,hd,d4 dC ht (fun h=>absurd h dC) F hsl ⟨d,[],F,hd,F⟩⟩
theorem ado {n r sc bt : Nat} {qs : List c8} {t : Ty} {s : ael} {b : Bool} (hV : nQ n sc qs) (hS : ScI G sc qs) (hkf : ∀ d ∈ t.fields,ax (al qs) d.kind = true) (hT : oJ G bt t) (hw : TyW t) (hso : t.sort = 85) (hs : s.length ≤ n ∧ s.length ≤ 1000) :
  fp aek 149 [Pt r 0,Pt bt 0] G [eQ r sc s b] (je (bA (al qs) (rd (al qs) n) t) r sc s b):=by
 obtain ⟨fv,ln,h1,h2⟩:=hT
 have hfl:=hw.len
 have hso' : (t.sort : Int) = 85:=oM
 have hne : 0 < t.fields.length:=List.length_pos_iff.2 (hw.ne oM)
 obtain ⟨bf,of,cf,rfl,hsf⟩:=h2.expl hne
 have cx_wa:=d7 (G:=G) (r:=r) (sc:=sc) (s:=s) (l:=[60]) (b:=b) ⟨oM,by simp⟩
 cases ht : dl [60] s b with
 | false =>
  rw [ht,hX ht,Bool.not_false] at cx_wa
  have hno : b = true ∨ bA (al qs) (rd (al qs) n) t s = none:=by
   cases b with
   | true=>exact .inl F
   | false=>exact .inr (oN (.inr (.inr ⟨oM,F⟩)) (j3 ht))
  have cx_fd:=py (s:=s) (b:=true) (r:=r) hV hS hw hkf h1 h2 (fun _=>⟨rfl,hsf⟩) hs
  refine bM [(0,_),(1,_)] Tryz.func149 kR Tryz.ntmps149 F F tU fun B hB hW=>?_
  repeat' (first | refine jR ?_ | (refine jo ?_;first | refine jL fun _=>?_ | refine jV (aj F F aS F F) ?_ | refine jV (ay F F) ?_ | refine jC F F F ?_ | (refine aL F F F cx_wa F ?_;rintro _ _ rfl;dsimp only [zA,fA]) | (refine eR F F F cx_fd F ?_;rintro _ G1 _ hle ⟨t1,b1,rfl,htl,⟨rfl,rfl,hF⟩ | ⟨j,u1,c1,hj,rfl,hrep,hb0,hto,hg,hbd⟩⟩ <;> (dsimp only [zA,fA];skip))) | refine ac F (aA ‹_›) ?_ | refine ad F (aH oM) ?_)
  ·have cx_wb:=d7 (G:=G1) (r:=r) (sc:=sc) (s:=t1) (l:=[62]) (b:=true) ⟨oM,by simp⟩
   rw [il,jI,Bool.not_false] at cx_wb
   repeat' (first | refine jR ?_ | (refine jo ?_;first | refine bO F ?_ | refine jC F F F ?_ | refine jV (iE F F) ?_ | (refine aL F F F cx_wb F ?_;rintro _ _ rfl;dsimp only [zA,fA])) | refine ad F F ?_)
   refine aX (vs:=[_]) F ⟨aJ F F F F,trivial⟩ F sB ⟨hle,.nd 85 [] 0 [],⟨85,[],0,none,0,0⟩,t1,true,by rw [hso];rfl,da dC dC,rfl,oM,fun h=>(by cases h),fun _=>⟨hno,by simp only [V.tot,V.tots,List.length_nil];omega⟩⟩
  ·cases hb0
 | true =>
  have hb : b = false:=by cases b with | true=>rw [il] at ht;cases ht | false=>rfl
  subst hb
  obtain ⟨s1,rfl⟩:=gf.1 ht
  rw [ht,gW,Bool.not_true] at cx_wa
  simp only [List.length_cons] at hs
  have hRT : bA (al qs) (rd (al qs) n) t (60 :: s1) = match aY (rd (al qs) n) t s1 with
    | none=>none
    | some ((d,v),r)=>match r with
     | []=>none
     | c' :: r'=>if c'.toNat = 62 then some (.nd 85 [] d.tag [v],r') else none:=by
   unfold bA
   dsimp only
   rw [if_neg oM,if_neg oM,if_pos (show (60 : UInt8).toNat = 60 from rfl)]
   cases aY (rd (al qs) n) t s1 <;> rfl
  have cx_fd:=py (s:=s1) (b:=false) (r:=r) hV hS hw hkf h1 h2 (fun _=>⟨rfl,hsf⟩) ⟨oM,oM⟩
  refine bM [(0,_),(1,_)] Tryz.func149 kR Tryz.ntmps149 F F tU fun B hB hW=>?_
  repeat' (first | refine jR ?_ | (refine jo ?_;first | refine jL fun _=>?_ | refine jV (aj F F aS F F) ?_ | refine jV (ay F F) ?_ | refine jC F F F ?_ | (refine aL F F F cx_wa F ?_;rintro _ _ rfl;dsimp only [zA,fA]) | (refine eR F F F cx_fd F ?_;rintro _ G1 _ hle ⟨t1,b1,rfl,htl,⟨rfl,rfl,hF⟩ | ⟨j,u1,c1,hj,rfl,hrep,hb0,hto,hg,hbd⟩⟩ <;> (dsimp only [zA,fA];skip))) | refine ac F (aA ‹_›) ?_ | refine ad F (aH oM) ?_)
  ·have hno : bA (al qs) (rd (al qs) n) t (60 :: s1) = none:=by
    rcases hF with h | h
    ·cases h
    ·rw [hRT,h]
   have cx_wb:=d7 (G:=G1) (r:=r) (sc:=sc) (s:=t1) (l:=[62]) (b:=true) ⟨oM,by simp⟩
   rw [il,jI,Bool.not_false] at cx_wb
   repeat' (first | refine jR ?_ | (refine jo ?_;first | refine bO F ?_ | refine jC F F F ?_ | refine jV (iE F F) ?_ | (refine aL F F F cx_wb F ?_;rintro _ _ rfl;dsimp only [zA,fA])) | refine ad F F ?_)
   refine aX (vs:=[_]) F ⟨aJ F F F F,trivial⟩ F sB ⟨hle,.nd 85 [] 0 [],⟨85,[],0,none,0,0⟩,t1,true,by rw [hso];rfl,da dC dC,rfl,by simp only [List.length_cons];omega,fun h=>(by cases h),fun _=>⟨.inr hno,by simp only [V.tot,V.tots,List.length_nil,List.length_cons];omega⟩⟩
  ·obtain ⟨kb,ko,kc,d,rfl,htg,hsd,hrd,hru⟩:=u7 hrep
   have hsf1:=hsf.mono hle
   cases b1 with
   | true =>
    have hno : bA (al qs) (rd (al qs) n) t (60 :: s1) = none:=by rw [hRT,hbd rfl]
    have cx_wb:=d7 (G:=G1) (r:=r) (sc:=sc) (s:=t1) (l:=[62]) (b:=true) ⟨oM,by simp⟩
    rw [il,jI,Bool.not_false] at cx_wb
    repeat' (first | refine jR ?_ | (refine jo ?_;first | refine jV (iE F F) ?_ | (refine aL F F F cx_wb F ?_;rintro _ _ rfl;dsimp only [zA,fA])) | refine ac F F ?_)
    rename_i x4 x5 _ x6 _
    dsimp only [VC.sl]
    (refine an (ao (id:=25) [.blk x6 (.cells (List.toArray [U8 ((61 : Nat) : Int),S [],I (ab t.fields j).tag,.slice (some ⟨kb,ko,none⟩) 1 kc]) di (0,0))] (by intro y hy;simp only [List.mem_cons,List.not_mem_nil,or_false] at hy ⊢;simp [hy]) am ?_);refine jW 6 [0,1,2,4] (aa 10 23) ?_;((refine jG (aa 10 31) 3 F (b9 F F aS ?_ F F) ?_;focus omega));refine jW 4 [6] (aa 10 95) ?_;(refine jG (aa 10 127) 5 F (aV F F F) ?_);refine jA 7 F ?_;(refine jD F F F ?_);refine jK (aa 10 255) ?_;refine jW 1 [8] (aa 10 511) ?_;refine jA 9 F ?_;(refine jD F F F ?_);refine jK (aa 10 1023) ?_;refine jQ ?_)
    all_goals repeat' (first | refine jR ?_ | (refine jo ?_;first | refine bO F ?_ | refine jC F F F ?_))
    all_goals refine aX (vs:=[_]) F ⟨aJ F F F F,trivial⟩ F sB ⟨hle,.nd 85 [] (ab t.fields j).tag [u1],⟨85,[],(ab t.fields j).tag,some ⟨kb,ko,none⟩,1,kc⟩,t1,true,by rw [hso];rfl,hru,rfl,by simp only [List.length_cons] at *;omega,fun h=>(by cases h),fun _=>⟨.inr hno,by simp only [V.tot,V.tots,List.length_nil,List.length_cons] at *;omega⟩⟩
   | false =>
    have hgd:=hg rfl
    have cx_wb:=d7 (G:=G1) (r:=r) (sc:=sc) (s:=t1) (l:=[62]) (b:=false) ⟨oM,by simp⟩
    cases ht2 : dl [62] t1 false with
    | true =>
     obtain ⟨t2,rfl⟩:=gf.1 ht2
     rw [ht2,gW,Bool.not_true] at cx_wb
     have hgood : bA (al qs) (rd (al qs) n) t (60 :: s1) = some (.nd 85 [] (ab t.fields j).tag [u1],t2):=by
      rw [hRT,hgd];dsimp only;rw [if_pos (show (62 : UInt8).toNat = 62 from rfl)]
     repeat' (first | refine jR ?_ | (refine jo ?_;first | refine jV (iE F F) ?_ | (refine aL F F F cx_wb F ?_;rintro _ _ rfl;dsimp only [zA,fA])) | refine ac F F ?_)
     rename_i x4 x5 _ x6 _
     dsimp only [VC.sl]
     (refine an (ao (id:=25) [.blk x6 (.cells (List.toArray [U8 ((61 : Nat) : Int),S [],I (ab t.fields j).tag,.slice (some ⟨kb,ko,none⟩) 1 kc]) di (0,0))] (by intro y hy;simp only [List.mem_cons,List.not_mem_nil,or_false] at hy ⊢;simp [hy]) am ?_);refine jW 6 [0,1,2,4] (aa 10 23) ?_;((refine jG (aa 10 31) 3 F (b9 F F aS ?_ F F) ?_;focus omega));refine jW 4 [6] (aa 10 95) ?_;(refine jG (aa 10 127) 5 F (aV F F F) ?_);refine jA 7 F ?_;(refine jD F F F ?_);refine jK (aa 10 255) ?_;refine jW 1 [8] (aa 10 511) ?_;refine jA 9 F ?_;(refine jD F F F ?_);refine jK (aa 10 1023) ?_;refine jQ ?_)
     all_goals repeat' (first | refine jR ?_ | (refine jo ?_;first | refine bO F ?_ | refine jC F F F ?_))
     all_goals refine aX (vs:=[_]) F ⟨aJ F F F F,trivial⟩ F sB ⟨hle,.nd 85 [] (ab t.fields j).tag [u1],⟨85,[],(ab t.fields j).tag,some ⟨kb,ko,none⟩,1,kc⟩,t2,false,by rw [hso];rfl,hru,rfl,by simp only [List.length_cons] at *;omega,fun _=>⟨rfl,hgood⟩,fun h=>(by cases h)⟩
    | false =>
     rw [ht2,hX ht2,Bool.not_false] at cx_wb
     have hno : bA (al qs) (rd (al qs) n) t (60 :: s1) = none:=by
      rw [hRT,hgd]
      dsimp only
      cases t1 with
      | nil=>rfl
      | cons e t2 =>
       dsimp only
       rw [if_neg]
       intro h62
       exact j3 ht2 t2 (by rw [show e = 62 from UInt8.toNat_inj.1 h62])
     repeat' (first | refine jR ?_ | (refine jo ?_;first | refine jV (iE F F) ?_ | (refine aL F F F cx_wb F ?_;rintro _ _ rfl;dsimp only [zA,fA])) | refine ac F F ?_)
     rename_i x4 x5 _ x6 _
     dsimp only [VC.sl]
     (refine an (ao (id:=25) [.blk x6 (.cells (List.toArray [U8 ((61 : Nat) : Int),S [],I (ab t.fields j).tag,.slice (some ⟨kb,ko,none⟩) 1 kc]) di (0,0))] (by intro y hy;simp only [List.mem_cons,List.not_mem_nil,or_false] at hy ⊢;simp [hy]) am ?_);refine jW 6 [0,1,2,4] (aa 10 23) ?_;((refine jG (aa 10 31) 3 F (b9 F F aS ?_ F F) ?_;focus omega));refine jW 4 [6] (aa 10 95) ?_;(refine jG (aa 10 127) 5 F (aV F F F) ?_);refine jA 7 F ?_;(refine jD F F F ?_);refine jK (aa 10 255) ?_;refine jW 1 [8] (aa 10 511) ?_;refine jA 9 F ?_;(refine jD F F F ?_);refine jK (aa 10 1023) ?_;refine jQ ?_)
     all_goals repeat' (first | refine jR ?_ | (refine jo ?_;first | refine bO F ?_ | refine jC F F F ?_))
     all_goals refine aX (vs:=[_]) F ⟨aJ F F F F,trivial⟩ F sB ⟨hle,.nd 85 [] (ab t.fields j).tag [u1],⟨85,[],(ab t.fields j).tag,some ⟨kb,ko,none⟩,1,kc⟩,t1,true,by rw [hso];rfl,hru,rfl,by simp only [List.length_cons] at *;omega,fun h=>(by cases h),fun _=>⟨.inr hno,by simp only [V.tot,V.tots,List.length_nil,List.length_cons] at *;omega⟩⟩
theorem eM {ts : List Ty} {f : ael → ael → Option (V × ael)} {t : Ty} {s : ael} {vs : List V} {last : Int} : ∀ {m : Nat},aY f t s = none → ck ts f t m last s vs = none
 | 0,_=>rfl
 | m + 1,h=>by rw [ck,h]
theorem k4 {ts : List Ty} {f : ael → ael → Option (V × ael)} {t : Ty} {s r : ael} {vs : List V} {last : Int} {d : Fld} {v : V} {m : Nat} (h : aY f t s = some ((d,v),r)) (hm : 0 < m) :
  ck ts f t m last s vs = if d.tag ≤ last ∨ v.out = bT ts d then none else match r with
   | []=>none
   | c :: r'=>if c.toNat = 44 then ck ts f t (m - 1) d.tag r' (vs ++ [.nd 61 [] d.tag [v]]) else if c.toNat = 125 then some (vs ++ [.nd 61 [] d.tag [v]],r') else none:=by
 obtain ⟨m,rfl⟩ : ∃ k,m = k + 1:=⟨m - 1,oM⟩
 rw [ck,h];rfl
theorem lh {f : ael → ael → Option (V × ael)} {t : Ty} : aY f t [] = none:=by
 unfold aY cP
 have : aQ (([] : ael).takeWhile bn) 200 = none:=by
  cases h : aQ (([] : ael).takeWhile bn) 200 with
  | none=>rfl
  | some m =>
   have:=(en h).2.1
   have h2:=gH m
   rw [← this] at h2;simp at h2
 rw [this];rfl
theorem adp {n r sc bt : Nat} {qs : List c8} {t : Ty} {s : ael} {b : Bool} (hV : nQ n sc qs) (hS : ScI G sc qs) (hW0 : SchW (al qs)) (hkf : ∀ d ∈ t.fields,ax (al qs) d.kind = true) (hT : oJ G bt t) (hw : TyW t) (hso : t.sort = 82) (hs : s.length ≤ n ∧ s.length ≤ 1000) :
  fp aek 149 [Pt r 0,Pt bt 0] G [eQ r sc s b] (je (bA (al qs) (rd (al qs) n) t) r sc s b):=by
 obtain ⟨fv,ln,h1,h2⟩:=hT
 have hfl:=hw.len
 have hso' : (t.sort : Int) = 82:=oM
 have cx_wa:=d7 (G:=G) (r:=r) (sc:=sc) (s:=s) (l:=[123]) (b:=b) ⟨oM,by simp⟩
 have cx_tk:=iJ (G:=G) (r:=r) (sc:=sc) (s:=eK [123] s b) (l:=[125]) (b:=!dl [123] s b) ⟨by have:=kq (l:=[123]) (s:=s) (b:=b);omega,by simp⟩
 cases ht : dl [123] s b with
 | false =>
  rw [ht,hX ht] at cx_wa cx_tk
  rw [Bool.not_false,il,jI] at cx_tk
  have cx_wb:=d7 (G:=G) (r:=r) (sc:=sc) (s:=s) (l:=[125]) (b:=true) ⟨oM,by simp⟩
  rw [il,jI] at cx_wb
  have hno : b = true ∨ bA (al qs) (rd (al qs) n) t s = none:=by
   cases b with
   | true=>exact .inl F
   | false=>exact .inr (oN (.inl ⟨hso,F⟩) (j3 ht))
  refine bM [(0,_),(1,_)] Tryz.func149 kR Tryz.ntmps149 F F tU fun B hB hW=>?_
  repeat' (first | refine jR ?_ | (refine jo ?_;first | refine jL fun _=>?_ | refine jV (aj F F aS F F) ?_ | refine jV (ay F F) ?_ | refine jC F F F ?_ | (refine aL F F F cx_wa F ?_;rintro _ _ rfl;dsimp only [zA,fA]) | (refine aL F F F cx_tk F ?_;rintro _ _ ⟨rfl,rfl⟩;dsimp only [zA,fA])) | (refine ad F (by first | rfl | (refine decide_eq_false ?_;(omega))) ?_))
  rename_i x4 x5 _
  refine aW (ι:=Unit) (fun i=>True) (fun i=>[(0,Pt r 0),(1,Pt bt 0),(4,Pt x4 0),(5,Pt x5 0),(8,I 0)]) (fun _=>G) (fun i=>[eQ r sc s true,rK x5 [U8 t.sort,S [],I 0,aK],rK x4 [U8 0,S [],I 0,aK]]) (fun i=>0) () ?_ tU F bc (fun i Hi=>?_)
  ·trivial
  repeat' (first | refine jR ?_ | (refine jo ?_;first | refine aC F ?_ | refine bO F ?_ | refine jC F F F ?_ | (refine aL F F F cx_wb F ?_;rintro _ _ rfl;dsimp only [zA,fA])) | refine ad F F ?_)
  refine aX (vs:=[_]) F ⟨aJ F F F F,trivial⟩ F sB ⟨Gh.le.refl _,.nd 82 [] 0 [],⟨82,[],0,none,0,0⟩,s,true,by rw [hso];rfl,da dC dC,rfl,Nat.le_refl _,fun h=>(by cases h),fun _=>⟨hno,by simp only [V.tot,V.tots,List.length_nil];omega⟩⟩
 | true =>
  have hb : b = false:=by cases b with | true=>rw [il] at ht;cases ht | false=>rfl
  subst hb
  obtain ⟨s1,rfl⟩:=gf.1 ht
  rw [ht,gW] at cx_wa cx_tk
  rw [Bool.not_true] at cx_wa cx_tk
  simp only [List.length_cons] at hs
  cases ht2 : dl [125] s1 false with
  | true =>
   obtain ⟨s2,rfl⟩:=gf.1 ht2
   rw [ht2,gW] at cx_tk
   have hgood : bA (al qs) (rd (al qs) n) t (123 :: 125 :: s2) = some (.nd 82 [] 0 [],s2):=by
    unfold bA
    dsimp only
    rw [if_pos hso,if_pos (show (123 : UInt8).toNat = 123 from rfl),if_pos (show (125 : UInt8).toNat = 125 from rfl)]
   refine bM [(0,_),(1,_)] Tryz.func149 kR Tryz.ntmps149 F F tU fun B hB hW=>?_
   repeat' (first | refine jR ?_ | (refine jo ?_;first | refine jL fun _=>?_ | refine bO F ?_ | refine jV (aj F F aS F F) ?_ | refine jV (ay F F) ?_ | refine jC F F F ?_ | (refine aL F F F cx_wa F ?_;rintro _ _ rfl;dsimp only [zA,fA]) | (refine aL F F F cx_tk F ?_;rintro _ _ ⟨rfl,rfl⟩;dsimp only [zA,fA])) | refine ac F F ?_ | refine ad F (aH oM) ?_)
   refine aX (vs:=[_]) F ⟨aJ F F F F,trivial⟩ F sB ⟨Gh.le.refl _,.nd 82 [] 0 [],⟨82,[],0,none,0,0⟩,s2,false,by rw [hso];rfl,da dC dC,rfl,by simp only [List.length_cons];omega,fun _=>⟨rfl,hgood⟩,fun h=>(by cases h)⟩
  | false =>
   rw [ht2,hX ht2] at cx_tk
   have hR : bA (al qs) (rd (al qs) n) t (123 :: s1) = (ck (al qs) (rd (al qs) n) t (s1.length + 1) 0 s1 []).map fun x=>(.nd 82 [] 0 x.1,x.2):=by
    unfold bA
    dsimp only
    rw [if_pos hso,if_pos (show (123 : UInt8).toNat = 123 from rfl)]
    cases s1 with
    | nil=>rw [eM lh];rfl
    | cons e r' =>
     dsimp only
     rw [if_neg]
     intro h93
     exact j3 ht2 r' (by rw [show e = 125 from UInt8.toNat_inj.1 h93])
   refine bM [(0,_),(1,_)] Tryz.func149 kR Tryz.ntmps149 F F tU fun B hB hW=>?_
   repeat' (first | refine jR ?_ | (refine jo ?_;first | refine jL fun _=>?_ | refine jV (aj F F aS F F) ?_ | refine jV (ay F F) ?_ | refine jC F F F ?_ | (refine aL F F F cx_wa F ?_;rintro _ _ rfl;dsimp only [zA,fA]) | (refine aL F F F cx_tk F ?_;rintro _ _ ⟨rfl,rfl⟩;dsimp only [zA,fA])) | (refine ad F (by first | rfl | (refine decide_eq_false ?_;(omega))) ?_))
   rename_i x4 x5 _
   refine Nx.addNil di 4 (Nx.perm (List.Perm.swap _ _ _) ?_)
   refine aW (ι:=List V × List VC × Option Addr × Nat × ael × Nat × Int × Gh) (fun q=>(V.reps q.2.2.2.2.2.2.2 q.1 q.2.1 ∧ Gh.le G q.2.2.2.2.2.2.2) ∧ (ck (al qs) (rd (al qs) n) t (s1.length + 1) 0 s1 [] = ck (al qs) (rd (al qs) n) t q.2.2.2.2.2.1 q.2.2.2.2.2.2.1 q.2.2.2.2.1 q.1 ∧ q.2.2.2.2.1.length < q.2.2.2.2.2.1) ∧ (V.tots q.1 + 100 * q.2.2.2.2.1.length + 100 ≤ 100 * (s1.length + 1) ∧ q.2.2.2.2.1.length ≤ s1.length)) (fun q=>[(0,Pt r 0),(1,Pt bt 0),(4,Pt x4 0),(5,Pt x5 0),(8,I q.2.2.2.2.2.2.1)]) (fun q=>q.2.2.2.2.2.2.2) (fun q=>[eQ r sc q.2.2.2.2.1 false,.acc (.slice q.2.2.1 q.1.length q.2.2.2.1) di 4 q.1.length (ag be q.2.1),rK x5 [U8 t.sort,S [],I 0,.slice q.2.2.1 q.1.length q.2.2.2.1],rK x4 [U8 0,S [],I 0,aK]]) (fun q=>q.2.2.2.2.1.length) ([],[],none,0,s1,s1.length + 1,0,G) ?_ tU F bc (fun q Hq=>?_)
   ·exact ⟨⟨F,Gh.le.refl _⟩,⟨F,by dsimp only;omega⟩,by dsimp only;simp only [V.tots];omega,Nat.le_refl _⟩
   obtain ⟨vs,cs,a,cap,t',m,last,Gq⟩:=q
   dsimp only at Hq ⊢
   obtain ⟨⟨hreps,hgq⟩,⟨hit,htm⟩,hT,htl'⟩:=Hq
   have hcl:=gy hreps
   have hkl:=dq vs
   have hfv : t.fields ≠ [] → ∃ bf of cf,fv = .slice (some ⟨bf,of,none⟩) t.fields.length cf ∧ bU G bf of (ag gG t.fields):=fun h=>by
    obtain ⟨bf,of,cf,e,hs⟩:=h2.expl (List.length_pos_iff.2 h)
    exact ⟨bf,of,cf,e,hs⟩
   obtain ⟨bf,of,cf,hfv⟩ : ∃ bf of cf,t.fields ≠ [] → fv = .slice (some ⟨bf,of,none⟩) t.fields.length cf ∧ bU G bf of (ag gG t.fields):=by
    by_cases h : t.fields = []
    ·exact ⟨0,0,0,fun h'=>absurd h h'⟩
    ·obtain ⟨bf,of,cf,h⟩:=hfv h
     exact ⟨bf,of,cf,fun _=>h⟩
   have cx_fd:=py (s:=t') (b:=false) (r:=r) hV (hS.mono hgq) hw hkf (h1.mono hgq) (h2.mono hgq) (fun h=>⟨(hfv h).1,(hfv h).2.mono hgq⟩) ⟨oM,oM⟩
   repeat' (first | refine jR ?_ | (refine jo ?_;first | refine jL fun _=>?_ | refine aC F ?_ | refine jD F F F ?_ | refine jC F F F ?_ | (refine eR F F F cx_fd F ?_;rintro _ G1 _ hle ⟨t1,b1,rfl,htl,⟨rfl,rfl,hF⟩ | ⟨j,u1,c1,hj,rfl,hrep,hb0,hto,hg,hbd⟩⟩ <;> (dsimp only [zA,fA];skip))) | refine ac F F ?_ | (refine an (ao (id:=9) _ (fun _ h=>h) am ?_);refine jT 23 [0] (aa 24 1) ?_;(refine jG (aa 24 3) 1 F (dn F F) ?_);refine jT 21 [2] (aa 24 7) ?_;(try (first | refine Nx.re (d:=38) (v':=Bo true) F (congrArg Value.bool F) ?_ | refine Nx.re (d:=38) (v':=Bo false) F (congrArg Value.bool F) ?_));refine jT 17 [3,4,5,7] (aa 24 191) ?_;(refine jN (aa 24 255) 6 F ?_);refine jT 15 [8] (aa 24 511) ?_;(refine jG (aa 24 1023) 9 F (bR F F F) ?_);refine jT 13 [10] (aa 24 2047) ?_;(try (refine Nx.re (d:=46) (v':=Bo true) F (congrArg Value.bool F) ?_));refine jT 8 [11,16,17,18,20] (aa 24 1511423) ?_;(refine jN (aa 24 1515519) 12 F ?_);(refine jN (aa 24 1523711) 13 F ?_);(refine jN (aa 24 1540095) 14 F ?_);(refine jN (aa 24 2064383) 19 F ?_);(refine jN (aa 24 2097151) 15 F ?_);(refine jN (aa 24 4194303) 21 F ?_);refine jT 1 [22] (aa 24 8388607) ?_;(refine jG (aa 24 16777215) 23 F (bR F F F) ?_);refine jQ ?_))
   ·have hgl:=hgq.trans hle
    have hno : aY (rd (al qs) n) t t' = none:=by
     rcases hF with h | h
     ·cases h
     ·exact h
    have hit2 : ck (al qs) (rd (al qs) n) t m last t' vs = none:=eM hno
    have cx_wb:=d7 (G:=G1) (r:=r) (sc:=sc) (s:=t1) (l:=[125]) (b:=true) ⟨oM,by simp⟩
    rw [il,jI,Bool.not_false] at cx_wb
    repeat' (first | refine jR ?_ | (refine jo ?_;first | refine bO F ?_ | refine jC F F F ?_ | (refine aL F F F cx_wb F ?_;rintro _ _ rfl;dsimp only [zA,fA])))
    refine Nx.sealS (v:=.slice a vs.length cap) fun G2 hG2 hsl=>?_
    refine aX (vs:=[_]) F ⟨aJ F F F F,trivial⟩ F sB ⟨hgl.trans hG2,.nd 82 [] 0 vs,⟨82,[],0,a,vs.length,cap⟩,t1,true,by rw [hso];rfl,d4 dC dC (fun h=>absurd h dC) rfl (by rw [hcl];exact hsl) (cO (hle.trans hG2) hreps),F,by simp only [List.length_cons];omega,fun h=>(by cases h),fun _=>⟨.inr (by rw [hR,hit,hit2];rfl),by rw [bK];simp only [List.length_cons,List.length_nil];omega⟩⟩
   ·have hgl:=hgq.trans hle
    obtain ⟨kb,ko,kc,d,rfl,htg,hsd,hrd,hru⟩:=u7 hrep
    dsimp only [be,VC.sl]
    have hsf1:=(hfv (fun h=>by rw [h] at hj;simp at hj)).2.mono hgl
    have hS1:=hS.mono hgl
    have cx_pr:=ew (G:=G1) u1.tot (Nat.le_refl _) oM hrd
    have hotl:=vn hrd
    have cx_of:=wG hS1 hW0 hsf1 hj (hkf _ (bC hj))
    have cx_wb:=d7 (G:=G1) (r:=r) (sc:=sc) (s:=t1) (l:=[125]) (b:=true) ⟨oM,by simp⟩
    rw [il,jI,Bool.not_false] at cx_wb
    by_cases hbrk : (ab t.fields j).tag ≤ last ∨ u1.out = bT (al qs) (ab t.fields j)
    ·have hit2 : ck (al qs) (rd (al qs) n) t m last t' vs = none:=by
      cases b1 with
      | true=>exact eM (hbd F)
      | false=>rw [k4 (hg rfl) oM,if_pos hbrk]
     by_cases hlast : (ab t.fields j).tag ≤ last
     ·repeat' (first | refine jR ?_ | (refine jo ?_;first | refine bO F ?_ | refine jD F F F ?_ | refine jC F F F ?_ | (refine aL F F F cx_wb F ?_;rintro _ _ rfl;dsimp only [zA,fA])) | refine ac F F ?_ | (refine an (ao (id:=9) _ (fun _ h=>h) am ?_);refine jT 23 [0] (aa 24 1) ?_;(refine jG (aa 24 3) 1 F (dn F F) ?_);refine jT 21 [2] (aa 24 7) ?_;(try (refine Nx.re (d:=38) (v':=Bo false) F (congrArg Value.bool F) ?_));refine jT 17 [3,4,5,7] (aa 24 191) ?_;((refine jG (aa 24 255) 6 F (b9 F F aS ?_ F F) ?_;focus omega));refine jT 15 [8] (aa 24 511) ?_;(refine jG (aa 24 1023) 9 F (bm F F F) ?_);refine jT 13 [10] (aa 24 2047) ?_;(try (refine Nx.re (d:=46) (v':=Bo true) F (congrArg Value.bool (aA ‹_›)) ?_));refine jT 8 [11,16,17,18,20] (aa 24 1511423) ?_;(refine jN (aa 24 1515519) 12 F ?_);(refine jN (aa 24 1523711) 13 F ?_);(refine jN (aa 24 1540095) 14 F ?_);(refine jN (aa 24 2064383) 19 F ?_);(refine jN (aa 24 2097151) 15 F ?_);(refine jN (aa 24 4194303) 21 F ?_);refine jT 1 [22] (aa 24 8388607) ?_;(refine jG (aa 24 16777215) 23 F (bR F F F) ?_);refine jQ ?_))
      refine Nx.sealS (v:=.slice a vs.length cap) fun G2 hG2 hsl=>?_
      refine aX (vs:=[_]) F ⟨aJ F F F F,trivial⟩ F sB ⟨hgl.trans hG2,.nd 82 [] 0 vs,⟨82,[],0,a,vs.length,cap⟩,t1,true,by rw [hso];rfl,d4 dC dC (fun h=>absurd h dC) rfl (by rw [hcl];exact hsl) (cO (hle.trans hG2) hreps),F,by simp only [List.length_cons];omega,fun h=>(by cases h),fun _=>⟨.inr (by rw [hR,hit,hit2];rfl),by rw [bK];simp only [List.length_cons,List.length_nil];omega⟩⟩
     ·have heq : u1.out = bT (al qs) (ab t.fields j):=by
       rcases hbrk with h | h
       ·exact absurd h hlast
       ·exact h
      repeat' (first | refine jR ?_ | (refine jo ?_;first | refine bO F ?_ | refine jD F F F ?_ | refine jC F F F ?_ | (refine aL F F F cx_wb F ?_;rintro _ _ rfl;dsimp only [zA,fA])) | refine ac F (aA ‹_›) ?_ | (refine an (ao (id:=9) _ (fun _ h=>h) am ?_);refine jT 23 [0] (aa 24 1) ?_;(refine jG (aa 24 3) 1 F (dn F F) ?_);refine jT 21 [2] (aa 24 7) ?_;(try (refine Nx.re (d:=38) (v':=Bo false) F (congrArg Value.bool F) ?_));refine jT 17 [3,4,5,7] (aa 24 191) ?_;((refine jG (aa 24 255) 6 F (b9 F F aS ?_ F F) ?_;focus omega));refine jT 15 [8] (aa 24 511) ?_;(refine jG (aa 24 1023) 9 F (bm F F F) ?_);refine jT 13 [10] (aa 24 2047) ?_;(try (refine Nx.re (d:=46) (v':=Bo false) F (congrArg Value.bool (aH ‹_›)) ?_));refine jT 8 [11,16,17,18,20] (aa 24 1511423) ?_;(refine jG (aa 24 1515519) 12 F (aV F F F) ?_);(refine jG (aa 24 1523711) 13 F (aT F F oM) ?_);((refine jG (aa 24 1540095) 14 F (dJ F F aS ?_) ?_;(focus ((simp only [List.length_append,List.length_cons,List.length_nil,List.length_take];omega);done))));(refine jG (aa 24 2064383) 19 F (aV F F F) ?_);(refine jA 15 F ?_;(refine ae F F F cx_pr F ?_);refine jS (aa 24 2097151) ?_);(refine jA 21 F ?_;(refine ae F F F cx_of F ?_);refine jS (aa 24 4194303) ?_);refine jT 1 [22] (aa 24 8388607) ?_;(refine jG (aa 24 16777215) 23 F (bm F F F) ?_);refine jQ ?_))
      refine Nx.sealS (v:=.slice a vs.length cap) fun G2 hG2 hsl=>?_
      refine aX (vs:=[_]) F ⟨aJ F F F F,trivial⟩ F sB ⟨hgl.trans hG2,.nd 82 [] 0 vs,⟨82,[],0,a,vs.length,cap⟩,t1,true,by rw [hso];rfl,d4 dC dC (fun h=>absurd h dC) rfl (by rw [hcl];exact hsl) (cO (hle.trans hG2) hreps),F,by simp only [List.length_cons];omega,fun h=>(by cases h),fun _=>⟨.inr (by rw [hR,hit,hit2];rfl),by rw [bK];simp only [List.length_cons,List.length_nil];omega⟩⟩
    ·have hlast : ¬ (ab t.fields j).tag ≤ last:=fun h=>hbrk (.inl h)
     have heq : ¬ u1.out = bT (al qs) (ab t.fields j):=fun h=>hbrk (.inr h)
     have hrow : ag be cs ++ [U8 ((61 : Nat) : Int),S [],I (ab t.fields j).tag,.slice (some ⟨kb,ko,none⟩) 1 kc] = ag be (cs ++ [⟨61,[],(ab t.fields j).tag,some ⟨kb,ko,none⟩,1,kc⟩]):=(bX be cs (⟨61,[],(ab t.fields j).tag,some ⟨kb,ko,none⟩,1,kc⟩ : VC)).symm
     have hr2 : V.reps G1 (vs ++ [.nd 61 [] (ab t.fields j).tag [u1]]) (cs ++ [⟨61,[],(ab t.fields j).tag,some ⟨kb,ko,none⟩,1,kc⟩]):=io hrep (cO hle hreps)
     have hvl : (vs ++ [V.nd 61 [] (ab t.fields j).tag [u1]]).length = vs.length + 1:=by simp
     have htu : V.tots (vs ++ [V.nd 61 [] (ab t.fields j).tag [u1]]) = V.tots vs + (20 + u1.tot):=by simp [fI,V.tots,V.tot]
     cases b1 with
     | true =>
      have hit2 : ck (al qs) (rd (al qs) n) t m last t' vs = none:=eM (hbd rfl)
      have cx_tm:=iJ (G:=G1) (r:=r) (sc:=sc) (s:=t1) (l:=[44]) (b:=true) ⟨oM,by simp⟩
      rw [il,jI] at cx_tm
      repeat' (first | refine jR ?_ | (refine jo ?_;first | refine aC F ?_ | (refine jV (b9 F F aS ?_ F F) ?_;focus omega) | refine bO F ?_ | refine jD F F F ?_ | refine jC F F F ?_ | refine jF fun _=>?_ | refine bG F F F F F F F F F oM fun _ _=>?_ | (refine aL F F F cx_wb F ?_;rintro _ _ rfl;dsimp only [zA,fA]) | (refine aL F F F cx_tm F ?_;rintro _ _ ⟨rfl,rfl⟩;dsimp only [zA,fA])) | refine ac F F ?_ | refine ad F (aH ‹_›) ?_ | (refine an (ao (id:=9) _ (fun _ h=>h) am ?_);refine jT 23 [0] (aa 24 1) ?_;(refine jG (aa 24 3) 1 F (dn F F) ?_);refine jT 21 [2] (aa 24 7) ?_;(try (refine Nx.re (d:=38) (v':=Bo false) F (congrArg Value.bool F) ?_));refine jT 17 [3,4,5,7] (aa 24 191) ?_;((refine jG (aa 24 255) 6 F (b9 F F aS ?_ F F) ?_;focus omega));refine jT 15 [8] (aa 24 511) ?_;(refine jG (aa 24 1023) 9 F (bm F F F) ?_);refine jT 13 [10] (aa 24 2047) ?_;(try (refine Nx.re (d:=46) (v':=Bo false) F (congrArg Value.bool (aH ‹_›)) ?_));refine jT 8 [11,16,17,18,20] (aa 24 1511423) ?_;(refine jG (aa 24 1515519) 12 F (aV F F F) ?_);(refine jG (aa 24 1523711) 13 F (aT F F oM) ?_);((refine jG (aa 24 1540095) 14 F (dJ F F aS ?_) ?_;(focus ((simp only [List.length_append,List.length_cons,List.length_nil,List.length_take];omega);done))));(refine jG (aa 24 2064383) 19 F (aV F F F) ?_);(refine jA 15 F ?_;(refine ae F F F cx_pr F ?_);refine jS (aa 24 2097151) ?_);(refine jA 21 F ?_;(refine ae F F F cx_of F ?_);refine jS (aa 24 4194303) ?_);refine jT 1 [22] (aa 24 8388607) ?_;(refine jG (aa 24 16777215) 23 F (bm F F F) ?_);refine jQ ?_))
      rename_i _ y1 yc _
      rw [hrow]
      refine Nx.sealS (v:=.slice (some ⟨y1,0,none⟩) (vs.length + 1) yc) fun G2 hG2 hsl=>?_
      refine aX (vs:=[_]) F ⟨aJ F F F F,trivial⟩ F sB ⟨hgl.trans hG2,.nd 82 [] 0 (vs ++ [.nd 61 [] (ab t.fields j).tag [u1]]),⟨82,[],0,some ⟨y1,0,none⟩,vs.length + 1,yc⟩,t1,true,by rw [hso];rfl,d4 dC dC (fun h=>absurd h dC) hvl.symm (by rw [List.length_append,List.length_singleton,hcl];exact hsl) (cO hG2 hr2),F,by simp only [List.length_cons];omega,fun h=>(by cases h),fun _=>⟨.inr (by rw [hR,hit,hit2];rfl),by rw [bK,htu];simp only [List.length_cons,List.length_nil];omega⟩⟩
     | false =>
      have hst:=k4 (ts:=al qs) (vs:=vs) (last:=last) (m:=m) (hg rfl) oM
      rw [if_neg hbrk] at hst
      have cx_tm:=iJ (G:=G1) (r:=r) (sc:=sc) (s:=t1) (l:=[44]) (b:=false) ⟨oM,by simp⟩
      clear cx_wb
      have cx_wb:=d7 (G:=G1) (r:=r) (sc:=sc) (s:=t1) (l:=[125]) (b:=false) ⟨oM,by simp⟩
      cases ht3 : dl [44] t1 false with
      | true =>
       obtain ⟨t2,rfl⟩:=gf.1 ht3
       rw [ht3,gW] at cx_tm
       simp only [List.length_cons] at htl hto
       dsimp only at hst
       rw [if_pos (show (44 : UInt8).toNat = 44 from rfl)] at hst
       have hlt : t2.length < m - 1:=oM
       repeat' (first | refine jR ?_ | (refine jo ?_;first | refine aC F ?_ | (refine jV (b9 F F aS ?_ F F) ?_;focus omega) | refine bO F ?_ | refine jD F F F ?_ | refine jF fun _=>?_ | refine bG F F F F F F F F F oM fun _ _=>?_ | (refine aL F F F cx_tm F ?_;rintro _ _ ⟨rfl,rfl⟩;dsimp only [zA,fA])) | (refine ad F (by first | rfl | (refine decide_eq_false ?_;(assumption))) ?_) | (refine an (ao (id:=9) _ (fun _ h=>h) am ?_);refine jT 23 [0] (aa 24 1) ?_;(refine jG (aa 24 3) 1 F (dn F F) ?_);refine jT 21 [2] (aa 24 7) ?_;(try (refine Nx.re (d:=38) (v':=Bo false) F (congrArg Value.bool F) ?_));refine jT 17 [3,4,5,7] (aa 24 191) ?_;((refine jG (aa 24 255) 6 F (b9 F F aS ?_ F F) ?_;focus omega));refine jT 15 [8] (aa 24 511) ?_;(refine jG (aa 24 1023) 9 F (bm F F F) ?_);refine jT 13 [10] (aa 24 2047) ?_;(try (refine Nx.re (d:=46) (v':=Bo false) F (congrArg Value.bool (aH ‹_›)) ?_));refine jT 8 [11,16,17,18,20] (aa 24 1511423) ?_;(refine jG (aa 24 1515519) 12 F (aV F F F) ?_);(refine jG (aa 24 1523711) 13 F (aT F F oM) ?_);((refine jG (aa 24 1540095) 14 F (dJ F F aS ?_) ?_;(focus ((simp only [List.length_append,List.length_cons,List.length_nil,List.length_take];omega);done))));(refine jG (aa 24 2064383) 19 F (aV F F F) ?_);(refine jA 15 F ?_;(refine ae F F F cx_pr F ?_);refine jS (aa 24 2097151) ?_);(refine jA 21 F ?_;(refine ae F F F cx_of F ?_);refine jS (aa 24 4194303) ?_);refine jT 1 [22] (aa 24 8388607) ?_;(refine jG (aa 24 16777215) 23 F (bm F F F) ?_);refine jQ ?_))
       rename_i _ y1 yc
       rw [hrow]
       exact br (vs ++ [.nd 61 [] (ab t.fields j).tag [u1]],cs ++ [⟨61,[],(ab t.fields j).tag,some ⟨kb,ko,none⟩,1,kc⟩],some ⟨y1,0,none⟩,yc,t2,m - 1,(ab t.fields j).tag,G1) ⟨⟨hr2,hgl⟩,⟨by rw [hit,hst],hlt⟩,by dsimp only;omega,by dsimp only;omega⟩ (by dsimp only;omega) tU rfl (by rw [hvl];repeat (first | exact List.Sublist.refl _ | apply List.Sublist.cons_cons | apply List.Sublist.cons))
      | false =>
       rw [ht3,hX ht3] at cx_tm
       cases ht4 : dl [125] t1 false with
       | true =>
        obtain ⟨t2,rfl⟩:=gf.1 ht4
        rw [ht4,gW,Bool.not_true] at cx_wb
        simp only [List.length_cons] at htl hto
        dsimp only at hst
        rw [if_neg (show ¬ (125 : UInt8).toNat = 44 by decide),if_pos (show (125 : UInt8).toNat = 125 from rfl)] at hst
        have hit2:=hst
        repeat' (first | refine jR ?_ | (refine jo ?_;first | refine aC F ?_ | (refine jV (b9 F F aS ?_ F F) ?_;focus omega) | refine bO F ?_ | refine jD F F F ?_ | refine jC F F F ?_ | refine jF fun _=>?_ | refine bG F F F F F F F F F oM fun _ _=>?_ | (refine aL F F F cx_wb F ?_;rintro _ _ rfl;dsimp only [zA,fA]) | (refine aL F F F cx_tm F ?_;rintro _ _ ⟨rfl,rfl⟩;dsimp only [zA,fA])) | refine ac F F ?_ | refine ad F (aH ‹_›) ?_ | (refine an (ao (id:=9) _ (fun _ h=>h) am ?_);refine jT 23 [0] (aa 24 1) ?_;(refine jG (aa 24 3) 1 F (dn F F) ?_);refine jT 21 [2] (aa 24 7) ?_;(try (refine Nx.re (d:=38) (v':=Bo false) F (congrArg Value.bool F) ?_));refine jT 17 [3,4,5,7] (aa 24 191) ?_;((refine jG (aa 24 255) 6 F (b9 F F aS ?_ F F) ?_;focus omega));refine jT 15 [8] (aa 24 511) ?_;(refine jG (aa 24 1023) 9 F (bm F F F) ?_);refine jT 13 [10] (aa 24 2047) ?_;(try (refine Nx.re (d:=46) (v':=Bo false) F (congrArg Value.bool (aH ‹_›)) ?_));refine jT 8 [11,16,17,18,20] (aa 24 1511423) ?_;(refine jG (aa 24 1515519) 12 F (aV F F F) ?_);(refine jG (aa 24 1523711) 13 F (aT F F oM) ?_);((refine jG (aa 24 1540095) 14 F (dJ F F aS ?_) ?_;(focus ((simp only [List.length_append,List.length_cons,List.length_nil,List.length_take];omega);done))));(refine jG (aa 24 2064383) 19 F (aV F F F) ?_);(refine jA 15 F ?_;(refine ae F F F cx_pr F ?_);refine jS (aa 24 2097151) ?_);(refine jA 21 F ?_;(refine ae F F F cx_of F ?_);refine jS (aa 24 4194303) ?_);refine jT 1 [22] (aa 24 8388607) ?_;(refine jG (aa 24 16777215) 23 F (bm F F F) ?_);refine jQ ?_))
        rename_i _ y1 yc _
        rw [hrow]
        refine Nx.sealS (v:=.slice (some ⟨y1,0,none⟩) (vs.length + 1) yc) fun G2 hG2 hsl=>?_
        refine aX (vs:=[_]) F ⟨aJ F F F F,trivial⟩ F sB ⟨hgl.trans hG2,.nd 82 [] 0 (vs ++ [.nd 61 [] (ab t.fields j).tag [u1]]),⟨82,[],0,some ⟨y1,0,none⟩,vs.length + 1,yc⟩,t2,false,by rw [hso];rfl,d4 dC dC (fun h=>absurd h dC) hvl.symm (by rw [List.length_append,List.length_singleton,hcl];exact hsl) (cO hG2 hr2),F,by simp only [List.length_cons];omega,fun _=>⟨rfl,by rw [hR,hit,hit2];rfl⟩,fun h=>(by cases h)⟩
       | false =>
        rw [ht4,hX ht4,Bool.not_false] at cx_wb
        have hit2 : ck (al qs) (rd (al qs) n) t m last t' vs = none:=by
         rw [hst]
         cases t1 with
         | nil=>rfl
         | cons e t2 =>
          dsimp only
          rw [if_neg,if_neg]
          ·intro h
           exact j3 ht4 t2 (by rw [show e = 125 from UInt8.toNat_inj.1 h])
          ·intro h
           exact j3 ht3 t2 (by rw [show e = 44 from UInt8.toNat_inj.1 h])
        repeat' (first | refine jR ?_ | (refine jo ?_;first | refine aC F ?_ | (refine jV (b9 F F aS ?_ F F) ?_;focus omega) | refine bO F ?_ | refine jD F F F ?_ | refine jC F F F ?_ | refine jF fun _=>?_ | refine bG F F F F F F F F F oM fun _ _=>?_ | (refine aL F F F cx_wb F ?_;rintro _ _ rfl;dsimp only [zA,fA]) | (refine aL F F F cx_tm F ?_;rintro _ _ ⟨rfl,rfl⟩;dsimp only [zA,fA])) | refine ac F F ?_ | refine ad F (aH ‹_›) ?_ | (refine an (ao (id:=9) _ (fun _ h=>h) am ?_);refine jT 23 [0] (aa 24 1) ?_;(refine jG (aa 24 3) 1 F (dn F F) ?_);refine jT 21 [2] (aa 24 7) ?_;(try (refine Nx.re (d:=38) (v':=Bo false) F (congrArg Value.bool F) ?_));refine jT 17 [3,4,5,7] (aa 24 191) ?_;((refine jG (aa 24 255) 6 F (b9 F F aS ?_ F F) ?_;focus omega));refine jT 15 [8] (aa 24 511) ?_;(refine jG (aa 24 1023) 9 F (bm F F F) ?_);refine jT 13 [10] (aa 24 2047) ?_;(try (refine Nx.re (d:=46) (v':=Bo false) F (congrArg Value.bool (aH ‹_›)) ?_));refine jT 8 [11,16,17,18,20] (aa 24 1511423) ?_;(refine jG (aa 24 1515519) 12 F (aV F F F) ?_);(refine jG (aa 24 1523711) 13 F (aT F F oM) ?_);((refine jG (aa 24 1540095) 14 F (dJ F F aS ?_) ?_;(focus ((simp only [List.length_append,List.length_cons,List.length_nil,List.length_take];omega);done))));(refine jG (aa 24 2064383) 19 F (aV F F F) ?_);(refine jA 15 F ?_;(refine ae F F F cx_pr F ?_);refine jS (aa 24 2097151) ?_);(refine jA 21 F ?_;(refine ae F F F cx_of F ?_);refine jS (aa 24 4194303) ?_);refine jT 1 [22] (aa 24 8388607) ?_;(refine jG (aa 24 16777215) 23 F (bm F F F) ?_);refine jQ ?_))
        rename_i _ y1 yc _
        rw [hrow]
        refine Nx.sealS (v:=.slice (some ⟨y1,0,none⟩) (vs.length + 1) yc) fun G2 hG2 hsl=>?_
        refine aX (vs:=[_]) F ⟨aJ F F F F,trivial⟩ F sB ⟨hgl.trans hG2,.nd 82 [] 0 (vs ++ [.nd 61 [] (ab t.fields j).tag [u1]]),⟨82,[],0,some ⟨y1,0,none⟩,vs.length + 1,yc⟩,t1,true,by rw [hso];rfl,d4 dC dC (fun h=>absurd h dC) hvl.symm (by rw [List.length_append,List.length_singleton,hcl];exact hsl) (cO hG2 hr2),F,by simp only [List.length_cons];omega,fun h=>(by cases h),fun _=>⟨.inr (by rw [hR,hit,hit2];rfl),by rw [bK,htu];simp only [List.length_cons,List.length_nil];omega⟩⟩
theorem lG {c : UInt8} {a b d : ael} : a7 aek 63 [Ag [S (c :: a),S b,S d]] G (· = Ag [S a,S b,S d]):=by
 refine jE [(0,_)] Tryz.func63 Tryz.ntmps63 fun B hB=>?_
 repeat' (first | refine jX ?_ | (refine jo ?_;first | refine jO fun _=>?_ | refine jL fun _=>?_ | refine aC F ?_ | refine bO F ?_ | refine jD F F F ?_ | refine jC F F F ?_))
 refine jZ (vs:=[_]) F ⟨aJ F F F F,trivial⟩ F ⟨F,F,?_⟩
 rfl
theorem ic {c : UInt8} {k : ael} (h : c.toNat = 91 ∨ c.toNat = 63) : sg (c :: k) = c :: sg k ∧ bs (c :: k) = bs k ∧ nm (c :: k) = nm k ∧ bV (c :: k) = bV k:=by
 have hc : bV (c :: k) = bV k:=by rw [bV,if_pos h]
 exact ⟨nV h,by unfold bs;rw [hc],by unfold nm;rw [hc],hc⟩
theorem fM {ts : List Ty} {c : UInt8} {k : ael} (hc : c.toNat = 91 ∨ c.toNat = 63) (h : ax ts (c :: k) = true) : ax ts k = true:=by
 unfold ax at h ⊢
 simp only [Bool.and_eq_true] at h ⊢
 obtain ⟨h1,h2⟩:=h
 refine ⟨?_,?_⟩
 ·unfold b7 at h1 ⊢
  simp only [Bool.and_eq_true,decide_eq_true_eq,List.length_cons] at h1 ⊢
  refine ⟨oM,?_⟩
  have:=h1.2
  rw [fm,if_pos hc] at this
  exact this
 ·unfold fu at h2 ⊢
  rw [(ic hc).2.2.2] at h2
  exact h2
theorem s6 {ts : List Ty} {f : ael → ael → Option (V × ael)} {c : UInt8} {k s : ael} (hc : c.toNat = 91) : fO ts f (c :: k) s = fQ (f k) s:=by
 unfold fO fQ
 dsimp only
 rw [if_pos hc]
 cases s <;> rfl
theorem uf {r sc : Nat} {k s : ael} : d9 aek 107 [Pt r 0,Ag [S (sg k),S (bs k),S (nm k)]] G [eQ r sc s true] (fun v L'=>v = zP ∧ L' = [eQ r sc s true]):=by
 refine jH [(0,_),(1,_)] Tryz.func107 Tryz.ntmps107 fun B hB hW=>?_
 repeat' (first | refine jR ?_ | (refine jo ?_;first | refine jO fun _=>?_ | refine jL fun _=>?_ | refine aC F ?_ | refine jV (ay F F) ?_ | refine jC F F F ?_) | refine ac F F ?_)
 refine aX (vs:=[_]) F ⟨aJ F F F F,trivial⟩ F sB ⟨F,F,F⟩
theorem d9.toM {P : Program} {f : FuncId} {args : List Value} {L : List Own} {R : Value → List Own → Prop} {R' : Value → Gh → List Own → Prop} (h : d9 P f args G L R) (hr : ∀ v L',R v L' → R' v G L') : fp P f args G L R' :=
 Fn.mono h fun v G' L' h2=>⟨h2.1 ▸ Gh.le.refl _,h2.1 ▸ hr v L' h2.2⟩
theorem sZ : V.rep G (.nd 0 [] 0 []) ⟨0,[],0,none,0,0⟩:=da dC dC
theorem acg {n r sc : Nat} {qs : List c8} {c : UInt8} {k s : ael} (hc : c = 63) (hV : nQ n sc qs) (hS : ScI G sc qs) (hk : ax (al qs) (c :: k) = true) (hs : s.length < n + 1 ∧ s.length ≤ 1000) :
  fp aek 107 [Pt r 0,Ag (cT (c :: k))] G [eQ r sc s false] (je (rd (al qs) (n + 1) (c :: k)) r sc s false):=by
 subst hc
 have hk2:=fM (.inr rfl) hk
 obtain ⟨e1,e2,e3,_⟩:=ic (c:=63) (k:=k) (.inr rfl)
 have hrd : rd (al qs) (n + 1) (63 :: k) s = match s with
   | []=>none
   | d :: s'=>if d.toNat = 45 then some (.nd 63 [] 0 [],s') else if d.toNat = 43 then (rd (al qs) n k s').map fun x=>(.nd 63 [] 0 [x.1],x.2) else none:=by
  rw [rd];unfold fO
  dsimp only
  rw [if_neg (show ¬ (63 : UInt8).toNat = 91 by decide),if_pos (show (63 : UInt8).toNat = 63 from rfl)]
  cases s <;> rfl
 unfold cT
 rw [e1,e2,e3]
 have cx_sign:=@km G 63 (sg k) (bs k) (nm k)
 have cx_pt:=@lG G 63 (sg k) (bs k) (nm k)
 have cx_tk:=iJ (G:=G) (r:=r) (sc:=sc) (s:=s) (l:=[45]) (b:=false) ⟨oM,by simp⟩
 have cx_wa:=d7 (G:=G) (r:=r) (sc:=sc) (s:=s) (l:=[43]) (b:=false) ⟨oM,by simp⟩
 cases ht : dl [45] s false with
 | true =>
  obtain ⟨s1,rfl⟩:=gf.1 ht
  rw [ht,gW] at cx_tk
  dsimp only at hrd
  rw [if_pos (show (45 : UInt8).toNat = 45 from rfl)] at hrd
  refine bM [(0,_),(1,_)] Tryz.func107 kR Tryz.ntmps107 F F tU fun B hB hW=>?_
  repeat' (first | refine jR ?_ | (refine jo ?_;first | refine jO fun _=>?_ | refine jL fun _=>?_ | refine aC F ?_ | refine bO F ?_ | refine jV (ay F F) ?_ | refine jC F F F ?_ | refine ae F F F cx_sign F ?_ | (refine aL F F F cx_tk F ?_;rintro _ _ ⟨rfl,rfl⟩;dsimp only [zA,fA])) | refine ac F F ?_ | refine ad F F ?_)
  refine aX (vs:=[_]) F ⟨aJ F F F F,trivial⟩ F sB ⟨Gh.le.refl _,.nd 63 [] 0 [],⟨63,[],0,none,0,0⟩,s1,false,F,da dC dC,F,by simp only [List.length_cons];omega,fun _=>⟨rfl,hrd⟩,fun h=>(by cases h)⟩
 | false =>
  rw [ht,hX ht] at cx_tk
  cases ht2 : dl [43] s false with
  | false =>
   rw [ht2,hX ht2,Bool.not_false] at cx_wa
   have hno : rd (al qs) (n + 1) (63 :: k) s = none:=by
    rw [hrd]
    cases s with
    | nil=>rfl
    | cons d s' =>
     dsimp only
     rw [if_neg,if_neg]
     ·intro h;exact j3 ht2 s' (by rw [show d = 43 from UInt8.toNat_inj.1 h])
     ·intro h;exact j3 ht s' (by rw [show d = 45 from UInt8.toNat_inj.1 h])
   refine bM [(0,_),(1,_)] Tryz.func107 kR Tryz.ntmps107 F F tU fun B hB hW=>?_
   repeat' (first | refine jR ?_ | (refine jo ?_;first | refine jO fun _=>?_ | refine jL fun _=>?_ | refine aC F ?_ | refine bO F ?_ | refine ae F F F cx_sign F ?_ | refine ae F F F cx_pt F ?_ | (refine aL F F F cx_tk F ?_;rintro _ _ ⟨rfl,rfl⟩;dsimp only [zA,fA]) | (refine aL F F F cx_wa F ?_;rintro _ _ rfl;dsimp only [zA,fA])) | refine ac F F ?_ | refine ad F F ?_)
   refine jo ?_
   refine aL F F F uf F ?_
   rintro _ _ ⟨rfl,rfl⟩
   dsimp only [zA,fA]
   repeat' (first | refine jR ?_ | (refine jo ?_;first | refine jV (ay F F) ?_ | refine jC F F F ?_ | refine jF fun _=>?_))
   rename_i y
   refine Nx.sealC (b:=y) fun G2 hG2 hsy=>?_
   have hsl : aN G2 (.slice (some ⟨y,0,none⟩) 1 1) 4 ([⟨0,[],0,none,0,0⟩] : List VC).length (ag be [⟨0,[],0,none,0,0⟩]):=⟨rfl,.inr ⟨y,0,1,rfl,Nat.le_refl _,hsy⟩⟩
   refine aX (vs:=[_]) F ⟨aJ F F F F,trivial⟩ F sB ⟨hG2,.nd 63 [] 0 [.nd 0 [] 0 []],⟨63,[],0,some ⟨y,0,none⟩,1,1⟩,s,true,F,d4 dC dC (fun h=>absurd h dC) F hsl ⟨_,[],F,sZ,F⟩,F,Nat.le_refl _,fun h=>(by cases h),fun _=>⟨.inr hno,by simp only [V.tot,V.tots,List.length_nil];omega⟩⟩
  | true =>
   obtain ⟨s1,rfl⟩:=gf.1 ht2
   rw [ht2,gW,Bool.not_true] at cx_wa
   simp only [List.length_cons] at hs
   dsimp only at hrd
   rw [if_neg (show ¬ (43 : UInt8).toNat = 45 by decide),if_pos (show (43 : UInt8).toNat = 43 from rfl)] at hrd
   have cx_vl:=hV G r k s1 false hS hk2 oM oM
   refine bM [(0,_),(1,_)] Tryz.func107 kR Tryz.ntmps107 F F tU fun B hB hW=>?_
   repeat' (first | refine jR ?_ | (refine jo ?_;first | refine jO fun _=>?_ | refine jL fun _=>?_ | refine aC F ?_ | refine bO F ?_ | refine jV (ay F F) ?_ | refine jC F F F ?_ | refine jF fun _=>?_ | refine ae F F F cx_sign F ?_ | refine ae F F F cx_pt F ?_ | (refine aL F F F cx_tk F ?_;rintro _ _ ⟨rfl,rfl⟩;dsimp only [zA,fA]) | (refine aL F F F cx_wa F ?_;rintro _ _ rfl;dsimp only [zA,fA]) | (refine eR F F F cx_vl F ?_;rintro _ G1 _ hle ⟨u1,c1,t1,b1,rfl,hrep,rfl,hP⟩;dsimp only [zA,fA];skip)) | refine ac F F ?_ | refine ad F F ?_)
   rename_i y
   refine Nx.sealC (b:=y) fun G2 hG2 hsy=>?_
   have hsl : aN G2 (.slice (some ⟨y,0,none⟩) 1 1) 4 ([c1] : List VC).length (ag be [c1]):=⟨rfl,.inr ⟨y,0,1,rfl,Nat.le_refl _,hsy⟩⟩
   obtain ⟨hPl,hP0,hP1⟩:=hP
   cases b1 with
   | false =>
    refine aX (vs:=[_]) F ⟨aJ F F F F,trivial⟩ F sB ⟨hle.trans hG2,.nd 63 [] 0 [u1],⟨63,[],0,some ⟨y,0,none⟩,1,1⟩,t1,false,F,d4 dC dC (fun h=>absurd h dC) F hsl ⟨_,[],F,aD hG2 hrep,F⟩,F,by simp only [List.length_cons];omega,fun _=>⟨rfl,by rw [hrd,(hP0 rfl).2];rfl⟩,fun h=>(by cases h)⟩
   | true =>
    obtain ⟨hno,hto⟩:=hP1 rfl
    have hno2 : rd (al qs) n k s1 = none:=by
     rcases hno with h | h
     ·cases h
     ·exact h
    refine aX (vs:=[_]) F ⟨aJ F F F F,trivial⟩ F sB ⟨hle.trans hG2,.nd 63 [] 0 [u1],⟨63,[],0,some ⟨y,0,none⟩,1,1⟩,t1,true,F,d4 dC dC (fun h=>absurd h dC) F hsl ⟨_,[],F,aD hG2 hrep,F⟩,F,by simp only [List.length_cons];omega,fun h=>(by cases h),fun _=>⟨.inr (by rw [hrd,hno2];rfl),by simp only [V.tot,V.tots,List.length_nil,List.length_cons];omega⟩⟩
theorem aci {n r sc : Nat} {qs : List c8} {k s : ael} (hV : nQ n sc qs) (hS : ScI G sc qs) (hk : ax (al qs) (91 :: k) = true) (hs : s.length < n + 1 ∧ s.length ≤ 1000) :
  fp aek 107 [Pt r 0,Ag (cT (91 :: k))] G [eQ r sc s false] (je (rd (al qs) (n + 1) (91 :: k)) r sc s false):=by
 have hk2:=fM (.inl rfl) hk
 obtain ⟨e1,e2,e3,_⟩:=ic (c:=91) (k:=k) (.inl rfl)
 have hrd : rd (al qs) (n + 1) (91 :: k) s = fQ (rd (al qs) n k) s:=by rw [rd];exact s6 F
 unfold cT
 rw [e1,e2,e3]
 have cx_sign:=@km G 91 (sg k) (bs k) (nm k)
 have cx_pt:=@lG G 91 (sg k) (bs k) (nm k)
 have cx_li:=acw (G:=G) (r:=r) (b:=false) hV hS hk2 (s:=s) ⟨oM,oM⟩
 refine bM [(0,_),(1,_)] Tryz.func107 kR Tryz.ntmps107 F F tU fun B hB hW=>?_
 repeat' (first | refine jR ?_ | (refine jo ?_;first | refine jO fun _=>?_ | refine jL fun _=>?_ | refine aC F ?_ | refine bO F ?_ | refine jC F F F ?_ | refine ae F F F cx_sign F ?_ | refine ae F F F cx_pt F ?_ | (refine eR F F F cx_li F ?_;rintro _ G1 _ hle ⟨u1,c1,t1,b1,rfl,hrep,rfl,hP⟩;dsimp only [zA,fA];skip)) | refine ac F F ?_ | refine ad F F ?_)
 obtain ⟨hPl,hP0,hP1⟩:=hP
 refine aX (vs:=[_]) F ⟨aJ F F F F,trivial⟩ F sB ⟨hle,u1,c1,t1,b1,F,hrep,F,hPl,fun h=>⟨F,by rw [hrd];exact (hP0 h).2⟩,fun h=>by rw [hrd];exact hP1 h⟩
theorem eg {ts : List Ty} {c : UInt8} {k : ael} (hk : ax ts (c :: k) = true) (h91 : ¬ (c.toNat = 91 ∨ c.toNat = 63)) (hr : aZ ts (c :: k) = none) : c :: k = [110] ∨ c :: k = [116] ∨ c :: k = [102]:=by
 have hko:=dR hk
 have hcs:=gI (r:=k) h91
 have hrn : cr (bV (c :: k)) = none:=by
  cases hx : cr (bV (c :: k)) with
  | none=>rfl
  | some x =>
   obtain ⟨t,ht⟩:=nw hk (by rw [hx];rfl)
   rw [hcs,hr] at ht;cases ht
 have h:=pA hko hrn
 have h64 : ¬ c.toNat = 64:=by
  intro h64
  rw [hcs] at hrn
  simp [cr,h64] at hrn
 have e : bs (c :: k) = c :: k:=by unfold bs;rw [hcs];simp [qB,h64]
 rwa [e] at h
theorem lY {ts : List Ty} {n : Nat} {s : ael} {c : UInt8} (hc : c = 110 ∨ c = 116 ∨ c = 102) (hr : aZ ts [c] = none) : rd ts (n + 1) [c] s = if c = 110 then (cP 999999 s).map fun x=>(.nd 110 (bi x.1) 0 [],x.2) else if c = 116 then dS s else eX s:=by
 rw [rd];unfold fO
 dsimp only
 rcases hc with rfl | rfl | rfl <;> simp [hr]
theorem ach {n r sc : Nat} {qs : List c8} {s : ael} (hr : aZ (al qs) [110] = none) (hs : s.length ≤ 1000) :
  fp aek 107 [Pt r 0,Ag (cT [110])] G [eQ r sc s false] (je (rd (al qs) (n + 1) [110]) r sc s false):=by
 have hrd:=lY (ts:=al qs) (n:=n) (s:=s) (c:=110) (.inl rfl) hr
 rw [if_pos rfl] at hrd
 have cx_sign:=@fT G [110] []
 have cx_nu:=mF (G:=G) (r:=r) (sc:=sc) (s:=s) (b:=false) (top:=999999) oM
 have hwl:=eJ bn s
 show fp aek 107 [Pt r 0,Ag [S [],S [110],S []]] G [eQ r sc s false] _
 refine bM [(0,_),(1,_)] Tryz.func107 kR Tryz.ntmps107 F F tU fun B hB hW=>?_
 repeat' (first | refine jR ?_ | (refine jo ?_;first | refine jO fun _=>?_ | refine jL fun _=>?_ | refine aC F ?_ | refine bO F ?_ | refine jV (ay F F) ?_ | refine jC F F F ?_ | refine ae F F F cx_sign F ?_ | (refine aL F F F cx_nu F ?_;rintro _ _ ⟨n1,rfl,⟨hn0,hn1⟩,hnum,rfl⟩;dsimp only [zA,fA]) | refine ae F F F (iK oM) F ?_) | refine ac F F ?_ | refine ad F F ?_)
 have hdl:=gT hn1
 cases hm : aQ (s.takeWhile bn) 999999 with
 | none =>
  refine aX (vs:=[_]) F ⟨aJ F F F F,trivial⟩ F sB ⟨Gh.le.refl _,.nd 110 (bi n1) 0 [],⟨110,bi n1,0,none,0,0⟩,s.dropWhile bn,true,F,da dC dC,F,oM,fun h=>(by cases h),fun _=>⟨.inr (by rw [hrd];unfold cP;rw [hm];rfl),by simp only [V.tot,V.tots];omega⟩⟩
 | some m =>
  obtain rfl : n1 = m:=hnum m hm
  refine aX (vs:=[_]) F ⟨aJ F F F F,trivial⟩ F sB ⟨Gh.le.refl _,.nd 110 (bi n1) 0 [],⟨110,bi n1,0,none,0,0⟩,s.dropWhile bn,false,F,da dC dC,F,oM,fun _=>⟨F,by rw [hrd];unfold cP;rw [hm];rfl⟩,fun h=>(by cases h)⟩
theorem acf {n r sc : Nat} {qs : List c8} {s : ael} (hr : aZ (al qs) [116] = none) (hs : s.length ≤ 1000) :
  fp aek 107 [Pt r 0,Ag (cT [116])] G [eQ r sc s false] (je (rd (al qs) (n + 1) [116]) r sc s false):=by
 have hrd:=lY (ts:=al qs) (n:=n) (s:=s) (c:=116) (.inr (.inl rfl)) hr
 rw [if_neg dC,if_pos rfl] at hrd
 have cx_sign:=@fT G [116] []
 have cx_qu:=aaU (G:=G) (r:=r) (sc:=sc) (s:=s) (b:=false) oM
 show fp aek 107 [Pt r 0,Ag [S [],S [116],S []]] G [eQ r sc s false] _
 refine bM [(0,_),(1,_)] Tryz.func107 kR Tryz.ntmps107 F F tU fun B hB hW=>?_
 repeat' (first | refine jR ?_ | (refine jo ?_;first | refine jO fun _=>?_ | refine jL fun _=>?_ | refine aC F ?_ | refine bO F ?_ | refine jV (ay F F) ?_ | refine jC F F F ?_ | refine ae F F F cx_sign F ?_ | (refine aL F F F cx_qu F ?_;rintro _ _ ⟨x1,t1,b1,rfl,hQ,rfl⟩;dsimp only [zA,fA])) | refine ac F F ?_ | refine ad F F ?_)
 obtain ⟨hQl,hQ0,hQ1⟩:=hQ
 refine aX (vs:=[_]) F ⟨aJ F F F F,trivial⟩ F sB ⟨Gh.le.refl _,.nd 116 x1 0 [],⟨116,x1,0,none,0,0⟩,t1,b1,F,da dC dC,F,oM,fun h=>⟨F,by rw [hrd];exact (hQ0 h).2⟩,fun h=>⟨.inr (by rw [hrd];rcases hQ1 h with h | h;cases h;exact h),by simp only [V.tot,V.tots];omega⟩⟩
theorem acj {n r sc : Nat} {qs : List c8} {s : ael} (hr : aZ (al qs) [102] = none) (hs : s.length ≤ 1000) :
  fp aek 107 [Pt r 0,Ag (cT [102])] G [eQ r sc s false] (je (rd (al qs) (n + 1) [102]) r sc s false):=by
 have hrd:=lY (ts:=al qs) (n:=n) (s:=s) (c:=102) (.inr (.inr rfl)) hr
 rw [if_neg dC,if_neg dC] at hrd
 unfold eX at hrd
 have cx_sign:=@fT G [102] []
 have cx_tk:=iJ (G:=G) (r:=r) (sc:=sc) (s:=s) (l:=[121,101,115]) (b:=false) ⟨oM,by simp⟩
 have cx_wa:=d7 (G:=G) (r:=r) (sc:=sc) (s:=s) (l:=[110,111]) (b:=false) ⟨oM,by simp⟩
 have ey : ∀ l : ael,dl l s false = l.isPrefixOf s:=fun l=>by simp [dl]
 have el : ∀ l : ael,l.isPrefixOf s = true → s.length = l.length + (s.drop l.length).length:=fun l h=>by
  have:=qR h
  have h2:=congrArg List.length this
  rwa [List.length_append] at h2
 show fp aek 107 [Pt r 0,Ag [S [],S [102],S []]] G [eQ r sc s false] _
 cases hy : ([121,101,115] : ael).isPrefixOf s with
 | true =>
  have hl : s.length = 3 + (s.drop 3).length:=el _ hy
  unfold eK at cx_tk
  rw [ey,hy,if_pos rfl] at cx_tk
  rw [hy,if_pos rfl] at hrd
  refine bM [(0,_),(1,_)] Tryz.func107 kR Tryz.ntmps107 F F tU fun B hB hW=>?_
  repeat' (first | refine jR ?_ | (refine jo ?_;first | refine jO fun _=>?_ | refine jL fun _=>?_ | refine aC F ?_ | refine bO F ?_ | refine jV (ay F F) ?_ | refine jC F F F ?_ | refine ae F F F cx_sign F ?_ | (refine aL F F F cx_tk F ?_;rintro _ _ ⟨rfl,rfl⟩;dsimp only [zA,fA])) | refine ac F F ?_ | refine ad F F ?_)
  refine aX (vs:=[_]) F ⟨aJ F F F F,trivial⟩ F sB ⟨Gh.le.refl _,.nd 102 [121,101,115] 0 [],⟨102,[121,101,115],0,none,0,0⟩,s.drop 3,false,F,da dC dC,F,oM,fun _=>⟨F,hrd⟩,fun h=>(by cases h)⟩
 | false =>
  have h1 : dl [121,101,115] s false = false:=by rw [ey,hy]
  rw [h1,hX h1] at cx_tk
  rw [hy,if_neg dC] at hrd
  cases hno : ([110,111] : ael).isPrefixOf s with
  | true =>
   have hl : s.length = 2 + (s.drop 2).length:=el _ hno
   unfold eK at cx_wa
   rw [ey,hno,if_pos rfl] at cx_wa
   rw [hno,if_pos rfl] at hrd
   refine bM [(0,_),(1,_)] Tryz.func107 kR Tryz.ntmps107 F F tU fun B hB hW=>?_
   repeat' (first | refine jR ?_ | (refine jo ?_;first | refine jO fun _=>?_ | refine jL fun _=>?_ | refine aC F ?_ | refine bO F ?_ | refine jV (ay F F) ?_ | refine jC F F F ?_ | refine ae F F F cx_sign F ?_ | (refine aL F F F cx_tk F ?_;rintro _ _ ⟨rfl,rfl⟩;dsimp only [zA,fA]) | (refine aL F F F cx_wa F ?_;rintro _ _ rfl;dsimp only [zA,fA])) | refine ac F F ?_ | refine ad F F ?_)
   refine aX (vs:=[_]) F ⟨aJ F F F F,trivial⟩ F sB ⟨Gh.le.refl _,.nd 102 [110,111] 0 [],⟨102,[110,111],0,none,0,0⟩,s.drop 2,false,F,da dC dC,F,oM,fun _=>⟨F,hrd⟩,fun h=>(by cases h)⟩
  | false =>
   have h2 : dl [110,111] s false = false:=by rw [ey,hno]
   rw [h2,hX h2,Bool.not_false] at cx_wa
   rw [hno,if_neg dC] at hrd
   refine bM [(0,_),(1,_)] Tryz.func107 kR Tryz.ntmps107 F F tU fun B hB hW=>?_
   repeat' (first | refine jR ?_ | (refine jo ?_;first | refine jO fun _=>?_ | refine jL fun _=>?_ | refine aC F ?_ | refine bO F ?_ | refine jV (ay F F) ?_ | refine jC F F F ?_ | refine ae F F F cx_sign F ?_ | (refine aL F F F cx_tk F ?_;rintro _ _ ⟨rfl,rfl⟩;dsimp only [zA,fA]) | (refine aL F F F cx_wa F ?_;rintro _ _ rfl;dsimp only [zA,fA])) | refine ac F F ?_ | refine ad F F ?_)
   refine aX (vs:=[_]) F ⟨aJ F F F F,trivial⟩ F sB ⟨Gh.le.refl _,.nd 102 [110,111] 0 [],⟨102,[110,111],0,none,0,0⟩,s,true,F,da dC dC,F,Nat.le_refl _,fun h=>(by cases h),fun _=>⟨.inr hrd,by simp only [V.tot,V.tots,List.length_cons,List.length_nil];omega⟩⟩
theorem ack {n r sc : Nat} {qs : List c8} {c : UInt8} {k s : ael} {t : Ty} (h91 : ¬ (c.toNat = 91 ∨ c.toNat = 63)) (hV : nQ n sc qs) (hS : ScI G sc qs) (hw : SchW (al qs)) (hk : ax (al qs) (c :: k) = true) (hrf : aZ (al qs) (c :: k) = some t) (hs : s.length < n + 1 ∧ s.length ≤ 1000) :
  fp aek 107 [Pt r 0,Ag (cT (c :: k))] G [eQ r sc s false] (je (rd (al qs) (n + 1) (c :: k)) r sc s false):=by
 have hko:=dR hk
 have hsg:=nU (r:=k) h91
 have hcs:=gI (r:=k) h91
 have hrn : (cr (bV (c :: k))).isSome = true:=by
  rw [hcs];unfold aZ at hrf
  cases hx : cr (c :: k) with
  | none=>rw [hx] at hrf;cases hrf
  | some x=>rfl
 have hbs : bs (c :: k) = [64]:=(n7 hko).2 hrn
 have hnm : cr (c :: k) = some (nm (c :: k)):=by
  unfold nm;rw [hcs] at hrn ⊢
  cases hx : cr (c :: k) with
  | none=>rw [hx] at hrn;cases hrn
  | some x=>rfl
 have hft : iG (al qs) (nm (c :: k)) = some t:=by unfold aZ at hrf;rw [hnm] at hrf;exact hrf
 have hkv:=f7 qs (nm (c :: k))
 rw [← i9] at hft
 rcases hfq : fE qs (nm (c :: k)) with _ | ⟨p,t'⟩
 ·rw [hfq] at hft;cases hft
 rw [hfq] at hft hkv
 dsimp only [Option.map_some] at hft hkv
 have htt : t' = t:=Option.some.inj hft
 subst htt
 have hqm:=ju hfq
 have htm:=bj hrf
 have hW:=hw.ty t' htm
 have hT : oJ G p t':=hS.ty _ hqm
 obtain ⟨u,m,g1,g2,g3⟩:=hS.at'
 have hrd : rd (al qs) (n + 1) (c :: k) s = bA (al qs) (rd (al qs) n) t' s:=by
  rw [rd];unfold fO
  dsimp only
  rw [if_neg (fun h=>h91 (.inl h)),if_neg (fun h=>h91 (.inr h)),hrf]
 have cx_ot : fp aek 149 [Pt r 0,Pt p 0] G [eQ r sc s false] (je (bA (al qs) (rd (al qs) n) t') r sc s false):=by
  rcases hW.sort with h | h | h
  ·exact adp hV hS hw (fun d hd=>d6 hw htm oM hd) hT hW h ⟨oM,oM⟩
  ·exact ado hV hS (fun d hd=>d6 hw htm oM hd) hT hW h ⟨oM,oM⟩
  ·exact adq hT hW h ⟨oM,oM⟩
 have cx_sign:=@fT G [64] (nm (c :: k))
 unfold cT
 rw [hsg,hbs]
 clear hft hfq hnm hrn hcs
 refine bM [(0,_),(1,_)] Tryz.func107 kR Tryz.ntmps107 F F tU fun B hB hW=>?_
 repeat' (first | refine jR ?_ | (refine jo ?_;first | refine jO fun _=>?_ | refine jL fun _=>?_ | refine aC F ?_ | refine bO F ?_ | refine ae F F F cx_sign F ?_) | refine ad F F ?_)
 rename_i x3 x4
 (refine an (ao (id:=21) [.blk x3 (.cells (List.toArray [S [],S [64],S (nm (c :: k))]) fJ (0,0))] (by intro y hy;simp only [List.mem_cons,List.not_mem_nil,or_false] at hy ⊢;simp [hy]) am ?_);refine jW 8 [0,1,2,3,8] (aa 13 271) ?_;(refine jG (aa 13 783) 9 F (aV F F F) ?_);refine jA 4 F ?_;(refine aC F ?_);refine jK (aa 13 799) ?_;refine jW 4 [5,6] (aa 13 895) ?_;(refine jG (aa 13 1023) 7 F (aj F F aS F F) ?_);((refine jG (aa 13 2047) 10 F (dh F F (f6 aS) aS F) ?_));refine jA 11 F ?_;(refine eR F F F cx_ot F ?_;rintro _ G1 _ hle ⟨u1,c1,t1,b1,rfl,hrep,rfl,hP⟩;dsimp only [zA,fA];skip);refine jK (aa 13 4095) ?_;refine jA 12 F ?_;(refine jC F F F ?_);refine jK (aa 13 8191) ?_;refine jQ ?_)
 all_goals repeat' (refine jR ?_)
 all_goals (obtain ⟨hPl,hP0,hP1⟩:=hP)
 all_goals refine aX (vs:=[_]) F ⟨aJ F F F F,trivial⟩ F sB ⟨hle,u1,c1,t1,b1,F,hrep,F,hPl,fun h=>⟨F,by rw [hrd];exact (hP0 h).2⟩,fun h=>by rw [hrd];exact hP1 h⟩
theorem sI {sc : Nat} {qs : List c8} (hw : SchW (al qs)) : ∀ n,nQ n sc qs
 | 0=>fun G r k s b _ _ h _=>absurd h (Nat.not_lt_zero _)
 | n + 1=>fun G r k s b hS hk hn hs=>by
  have hV:=sI (sc:=sc) hw n
  cases b with
  | true =>
   exact uf.toM fun v L' ⟨h1,h2⟩=>⟨.nd 0 [] 0 [],⟨0,[],0,none,0,0⟩,s,true,h1,sZ,h2,Nat.le_refl _,fun h=>(by cases h),fun _=>⟨.inl F,by simp only [V.tot,V.tots,List.length_nil];omega⟩⟩
  | false =>
   match k,hk with
   | [],hk=>cases hk
   | c :: k,hk =>
    by_cases h1 : c.toNat = 91
    ·obtain rfl:=bY h1 dC
     exact aci hV hS hk ⟨hn,hs⟩
    by_cases h2 : c.toNat = 63
    ·obtain rfl:=bY h2 dC
     exact acg F hV hS hk ⟨hn,hs⟩
    have h91 : ¬ (c.toNat = 91 ∨ c.toNat = 63):=fun h=>by rcases h with h | h <;> omega
    cases hr : aZ (al qs) (c :: k) with
    | some t=>exact ack h91 hV hS hw hk hr ⟨hn,hs⟩
    | none =>
     rcases eg hk h91 hr with e | e | e
     ·rw [e] at hr ⊢;exact ach hr hs
     ·rw [e] at hr ⊢;exact acf hr hs
     ·rw [e] at hr ⊢;exact acj hr hs
def wfW (w : Nat) (x : ael) (t : Int) (ks : List V) : Prop :=
 (w = 110 ∧ ks = [] ∧ t = 0 ∧ ∃ n : Int,0 ≤ n ∧ n ≤ 999999 ∧ x = bi n ∧ aQ x 999999 = some n)
 ∨ (w = 116 ∧ ks = [] ∧ t = 0 ∧ ec (39 :: (x ++ [39])) = true)
 ∨ (w = 102 ∧ ks = [] ∧ t = 0 ∧ (x = [121,101,115] ∨ x = [110,111]))
 ∨ (w = 91 ∧ x = [] ∧ t = 0 ∧ ks.length ≤ 20 ∧ ∀ v ∈ ks,v.what ≠ 61)
 ∨ (w = 63 ∧ x = [] ∧ t = 0 ∧ ks.length ≤ 1 ∧ ∀ v ∈ ks,v.what ≠ 61)
 ∨ (w = 69 ∧ x = [] ∧ 0 ≤ t ∧ t ≤ 200 ∧ ks = [])
 ∨ (w = 85 ∧ x = [] ∧ 0 ≤ t ∧ t ≤ 200 ∧ ks.length = 1 ∧ ∀ v ∈ ks,v.what ≠ 61)
 ∨ (w = 61 ∧ x = [] ∧ 0 ≤ t ∧ t ≤ 200 ∧ ks.length = 1 ∧ ∀ v ∈ ks,v.what ≠ 61)
 ∨ (w = 82 ∧ x = [] ∧ t = 0 ∧ ks.Pairwise (fun a b=>a.tag < b.tag) ∧ ∀ v ∈ ks,v.what = 61)
mutual
def V.wf : V → Prop
 | .nd w x t ks=>wfW w x t ks ∧ V.wfs ks
def V.wfs : List V → Prop
 | []=>True
 | v :: r=>V.wf v ∧ V.wfs r
end
theorem qI : ∀ {ks : List V},V.wfs ks ↔ ∀ v ∈ ks,v.wf
 | []=>by simp [V.wfs]
 | v :: r=>by rw [V.wfs,qI (ks:=r)];simp
theorem vD : ∀ (s : ael) {n m : Int},0 ≤ n → dA n s = some m → 0 ≤ m
 | [],n,m,h,e=>by simp only [dA,Option.some.injEq] at e;omega
 | c :: s,n,m,h,e=>by
  unfold dA at e
  split at e
  ·exact vD s oM e
  ·cases e
theorem l9 {s : ael} {top n : Int} (h : aQ s top = some n) : 0 ≤ n:=by
 unfold aQ at h
 split at h
 ·split at h
  ·split at h
   ·rename_i h1 _ _ _ h2;simp only [Option.some.injEq] at h;subst h;exact vD _ (Int.le_refl 0) aS
   ·cases h
  ·cases h
 ·cases h
theorem l3 {top : Int} {s r : ael} {n : Int} (h : cP top s = some (n,r)) : 0 ≤ n ∧ n ≤ top ∧ aQ (bi n) top = some n:=by
 unfold cP at h
 cases hn : aQ (s.takeWhile bn) top with
 | none=>rw [hn] at h;cases h
 | some m =>
  rw [hn] at h
  simp only [Option.map_some,Option.some.injEq,Prod.mk.injEq] at h
  obtain ⟨rfl,_⟩:=h
  obtain ⟨h1,h2,_⟩:=en hn
  exact ⟨l9 hn,h1,by rw [← h2];exact hn⟩
theorem lg {f : ael → Option (V × ael)} : ∀ (m : Nat) (s : ael) (acc : List V) {x : List V × ael},bL f m s acc = some x → x.1.length ≤ acc.length + m
 | 0,_,_,_,e=>by cases e
 | m + 1,s,acc,x,e=>by
  unfold bL at e
  cases hf : f s with
  | none=>rw [hf] at e;cases e
  | some y =>
   rw [hf] at e
   obtain ⟨v,r⟩:=y
   cases r with
   | nil=>cases e
   | cons c r =>
    dsimp only at e
    split at e
    ·have:=lg m r _ e
     simp only [List.length_append,List.length_singleton] at this;omega
    ·split at e
     ·simp only [Option.some.injEq] at e;subst e
      simp only [List.length_append,List.length_singleton];omega
     ·cases e
theorem pX {f : ael → ael → Option (V × ael)} {t : Ty} {s : ael} {x : (Fld × V) × ael} (e : aY f t s = some x) : 0 ≤ x.1.1.tag ∧ x.1.1.tag ≤ 200:=by
 unfold aY at e
 cases hn : cP 200 s with
 | none=>rw [hn] at e;cases e
 | some y =>
  rw [hn] at e
  obtain ⟨n,r⟩:=y
  have h1:=l3 hn
  dsimp only at e
  cases hd : cm t.fields n with
  | none=>rw [hd] at e;cases e
  | some d =>
   rw [hd] at e
   have h2 : d.tag = n:=by have:=List.find?_some hd;simpa using this
   cases r with
   | nil=>cases e
   | cons c r' =>
    dsimp only at e
    by_cases hc : c.toNat = 61
    ·rw [if_pos hc] at e
     cases hf : f d.kind r' with
     | none=>rw [hf] at e;cases e
     | some y =>
      rw [hf] at e
      simp only [Option.map_some,Option.some.injEq] at e
      subst e
      dsimp only;omega
    ·rw [if_neg hc] at e;cases e
theorem rt {ts : List Ty} {f : ael → ael → Option (V × ael)} (h : ∀ k s y,f k s = some y → y.1.wf ∧ y.1.what ≠ 61) {t : Ty} : ∀ (m : Nat) (last : Int) (s : ael) (acc : List V) {x : List V × ael},ck ts f t m last s acc = some x → (∀ v ∈ acc,v.wf ∧ v.what = 61 ∧ v.tag ≤ last) → acc.Pairwise (fun a b=>a.tag < b.tag) → (∀ v ∈ x.1,v.wf ∧ v.what = 61) ∧ x.1.Pairwise (fun a b=>a.tag < b.tag)
 | 0,_,_,_,_,e,_,_=>by cases e
 | m + 1,last,s,acc,x,e,ha,hp=>by
  unfold ck at e
  cases hf : aY f t s with
  | none=>rw [hf] at e;cases e
  | some y =>
   rw [hf] at e
   obtain ⟨_,s',hy⟩:=gm hf
   have ht:=pX hf
   obtain ⟨⟨d,v⟩,r⟩:=y
   dsimp only at e hy ht
   obtain ⟨hv1,hv2⟩:=h _ _ _ hy
   dsimp only at hv1 hv2
   split at e
   ·cases e
   ·rename_i hd
    have hd' : last < d.tag:=oM
    have hw : V.wf (.nd 61 [] d.tag [v]):=by
     rw [V.wf]
     refine ⟨.inr (.inr (.inr (.inr (.inr (.inr (.inr (.inl ⟨F,F,ht.1,ht.2,F,?_⟩))))))),?_,trivial⟩
     ·intro u hu;simp only [List.mem_singleton] at hu;subst hu;exact hv2
     ·exact hv1
    have ha2 : ∀ u ∈ acc ++ [V.nd 61 [] d.tag [v]],u.wf ∧ u.what = 61 ∧ u.tag ≤ d.tag:=fun u hu=>by
     rcases List.mem_append.1 hu with hu | hu
     ·obtain ⟨a1,a2,a3⟩:=ha u hu;exact ⟨a1,a2,oM⟩
     ·simp only [List.mem_singleton] at hu;subst hu;exact ⟨hw,F,Int.le_refl _⟩
    have hp2 : (acc ++ [V.nd 61 [] d.tag [v]]).Pairwise (fun a b=>a.tag < b.tag):=by
     rw [List.pairwise_append]
     refine ⟨hp,List.pairwise_singleton _ _,fun a hA b hB=>?_⟩
     simp only [List.mem_singleton] at hB;subst hB
     have:=(ha a hA).2.2
     show a.tag < d.tag
     omega
    cases r with
    | nil=>cases e
    | cons c r =>
     dsimp only at e
     split at e
     ·exact rt h m _ r _ e ha2 hp2
     ·split at e
      ·simp only [Option.some.injEq] at e;subst e
       exact ⟨fun u hu=>⟨(ha2 u hu).1,(ha2 u hu).2.1⟩,hp2⟩
      ·cases e
theorem zz {ts : List Ty} : ∀ (n : Nat) (k s : ael) (x : V × ael),rd ts n k s = some x → x.1.wf ∧ x.1.what ≠ 61
 | 0,_,_,_,e=>by cases e
 | n + 1,k,s,x,e=>by
  have ih : ∀ k s y,rd ts n k s = some y → y.1.wf ∧ y.1.what ≠ 61:=fun k s y hy=>zz n k s y hy
  have h:=qP k s (x:=x) e
  obtain ⟨v,r⟩:=x
  dsimp only at h ⊢
  cases h with
  | lst0=>exact ⟨by rw [V.wf];exact ⟨.inr (.inr (.inr (.inl ⟨F,F,F,by simp,by simp⟩))),trivial⟩,by simp [V.what]⟩
  | lst k s r vs h =>
   have h1:=lg _ _ _ h
   have h2:=jj (p:=fun v=>v.wf ∧ v.what ≠ 61) (fun s y hy=>ih k s y hy) _ _ _ h (by simp)
   refine ⟨by rw [V.wf];exact ⟨.inr (.inr (.inr (.inl ⟨F,F,F,by simpa using h1,fun v hv=>(h2 v hv).2⟩))),qI.2 fun v hv=>(h2 v hv).1⟩,by simp [V.what]⟩
  | non=>exact ⟨by rw [V.wf];exact ⟨.inr (.inr (.inr (.inr (.inl ⟨F,F,F,by simp,by simp⟩)))),trivial⟩,by simp [V.what]⟩
  | opt k s r v h =>
   have h1:=ih _ _ _ h
   have h2 : ∀ u ∈ [v],u.what ≠ 61:=fun u hu=>by simp only [List.mem_singleton] at hu;subst hu;exact h1.2
   exact ⟨by rw [V.wf];exact ⟨.inr (.inr (.inr (.inr (.inl ⟨F,F,F,by simp,h2⟩)))),h1.1,trivial⟩,by simp [V.what]⟩
  | num k s r n _ h =>
   have h1:=l3 h
   exact ⟨by rw [V.wf];exact ⟨.inl ⟨F,F,F,n,h1.1,h1.2.1,F,h1.2.2⟩,trivial⟩,by simp [V.what]⟩
  | txt k s r v _ h =>
   unfold dS at h
   split at h
   ·cases h
   ·split at h
    ·split at h
     ·split at h
      ·rename_i hx
       simp only [Option.some.injEq,Prod.mk.injEq] at h
       obtain ⟨rfl,_⟩:=h
       exact ⟨by rw [V.wf];exact ⟨.inr (.inl ⟨F,F,F,hx⟩),trivial⟩,by simp [V.what]⟩
      ·cases h
     ·cases h
    ·cases h
  | flg k s r v _ h =>
   unfold eX at h
   split at h
   ·simp only [Option.some.injEq,Prod.mk.injEq] at h
    obtain ⟨rfl,_⟩:=h
    exact ⟨by rw [V.wf];exact ⟨.inr (.inr (.inl ⟨F,F,F,.inl F⟩)),trivial⟩,by simp [V.what]⟩
   ·split at h
    ·simp only [Option.some.injEq,Prod.mk.injEq] at h
     obtain ⟨rfl,_⟩:=h
     exact ⟨by rw [V.wf];exact ⟨.inr (.inr (.inl ⟨F,F,F,.inr F⟩)),trivial⟩,by simp [V.what]⟩
    ·cases h
  | recd0=>exact ⟨by rw [V.wf];exact ⟨.inr (.inr (.inr (.inr (.inr (.inr (.inr (.inr ⟨F,F,F,by simp,by simp⟩))))))),trivial⟩,by simp [V.what]⟩
  | recd k s r t vs _ _ h =>
   have h1:=rt ih _ _ _ _ h (by simp) (by simp)
   exact ⟨by rw [V.wf];exact ⟨.inr (.inr (.inr (.inr (.inr (.inr (.inr (.inr ⟨F,F,F,h1.2,fun v hv=>(h1.1 v hv).2⟩))))))),qI.2 fun v hv=>(h1.1 v hv).1⟩,by simp [V.what]⟩
  | enm k s r t n _ _ h _ =>
   have h1:=l3 h
   exact ⟨by rw [V.wf];exact ⟨.inr (.inr (.inr (.inr (.inr (.inl ⟨F,F,h1.1,h1.2.1,F⟩))))),trivial⟩,by simp [V.what]⟩
  | uni k s r t d v _ _ _ h =>
   obtain ⟨_,s',hy⟩:=gm h
   have ht:=pX h
   have h1:=ih _ _ _ hy
   have h2 : ∀ u ∈ [v],u.what ≠ 61:=fun u hu=>by simp only [List.mem_singleton] at hu;subst hu;exact h1.2
   exact ⟨by rw [V.wf];exact ⟨.inr (.inr (.inr (.inr (.inr (.inr (.inl ⟨F,F,ht.1,ht.2,F,h2⟩)))))),h1.1,trivial⟩,by simp [V.what]⟩
theorem yh {ts : List Ty} {k s : ael} {v : V} (h : co ts k s = some v) : v.wf ∧ v.what ≠ 61:=by
 unfold co at h
 split at h
 ·split at h
  ·rename_i hr
   simp only [Option.some.injEq] at h;subst h
   exact zz _ _ _ _ hr
  ·cases h
 ·cases h
abbrev aq (p : Fld × V) : V:=.nd 61 [] p.1.tag [p.2]
inductive OfK (ts : List Ty) : ael → V → Prop
 | num (k : ael) (n : Int) : 0 ≤ n → n ≤ 999999 → OfK ts (110 :: k) (.nd 110 (bi n) 0 [])
 | txt (k x : ael) : ec (39 :: (x ++ [39])) = true → OfK ts (116 :: k) (.nd 116 x 0 [])
 | flg (k x : ael) : x = [121,101,115] ∨ x = [110,111] → OfK ts (102 :: k) (.nd 102 x 0 [])
 | lst (k : ael) (ks : List V) : ks.length ≤ 20 → (∀ v ∈ ks,OfK ts k v) → OfK ts (91 :: k) (.nd 91 [] 0 ks)
 | non (k : ael) : OfK ts (63 :: k) (.nd 63 [] 0 [])
 | opt (k : ael) (v : V) : OfK ts k v → OfK ts (63 :: k) (.nd 63 [] 0 [v])
 | recd (k : ael) (t : Ty) (fs : List (Fld × V)) : aZ ts k = some t → t.sort = 82 → (∀ p ∈ fs,p.1 ∈ t.fields) → (∀ p ∈ fs,OfK ts p.1.kind p.2) → (∀ p ∈ fs,p.2.out ≠ bT ts p.1) → fs.Pairwise (fun a b=>a.1.tag < b.1.tag) → OfK ts k (.nd 82 [] 0 (fs.map aq))
 | enm (k : ael) (t : Ty) (d : Fld) : aZ ts k = some t → t.sort = 69 → d ∈ t.fields → OfK ts k (.nd 69 [] d.tag [])
 | uni (k : ael) (t : Ty) (d : Fld) (v : V) : aZ ts k = some t → t.sort ≠ 82 → t.sort ≠ 69 → d ∈ t.fields → OfK ts d.kind v → OfK ts k (.nd 85 [] d.tag [v])
theorem ru {ts : List Ty} {f : ael → ael → Option (V × ael)} (h : ∀ k s y,f k s = some y → OfK ts k y.1) {t : Ty} : ∀ (m : Nat) (last : Int) (s : ael) (fs : List (Fld × V)) {x : List V × ael},ck ts f t m last s (fs.map aq) = some x → (∀ p ∈ fs,p.1 ∈ t.fields ∧ OfK ts p.1.kind p.2 ∧ p.2.out ≠ bT ts p.1 ∧ p.1.tag ≤ last) → fs.Pairwise (fun a b=>a.1.tag < b.1.tag) →
  ∃ gs : List (Fld × V),x.1 = gs.map aq ∧ (∀ p ∈ gs,p.1 ∈ t.fields ∧ OfK ts p.1.kind p.2 ∧ p.2.out ≠ bT ts p.1) ∧ gs.Pairwise (fun a b=>a.1.tag < b.1.tag)
 | 0,_,_,_,_,e,_,_=>by cases e
 | m + 1,last,s,fs,x,e,ha,hp=>by
  unfold ck at e
  cases hf : aY f t s with
  | none=>rw [hf] at e;cases e
  | some y =>
   rw [hf] at e
   obtain ⟨hd1,s',hy⟩:=gm hf
   obtain ⟨⟨d,v⟩,r⟩:=y
   dsimp only at e hy hd1
   have hv:=h _ _ _ hy
   dsimp only at hv
   split at e
   ·cases e
   ·rename_i hd
    have hd' : last < d.tag:=oM
    have hne : v.out ≠ bT ts d:=fun h=>hd (.inr h)
    have e2 : fs.map aq ++ [V.nd 61 [] d.tag [v]] = (fs ++ [(d,v)]).map aq:=by simp
    have ha2 : ∀ p ∈ fs ++ [(d,v)],p.1 ∈ t.fields ∧ OfK ts p.1.kind p.2 ∧ p.2.out ≠ bT ts p.1 ∧ p.1.tag ≤ d.tag:=fun p hu=>by
     rcases List.mem_append.1 hu with hu | hu
     ·obtain ⟨a1,a2,a3,a4⟩:=ha p hu;exact ⟨a1,a2,a3,oM⟩
     ·simp only [List.mem_singleton] at hu;subst hu;exact ⟨hd1,hv,hne,Int.le_refl _⟩
    have hp2 : (fs ++ [(d,v)]).Pairwise (fun a b=>a.1.tag < b.1.tag):=by
     rw [List.pairwise_append]
     refine ⟨hp,List.pairwise_singleton _ _,fun a hA b hB=>?_⟩
     simp only [List.mem_singleton] at hB;subst hB
     have:=(ha a hA).2.2.2
     show a.1.tag < d.tag
     omega
    rw [e2] at e
    cases r with
    | nil=>cases e
    | cons c r =>
     dsimp only at e
     split at e
     ·exact ru h m _ r _ e ha2 hp2
     ·split at e
      ·simp only [Option.some.injEq] at e;subst e
       exact ⟨_,F,fun p hp=>⟨(ha2 p hp).1,(ha2 p hp).2.1,(ha2 p hp).2.2.1⟩,hp2⟩
      ·cases e
theorem pQ {ts : List Ty} : ∀ (n : Nat) (k s : ael) (x : V × ael),rd ts n k s = some x → OfK ts k x.1
 | 0,_,_,_,e=>by cases e
 | n + 1,k,s,x,e=>by
  have ih : ∀ k s y,rd ts n k s = some y → OfK ts k y.1:=fun k s y hy=>pQ n k s y hy
  have h:=qP k s (x:=x) e
  obtain ⟨v,r⟩:=x
  dsimp only at h ⊢
  cases h with
  | lst0=>exact .lst _ _ (by simp) (by simp)
  | lst k s r vs h =>
   have h1:=lg _ _ _ h
   exact .lst _ _ (by simpa using h1) (jj (p:=fun v=>OfK ts k v) (fun s y hy=>ih k s y hy) _ _ _ h (by simp))
  | non=>exact .non _
  | opt k s r v h=>exact .opt _ _ (ih _ _ _ h)
  | num k s r n _ h=>have h1:=l3 h;exact .num _ _ h1.1 h1.2.1
  | txt k s r v _ h =>
   unfold dS at h
   split at h
   ·cases h
   ·split at h
    ·split at h
     ·split at h
      ·rename_i hx
       simp only [Option.some.injEq,Prod.mk.injEq] at h
       obtain ⟨rfl,_⟩:=h
       exact .txt _ _ hx
      ·cases h
     ·cases h
    ·cases h
  | flg k s r v _ h =>
   unfold eX at h
   split at h
   ·simp only [Option.some.injEq,Prod.mk.injEq] at h
    obtain ⟨rfl,_⟩:=h
    exact .flg _ _ (.inl F)
   ·split at h
    ·simp only [Option.some.injEq,Prod.mk.injEq] at h
     obtain ⟨rfl,_⟩:=h
     exact .flg _ _ (.inr F)
    ·cases h
  | recd0 k r t h1 h2=>exact .recd _ t [] h1 h2 (by simp) (by simp) (by simp) (by simp)
  | recd k s r t vs h1 h2 h =>
   obtain ⟨gs,e1,e2,e3⟩:=ru (fs:=[]) ih _ _ _ h (by simp) (by simp)
   dsimp only at e1
   subst e1
   exact .recd _ t gs h1 h2 (fun p hp=>(e2 p hp).1) (fun p hp=>(e2 p hp).2.1) (fun p hp=>(e2 p hp).2.2) e3
  | enm k s r t n h1 h2 h h3 =>
   obtain ⟨d,hd⟩:=Option.isSome_iff_exists.1 h3
   have hdt : d.tag = n:=by have:=List.find?_some hd;simpa using this
   rw [← hdt]
   exact .enm _ t d h1 h2 (List.mem_of_find?_eq_some hd)
  | uni k s r t d v h1 h2 h3 h =>
   obtain ⟨a1,s',hy⟩:=gm h
   exact .uni _ t d v h1 h2 h3 a1 (ih _ _ _ hy)
theorem c9 {ts : List Ty} {k s : ael} {v : V} (h : co ts k s = some v) : OfK ts k v:=by
 unfold co at h
 split at h
 ·split at h
  ·rename_i hr
   simp only [Option.some.injEq] at h;subst h
   exact pQ _ _ _ _ hr
  ·cases h
 ·cases h
theorem fe {t : Ty} (hw : TyW t) {d d' : Fld} (h1 : d ∈ t.fields) (h2 : d' ∈ t.fields) (he : d.tag = d'.tag) : d = d':=by
 have hp:=hw.asc
 obtain ⟨i,hi,rfl⟩:=List.mem_iff_getElem.1 h1
 obtain ⟨j,hj,rfl⟩:=List.mem_iff_getElem.1 h2
 rw [List.pairwise_iff_getElem] at hp
 rcases Nat.lt_trichotomy i j with h | h | h
 ·have:=(hp i j hi hj h).1;omega
 ·subst h;rfl
 ·have:=(hp j i hj hi h).1;omega
theorem dB {ts : List Ty} {k : ael} {t : Ty} {c : UInt8} {r : ael} (h : aZ ts k = some t) (hk : k = c :: r) (hc : c.toNat ≠ 64) : False:=by
 subst hk
 have : cr (c :: r) = none:=by unfold cr;exact if_neg hc
 unfold aZ at h
 rw [this] at h
 cases h
theorem bE {ts : List Ty} {k : ael} {u : V} {t : Ty} (h : OfK ts k u) (hr : aZ ts k = some t) :
  (t.sort = 82 ∧ ∃ fs : List (Fld × V),u = .nd 82 [] 0 (fs.map aq) ∧ (∀ p ∈ fs,p.1 ∈ t.fields) ∧ (∀ p ∈ fs,OfK ts p.1.kind p.2) ∧ (∀ p ∈ fs,p.2.out ≠ bT ts p.1) ∧ fs.Pairwise (fun a b=>a.1.tag < b.1.tag))
  ∨ (t.sort = 69 ∧ ∃ d,u = .nd 69 [] d.tag [] ∧ d ∈ t.fields) ∨ (t.sort ≠ 82 ∧ t.sort ≠ 69 ∧ ∃ d v,u = .nd 85 [] d.tag [v] ∧ d ∈ t.fields ∧ OfK ts d.kind v):=by
 cases h with
 | num=>exact (dB hr F dC).elim
 | txt=>exact (dB hr F dC).elim
 | flg=>exact (dB hr F dC).elim
 | lst=>exact (dB hr F dC).elim
 | non=>exact (dB hr F dC).elim
 | opt=>exact (dB hr F dC).elim
 | recd _ t' fs g1 g2 g3 g4 g5 g6=>rw [hr] at g1;obtain rfl:=Option.some.inj g1;exact .inl ⟨g2,fs,F,g3,g4,g5,g6⟩
 | enm _ t' d g1 g2 g3=>rw [hr] at g1;obtain rfl:=Option.some.inj g1;exact .inr (.inl ⟨g2,d,F,g3⟩)
 | uni _ t' d v g1 g2 g3 g4 g5=>rw [hr] at g1;obtain rfl:=Option.some.inj g1;exact .inr (.inr ⟨g2,g3,d,v,F,g4,g5⟩)
theorem dg {ts : List Ty} {c : UInt8} {k : ael} {u : V} (h : OfK ts (c :: k) u) (hc : c.toNat ≠ 64) :
  (c.toNat = 110 ∧ ∃ n : Int,0 ≤ n ∧ n ≤ 999999 ∧ u = .nd 110 (bi n) 0 []) ∨ (c.toNat = 116 ∧ ∃ x,ec (39 :: (x ++ [39])) = true ∧ u = .nd 116 x 0 []) ∨ (c.toNat = 102 ∧ ∃ x,(x = [121,101,115] ∨ x = [110,111]) ∧ u = .nd 102 x 0 [])
  ∨ (c.toNat = 91 ∧ ∃ ks,ks.length ≤ 20 ∧ (∀ v ∈ ks,OfK ts k v) ∧ u = .nd 91 [] 0 ks) ∨ (c.toNat = 63 ∧ (u = .nd 63 [] 0 [] ∨ ∃ v,OfK ts k v ∧ u = .nd 63 [] 0 [v])):=by
 generalize hk : c :: k = k' at h
 cases h with
 | num k n h1 h2=>injection hk with e1 e2;subst e1;exact .inl ⟨F,n,h1,h2,F⟩
 | txt k x h1=>injection hk with e1 e2;subst e1;exact .inr (.inl ⟨F,x,h1,F⟩)
 | flg k x h1=>injection hk with e1 e2;subst e1;exact .inr (.inr (.inl ⟨F,x,h1,F⟩))
 | lst k ks h1 h2=>injection hk with e1 e2;subst e1;subst e2;exact .inr (.inr (.inr (.inl ⟨F,ks,h1,h2,F⟩)))
 | non k=>injection hk with e1 e2;subst e1;exact .inr (.inr (.inr (.inr ⟨F,.inl F⟩)))
 | opt k v h1=>injection hk with e1 e2;subst e1;subst e2;exact .inr (.inr (.inr (.inr ⟨F,.inr ⟨v,h1,F⟩⟩)))
 | recd _ t' fs g1=>exact (dB g1 hk.symm hc).elim
 | enm _ t' d g1=>exact (dB g1 hk.symm hc).elim
 | uni _ t' d v g1=>exact (dB g1 hk.symm hc).elim
theorem wW {i : Int} (h : 0 ≤ i ∧ i ≤ 9) : (u8 (48 + i)).toNat = (48 + i).toNat:=by have:=jm (a:=48 + i) oM;omega
theorem rX : ∀ (s : ael) {n m : Int} {c : UInt8},dA n s = some m → 48 ≤ c.toNat ∧ c.toNat ≤ 57 → dA n (s ++ [c]) = some (10 * m + ((c.toNat : Int) - 48))
 | [],n,m,c,h,hc=>by simp only [dA,Option.some.injEq] at h;subst h;simp only [List.nil_append,dA,if_pos hc]
 | d :: s,n,m,c,h,hc=>by
  unfold dA at h
  split at h
  ·rename_i hd
   have:=rX s h hc
   simp only [List.cons_append]
   unfold dA
   rw [if_pos hd];exact this
  ·cases h
theorem iq : ∀ (k : Nat) {m : Int},m.toNat ≤ k → 0 ≤ m → dA 0 (bi m) = some m ∧ ∀ c ∈ bi m,bn c = true:=by
 intro k
 induction k with
 | zero =>
  intro m hk h0
  have : m = 0:=oM
  subst this
  rw [er dC dC]
  exact ⟨by decide,by intro c hc;simp only [List.mem_singleton] at hc;subst hc;decide⟩
 | succ k ih =>
  intro m hk h0
  by_cases h : m < 10
  ·have hd:=wW (i:=m) oM
   have hd2 : bn (u8 (48 + m)) = true:=by unfold bn;rw [decide_eq_true_eq];omega
   rw [er h h0]
   refine ⟨?_,fun c hc=>by simp only [List.mem_singleton] at hc;subst hc;exact hd2⟩
   unfold dA dA
   rw [if_pos oM];congr 1;omega
  ·obtain ⟨h1,h2⟩:=ih (m:=m / 10) oM oM
   have hd:=wW (i:=m % 10) oM
   have hd2 : bn (u8 (48 + m % 10)) = true:=by unfold bn;rw [decide_eq_true_eq];omega
   rw [kl h]
   refine ⟨by rw [rX _ h1 oM];congr 1;omega,fun c hc=>?_⟩
   rcases List.mem_append.1 hc with hc | hc
   ·exact h2 c hc
   ·simp only [List.mem_singleton] at hc;subst hc;exact hd2
theorem kF {m : Int} (h : m ≤ 999999) : (bi m).length ≤ 6:=vE _ 5 oM
theorem gR {m top : Int} (h0 : 0 ≤ m) (h1 : m ≤ top) (ht : top ≤ 999999) : aQ (bi m) top = some m:=by
 unfold aQ
 rw [if_pos (kF oM),(iq _ (Nat.le_refl _) h0).1]
 dsimp only
 rw [if_pos ⟨rfl,h1⟩]
def Dl (s : ael) : Prop:=∀ c r,s = c :: r → bn c = false
theorem kh {c : UInt8} {r : ael} (h : bn c = false) : Dl (c :: r):=fun d s e=>by injection e with e1 e2;subst e1;exact h
theorem lD : Dl []:=fun _ _ e=>by cases e
theorem adi : ∀ {s : ael},Dl s → s.takeWhile bn = [] ∧ s.dropWhile bn = s
 | [],_=>⟨rfl,rfl⟩
 | c :: r,h=>by have:=h c r rfl;rw [List.takeWhile_cons,List.dropWhile_cons,this];exact ⟨F,F⟩
theorem wX {p : UInt8 → Bool} : ∀ {s r : ael},(∀ c ∈ s,p c = true) → (s ++ r).takeWhile p = s ++ r.takeWhile p ∧ (s ++ r).dropWhile p = r.dropWhile p
 | [],_,_=>⟨rfl,rfl⟩
 | c :: s,r,h=>by
  obtain ⟨h1,h2⟩:=wX (s:=s) (r:=r) fun d hd=>h d (by simp [hd])
  have:=h c (by simp)
  rw [List.cons_append,List.takeWhile_cons,List.dropWhile_cons,this,if_pos rfl,if_pos rfl,h1,h2];exact ⟨F,F⟩
theorem oW {m top : Int} {r : ael} (h0 : 0 ≤ m) (h1 : m ≤ top) (ht : top ≤ 999999) (hr : Dl r) : cP top (bi m ++ r) = some (m,r):=by
 obtain ⟨e1,e2⟩:=wX (r:=r) (iq _ (Nat.le_refl _) h0).2
 obtain ⟨e3,e4⟩:=adi hr
 unfold cP
 rw [e1,e2,e3,e4,List.append_nil,gR h0 h1 ht];rfl
theorem acQ {x : ael} (h : ec (39 :: (x ++ [39])) = true) : ∀ j,j < x.length → bt x j ≠ 39:=by
 intro j hj e
 unfold ec at h
 rw [decide_eq_true_eq] at h
 have h1:=h.2.2.2 (j + 1) (by simp;omega)
 rw [eS] at h1
 have h2 : bt (x ++ [39]) j = bt x j:=by simp [bt,List.getD,List.getElem?_append_left hj]
 rw [h2,e] at h1
 rcases h1 with h1 | h1
 ·omega
 ·exact absurd h1 dC
theorem wm {x r : ael} (h : ec (39 :: (x ++ [39])) = true) : dS (39 :: (x ++ 39 :: r)) = some (.nd 116 x 0 [],r):=by
 have hc : aG 39 (x ++ 39 :: r) = (x,r,true):=by
  have h1:=n4 (k:=39) (s:=x ++ 39 :: r) (i:=x.length) (by simp) (fun j hj=>by
   have:=acQ h j hj
   have h2 : bt (x ++ 39 :: r) j = bt x j:=by simp [bt,List.getD,List.getElem?_append_left hj]
   rw [h2];exact this) (by simp [bt,List.getD])
  rw [h1]
  congr 1
  ·exact List.take_left
  ·congr 1
   rw [show x.length + 1 = (x ++ [39]).length by simp,show x ++ 39 :: r = (x ++ [39]) ++ r by simp,List.drop_left]
 unfold dS
 dsimp only
 rw [if_pos dC,hc]
 dsimp only
 rw [if_pos h]
theorem w8 {x r : ael} (h : x = [121,101,115] ∨ x = [110,111]) : eX (x ++ r) = some (.nd 102 x 0 [],r):=by
 unfold eX
 rcases h with rfl | rfl
 ·rw [if_pos (by simp [List.isPrefixOf])];rfl
 ·rw [if_neg (by simp [List.isPrefixOf]),if_pos (by simp [List.isPrefixOf])];rfl
theorem pR {f : ael → Option (V × ael)} {rest : ael} : ∀ (ks : List V) (m : Nat) (acc : List V),ks ≠ [] → ks.length ≤ m → (∀ v ∈ ks,∀ r,Dl r → f (v.out ++ r) = some (v,r)) → bL f m (aR 44 (ks.map V.out) ++ 93 :: rest) acc = some (acc ++ ks,rest)
 | [],_,_,h,_,_=>absurd rfl h
 | [v],m,acc,_,hm,hf=>by
  obtain ⟨m,rfl⟩ : ∃ n,m = n + 1:=⟨m - 1,by simp at hm;omega⟩
  unfold bL
  simp only [List.map_cons,List.map_nil,aR]
  rw [hf v (by simp) _ (kh dC)]
  dsimp only
  rw [if_neg dC,if_pos dC]
 | v :: u :: ks,m,acc,_,hm,hf=>by
  obtain ⟨m,rfl⟩ : ∃ n,m = n + 1:=⟨m - 1,by simp at hm;omega⟩
  have ih:=pR (rest:=rest) (u :: ks) m (acc ++ [v]) (by simp) (by simp at hm ⊢;omega) fun w hw=>hf w (by simp [hw])
  unfold bL
  simp only [List.map_cons,aR,List.append_assoc,List.cons_append] at ih ⊢
  rw [hf v (by simp) _ (kh dC)]
  dsimp only
  rw [if_pos dC,ih]
  simp
theorem i8 {t : Ty} (hw : TyW t) {d : Fld} (h : d ∈ t.fields) : cm t.fields d.tag = some d:=by
 cases e : cm t.fields d.tag with
 | none=>have:=(List.find?_eq_none.1 e) d h;simp at this
 | some d' =>
  have h1 : d'.tag = d.tag:=by have:=List.find?_some e;simpa using this
  rw [fe hw (List.mem_of_find?_eq_some e) h h1]
theorem l4 {f : ael → ael → Option (V × ael)} {t : Ty} (hw : TyW t) {d : Fld} {v : V} {r : ael} (h : d ∈ t.fields) (hf : f d.kind (v.out ++ r) = some (v,r)) : aY f t (bi d.tag ++ 61 :: (v.out ++ r)) = some ((d,v),r):=by
 have ht:=(hw.fld d h).tag
 unfold aY
 rw [oW oM ht.2 dC (kh dC)]
 dsimp only
 rw [i8 hw h]
 dsimp only
 rw [if_pos dC,hf];rfl
theorem rv {ts : List Ty} {f : ael → ael → Option (V × ael)} {t : Ty} (hw : TyW t) {rest : ael} : ∀ (fs : List (Fld × V)) (m : Nat) (last : Int) (acc : List V),fs ≠ [] → fs.length ≤ m → (∀ p ∈ fs,p.1 ∈ t.fields ∧ p.2.out ≠ bT ts p.1 ∧ last < p.1.tag ∧ ∀ r,Dl r → f p.1.kind (p.2.out ++ r) = some (p.2,r)) → fs.Pairwise (fun a b=>a.1.tag < b.1.tag) →
  ck ts f t m last (aR 44 ((fs.map aq).map V.out) ++ 125 :: rest) acc = some (acc ++ fs.map aq,rest)
 | [],_,_,_,h,_,_,_=>absurd rfl h
 | [p],m,last,acc,_,hm,hf,_=>by
  obtain ⟨m,rfl⟩ : ∃ n,m = n + 1:=⟨m - 1,by simp at hm;omega⟩
  obtain ⟨h1,h2,h3,h4⟩:=hf p (by simp)
  unfold ck
  simp only [List.map_cons,List.map_nil,aR,aq,gn,List.append_assoc,List.cons_append]
  rw [l4 hw h1 (h4 _ (kh dC))]
  dsimp only
  rw [if_neg (by rintro (h | h);omega;exact h2 h),if_neg dC,if_pos dC]
 | p :: q :: fs,m,last,acc,_,hm,hf,hp=>by
  obtain ⟨m,rfl⟩ : ∃ n,m = n + 1:=⟨m - 1,by simp at hm;omega⟩
  obtain ⟨h1,h2,h3,h4⟩:=hf p (by simp)
  rw [List.pairwise_cons] at hp
  have ih:=rv (ts:=ts) (f:=f) hw (rest:=rest) (q :: fs) m p.1.tag (acc ++ [aq p]) (by simp) (by simp at hm ⊢;omega) (fun w hw=>⟨(hf w (by simp [hw])).1,(hf w (by simp [hw])).2.1,hp.1 w hw,(hf w (by simp [hw])).2.2.2⟩) hp.2
  unfold ck
  simp only [List.map_cons,aR,gn,List.append_assoc,List.cons_append] at ih ⊢
  rw [l4 hw h1 (h4 _ (kh dC))]
  dsimp only
  rw [if_neg (by rintro (h | h);omega;exact h2 h),if_pos dC,ih]
  simp
theorem r5 {m : Int} (h : 0 ≤ m) : ∃ c r,bi m = c :: r ∧ bn c = true:=by
 cases e : bi m with
 | nil=>have:=gH m;rw [e] at this;simp at this
 | cons c r=>exact ⟨c,r,F,(iq _ (Nat.le_refl _) h).2 c (by rw [e];simp)⟩
theorem wD {c : UInt8} (h : bn c = true) : 48 ≤ c.toNat ∧ c.toNat ≤ 57:=by unfold bn at h;rwa [decide_eq_true_eq] at h
theorem yD {ts : List Ty} {k : ael} {v : V} (h : OfK ts k v) : ∃ c r,v.out = c :: r ∧ c.toNat ≠ 93:=by
 cases h with
 | num k n h1 h2=>obtain ⟨c,r,e,hc⟩:=r5 h1;have:=wD hc;exact ⟨c,r,by rw [V.out];exact e,oM⟩
 | txt k x=>exact ⟨39,_,by rw [V.out];rfl,by decide⟩
 | flg k x h=>rcases h with rfl | rfl;exact ⟨121,_,by rw [V.out];rfl,by decide⟩;exact ⟨110,_,by rw [V.out];rfl,by decide⟩
 | lst=>exact ⟨91,_,by rw [V.out];rfl,by decide⟩
 | non=>exact ⟨45,_,by rw [V.out];rfl,by decide⟩
 | opt=>exact ⟨43,_,by rw [V.out];rfl,by decide⟩
 | recd=>exact ⟨123,_,by rw [V.out];rfl,by decide⟩
 | enm=>exact ⟨35,_,by rw [V.out];rfl,by decide⟩
 | uni=>exact ⟨60,_,by rw [V.out];rfl,by decide⟩
theorem lZ {ts : List Ty} (hw : SchW ts) : ∀ (n : Nat) {k : ael} {v : V},OfK ts k v → v.deep ≤ n → ∀ r,Dl r → rd ts n k (v.out ++ r) = some (v,r)
 | 0,k,v,h,hd,r,hr=>by
  obtain ⟨w,x,t,ks⟩:=v
  have hne : w ≠ 61:=by cases h <;> decide
  rw [eo hne] at hd;omega
 | n + 1,k,v,h,hd,r,hr=>by
  have ih:=fun {k : ael} {v : V}=>lZ hw n (k:=k) (v:=v)
  show fO ts (rd ts n) k (v.out ++ r) = some (v,r)
  cases h with
  | num k m h1 h2 =>
   have e : V.out (.nd 110 (bi m) 0 []) = bi m:=by rw [V.out];rfl
   have hrf : aZ ts (110 :: k) = none:=by cases h : aZ ts (110 :: k) with | none=>rfl | some t=>exact (dB h F dC).elim
   rw [e]
   unfold fO
   try dsimp only
   rw [if_neg dC,if_neg dC,hrf]
   try dsimp only
   rw [if_pos dC,oW h1 h2 dC hr];rfl
  | txt k x h1 =>
   have e : V.out (.nd 116 x 0 []) ++ r = 39 :: (x ++ 39 :: r):=by rw [V.out];simp [c7]
   have hrf : aZ ts (116 :: k) = none:=by cases h : aZ ts (116 :: k) with | none=>rfl | some t=>exact (dB h F dC).elim
   rw [e]
   unfold fO
   try dsimp only
   rw [if_neg dC,if_neg dC,hrf]
   try dsimp only
   rw [if_neg dC,if_pos dC,wm h1]
  | flg k x h1 =>
   have e : V.out (.nd 102 x 0 []) = x:=by rw [V.out];rfl
   have hrf : aZ ts (102 :: k) = none:=by cases h : aZ ts (102 :: k) with | none=>rfl | some t=>exact (dB h F dC).elim
   rw [e]
   unfold fO
   try dsimp only
   rw [if_neg dC,if_neg dC,hrf]
   try dsimp only
   rw [if_neg dC,if_neg dC,if_pos dC,w8 h1]
  | lst k ks h1 h2 =>
   rw [eo dC] at hd
   rw [oZ]
   unfold fO
   try dsimp only
   rw [if_pos dC]
   try dsimp only
   rw [if_pos dC]
   cases ks with
   | nil=>simp only [List.map_nil,aR,List.nil_append];rw [if_pos dC]
   | cons v ks =>
    have hI:=pR (f:=rd ts n k) (rest:=r) (v :: ks) 20 [] (by simp) h1 fun u hu r hr=>ih (h2 u hu) (by have:=V.deep_mem hu;omega) r hr
    obtain ⟨c,s,e1,e2⟩:=yD (h2 v (by simp))
    cases hj : aR 44 ((v :: ks).map V.out) ++ 93 :: r with
    | nil=>simp at hj
    | cons c' s' =>
     have hc' : c' = c:=by
      have : ∃ s2,aR 44 ((v :: ks).map V.out) ++ 93 :: r = c :: s2:=by
       cases ks with
       | nil=>simp only [List.map_cons,List.map_nil,aR,e1,List.cons_append];exact ⟨_,F⟩
       | cons u ks=>simp only [List.map_cons,aR,e1,List.cons_append];exact ⟨_,F⟩
      obtain ⟨s2,h3⟩:=this
      rw [hj] at h3;injection h3
     try dsimp only
     rw [if_neg (by rw [hc'];exact e2),← hj,hI];rfl
  | non k =>
   have e : V.out (.nd 63 [] 0 []) ++ r = 45 :: r:=by rw [V.out];rfl
   rw [e]
   unfold fO
   try dsimp only
   rw [if_neg dC,if_pos dC]
   try dsimp only
   rw [if_pos dC]
  | opt k v h1 =>
   rw [eo dC] at hd
   have hd2 : v.deep ≤ n:=by have:=V.deep_mem (ks:=[v]) (v:=v) (by simp);omega
   rw [vo]
   unfold fO
   try dsimp only
   rw [if_neg dC,if_pos dC]
   try dsimp only
   rw [if_neg dC,if_pos dC,ih h1 hd2 r hr];rfl
  | recd k t fs h1 h2 h3 h4 h5 h6 =>
   rw [eo dC] at hd
   have hk : ∃ k',k = 64 :: k':=by
    cases k with
    | nil=>simp [aZ,cr] at h1
    | cons c k' =>
     by_cases h64 : c.toNat = 64
     ·exact ⟨k',by rw [show c = 64 from UInt8.toNat_inj.1 h64]⟩
     ·exact (dB h1 F h64).elim
   obtain ⟨k',rfl⟩:=hk
   rw [qS]
   unfold fO
   try dsimp only
   rw [if_neg dC,if_neg dC,h1]
   try dsimp only
   unfold bA
   dsimp only
   rw [if_pos h2,if_pos dC]
   cases fs with
   | nil=>simp only [List.map_nil,aR,List.nil_append];rw [if_pos dC]
   | cons p fs =>
    have hlen : (p :: fs).length ≤ (aR 44 (((p :: fs).map aq).map V.out) ++ 125 :: r).length + 1:=by
     have h7 : ∀ xs : List ael,(∀ x ∈ xs,1 ≤ x.length) → xs.length ≤ (aR 44 xs).length:=by
      intro xs
      induction xs with
      | nil=>intro _;simp
      | cons x xs ihx =>
       intro hx
       have hx1:=hx x (by simp)
       have ihx:=ihx fun y hy=>hx y (by simp [hy])
       cases xs with
       | nil=>simp only [aR,List.length_cons,List.length_nil];omega
       | cons y xs=>simp only [aR,List.length_append,List.length_cons] at ihx ⊢;omega
     have h8:=h7 (((p :: fs).map aq).map V.out) (fun x hx=>by
      obtain ⟨v,hv,rfl⟩:=List.mem_map.1 hx
      obtain ⟨q,hq,rfl⟩:=List.mem_map.1 hv
      rw [gn];simp;omega)
     simp only [List.length_map] at h8
     simp only [List.length_append,List.length_cons]
     simp only [List.length_cons] at h8
     omega
    have hI:=rv (ts:=ts) (f:=rd ts n) (hw.ty t (bj h1)) (rest:=r) (p :: fs) ((aR 44 (((p :: fs).map aq).map V.out) ++ 125 :: r).length + 1) 0 [] (by simp) hlen (fun q hq=>⟨h3 q hq,h5 q hq,by have:=((hw.ty t (bj h1)).fld _ (h3 q hq)).tag;omega,fun r hr=>ih (h4 q hq) (by
     have:=V.deep_mem (ks:=(p :: fs).map aq) (v:=aq q) (List.mem_map.2 ⟨q,hq,rfl⟩)
     rw [show V.deep (aq q) = V.deep q.2 from kE] at this
     omega) r hr⟩) h6
    obtain ⟨c,s,e1,e2⟩:=r5 (m:=p.1.tag) (by have:=((hw.ty t (bj h1)).fld _ (h3 p (by simp))).tag;omega)
    have he2:=wD e2
    cases hj : aR 44 (((p :: fs).map aq).map V.out) ++ 125 :: r with
    | nil=>simp at hj
    | cons c' s' =>
     have hc' : c' = c:=by
      have : ∃ s2,aR 44 (((p :: fs).map aq).map V.out) ++ 125 :: r = c :: s2:=by
       cases fs with
       | nil=>simp only [List.map_cons,List.map_nil,aR,gn,e1,List.cons_append];exact ⟨_,F⟩
       | cons u ks=>simp only [List.map_cons,aR,gn,e1,List.cons_append];exact ⟨_,F⟩
      obtain ⟨s2,h3⟩:=this
      rw [hj] at h3;injection h3
     try dsimp only
     rw [if_neg (by rw [hc'];omega),← hj,hI];rfl
  | enm k t d h1 h2 h3 =>
   have hk : ∃ k',k = 64 :: k':=by
    cases k with
    | nil=>simp [aZ,cr] at h1
    | cons c k' =>
     by_cases h64 : c.toNat = 64
     ·exact ⟨k',by rw [show c = 64 from UInt8.toNat_inj.1 h64]⟩
     ·exact (dB h1 F h64).elim
   obtain ⟨k',rfl⟩:=hk
   have ht:=((hw.ty t (bj h1)).fld d h3).tag
   have e : V.out (.nd 69 [] d.tag []) ++ r = 35 :: (bi d.tag ++ r):=by rw [V.out];rfl
   rw [e]
   unfold fO
   try dsimp only
   rw [if_neg dC,if_neg dC,h1]
   try dsimp only
   unfold bA
   dsimp only
   rw [if_neg oM,if_pos h2,if_pos dC,oW oM ht.2 dC hr]
   try dsimp only
   rw [i8 (hw.ty t (bj h1)) h3,if_pos (by simp)]
  | uni k t d v h1 h2 h3 h4 h5 =>
   rw [eo dC] at hd
   have hd2 : v.deep ≤ n:=by have:=V.deep_mem (ks:=[v]) (v:=v) (by simp);omega
   have hk : ∃ k',k = 64 :: k':=by
    cases k with
    | nil=>simp [aZ,cr] at h1
    | cons c k' =>
     by_cases h64 : c.toNat = 64
     ·exact ⟨k',by rw [show c = 64 from UInt8.toNat_inj.1 h64]⟩
     ·exact (dB h1 F h64).elim
   obtain ⟨k',rfl⟩:=hk
   rw [nX]
   unfold fO
   try dsimp only
   rw [if_neg dC,if_neg dC,h1]
   try dsimp only
   unfold bA
   dsimp only
   rw [if_neg h2,if_neg h3,if_pos dC,l4 (hw.ty t (bj h1)) h4 (ih h5 hd2 _ (kh dC))]
   try dsimp only
   rw [if_pos dC]
theorem oL {ts : List Ty} (hw : SchW ts) {k : ael} {v : V} (h : OfK ts k v) (hl : v.out.length ≤ 400) (hd : v.deep ≤ 12) : co ts k v.out = some v:=by
 have h1:=lZ hw 12 h hd [] lD
 rw [List.append_nil] at h1
 unfold co
 rw [if_pos hl,h1]
theorem uI {ts : List Ty} (hw : SchW ts) {k : ael} {v : V} (h : OfK ts k v) (hn : ¬ (v.out.length ≤ 400 ∧ v.deep ≤ 12)) : co ts k v.out = none:=by
 cases hv : co ts k v.out with
 | none=>rfl
 | some u =>
  obtain ⟨h1,h2,h3⟩:=eA hv
  have hu:=c9 hv
  have hd : v.deep ≤ max v.deep 12:=Nat.le_max_left _ _
  have h4:=lZ hw (max v.deep 12) h hd [] lD
  have h5:=lZ hw (max v.deep 12) hu (Nat.le_trans h3 (Nat.le_max_right _ _)) [] lD
  rw [List.append_nil] at h4 h5
  rw [h1,h4] at h5
  have:=(Prod.mk.inj (Option.some.inj h5)).1
  subst this
  exact absurd ⟨h2,h3⟩ hn
theorem dT {ts : List Ty} {k : ael} (h : ax ts k = true) : ∃ c r,k = c :: r:=by
 cases k with
 | nil=>unfold ax b7 fm at h;simp at h
 | cons c r=>exact ⟨c,r,F⟩
theorem zJ {t : Ty} (hw : TyW t) (hs : t.sort ≠ 82) : t.fields.headD default ∈ t.fields:=by
 have:=hw.ne hs
 cases h : t.fields with
 | nil=>exact absurd h this
 | cons d r=>simp
theorem adj : bi 0 = [48]:=by rw [er dC dC];decide
theorem l7 : V.out (.nd 110 (bi 0) 0 []) = [48]:=by rw [V.out];exact adj
theorem we {ts : List Ty} (hw : SchW ts) : ∀ (n : Nat) {k : ael},ax ts k = true → (∀ t,aZ ts k = some t → cq ts n t = true) → ∃ u,OfK ts k u ∧ u.out = bW ts (n + 1) k ∧ u.deep ≤ n + 1 ∧ u.out.length ≤ 30 * (n + 1) ∧ u.size ≤ 1:=by
 intro n
 induction n with
 | zero =>
  intro k hk he
  obtain ⟨c,r,rfl⟩:=dT hk
  unfold bW
  by_cases h91 : c.toNat = 91
  ·obtain rfl:=bY h91 dC
   exact ⟨_,.lst _ [] (by simp) (by simp),by rw [if_pos h91,V.out];rfl,by simp [V.deep,V.deeps],by rw [V.out];decide,by simp [V.size,gr,V.sizes]⟩
  by_cases h63 : c.toNat = 63
  ·obtain rfl:=bY h63 dC
   exact ⟨_,.non _,by rw [if_neg h91,if_pos h63,V.out];rfl,by simp [V.deep,V.deeps],by rw [V.out];decide,by simp [V.size,gr]⟩
  rw [if_neg h91,if_neg h63]
  cases hr : aZ ts (c :: r) with
  | some t=>have:=he t hr;simp [cq] at this
  | none =>
   dsimp only
   rcases eg hk (by rintro (h | h) <;> contradiction) hr with e | e | e
   all_goals rw [e]
   ·exact ⟨_,.num [] 0 dC dC,by rw [l7];decide,by simp [V.deep,V.deeps],by rw [l7];decide,by simp [V.size,gr]⟩
   ·exact ⟨_,.txt [] [] dC,by rw [V.out];decide,by simp [V.deep,V.deeps],by rw [V.out];decide,by simp [V.size,gr]⟩
   ·exact ⟨_,.flg [] _ (.inr F),by rw [V.out];decide,by simp [V.deep,V.deeps],by rw [V.out];decide,by simp [V.size,gr]⟩
 | succ n ih =>
  intro k hk he
  obtain ⟨c,r,rfl⟩:=dT hk
  unfold bW
  by_cases h91 : c.toNat = 91
  ·obtain rfl:=bY h91 dC
   exact ⟨_,.lst _ [] (by simp) (by simp),by rw [if_pos h91,V.out];rfl,by simp [V.deep,V.deeps],by rw [V.out];simp [c7,V.outs,aR];omega,by simp [V.size,gr,V.sizes]⟩
  by_cases h63 : c.toNat = 63
  ·obtain rfl:=bY h63 dC
   exact ⟨_,.non _,by rw [if_neg h91,if_pos h63,V.out];rfl,by simp [V.deep,V.deeps],by rw [V.out];simp [c7];omega,by simp [V.size,gr]⟩
  rw [if_neg h91,if_neg h63]
  cases hr : aZ ts (c :: r) with
  | none =>
   dsimp only
   rcases eg hk (by rintro (h | h) <;> contradiction) hr with e | e | e
   all_goals rw [e]
   ·exact ⟨_,.num [] 0 dC dC,by rw [l7];decide,by simp [V.deep,V.deeps],by rw [l7];simp;omega,by simp [V.size,gr]⟩
   ·exact ⟨_,.txt [] [] dC,by rw [V.out];decide,by simp [V.deep,V.deeps],by rw [V.out];simp [c7];omega,by simp [V.size,gr]⟩
   ·exact ⟨_,.flg [] _ (.inr F),by rw [V.out];decide,by simp [V.deep,V.deeps],by rw [V.out];simp [c7];omega,by simp [V.size,gr]⟩
  | some t =>
   have htm:=bj hr
   have htw:=hw.ty t htm
   dsimp only
   by_cases h82 : t.sort = 82
   ·rw [if_pos h82]
    exact ⟨_,.recd _ t [] hr h82 (by simp) (by simp) (by simp) (by simp),by rw [V.out];rfl,by simp [V.deep,V.deeps],by rw [V.out];simp [c7,V.outs,aR];omega,by simp [V.size,gr,V.sizes]⟩
   rw [if_neg h82]
   have hd:=zJ htw h82
   have htg:=(htw.fld _ hd).tag
   have hdl:=kF (m:=tag0 t) (by unfold tag0;omega)
   by_cases h69 : t.sort = 69
   ·rw [if_pos h69]
    exact ⟨_,.enm _ t _ hr h69 hd,by rw [V.out];rfl,by simp [V.deep,V.deeps],by rw [V.out];show (35 :: bi (tag0 t)).length ≤ _;simp only [List.length_cons];omega,by simp [V.size,gr]⟩
   rw [if_neg h69]
   have h85 : t.sort = 85:=by have:=htw.sort;unfold eV at this;omega
   have he1:=he t hr
   unfold cq at he1
   rw [if_neg (by simpa using h85)] at he1
   obtain ⟨u,g1,g2,g3,g4,g5⟩:=ih (k:=e7 t) (d6 hw htm h69 hd) (fun t' ht'=>by rw [ht'] at he1;exact he1)
   refine ⟨_,.uni _ t _ u hr h82 h69 hd g1,?_,?_,?_,?_⟩
   ·rw [V.out,← g2];simp [c7,V.outs,aR,tag0]
   ·rw [eo dC,V.deeps,V.deeps];omega
   ·have e:=nX (v:=u) (n:=tag0 t) (r:=[])
    rw [List.append_nil] at e
    show (V.out (.nd 85 [] (tag0 t) [u])).length ≤ _
    rw [e];simp only [List.length_cons,List.length_append,List.length_nil];omega
   ·rw [V.size,if_neg (by unfold gr;simp),V.sizes,V.sizes];omega
theorem wg {ts : List Ty} (hw : SchW ts) {k : ael} (hk : ax ts k = true) : ∃ u,OfK ts k u ∧ u.out = pJ ts k ∧ u.deep ≤ 12 ∧ u.out.length ≤ 400 ∧ u.size ≤ 1:=by
 have hl:=hw.len
 obtain ⟨u,h1,h2,h3,h4,h5⟩:=we hw (ts.length + 1) hk (fun t ht=>by
  have hm:=bj ht
  obtain ⟨i,hi,rfl⟩:=List.mem_iff_getElem.1 hm
  have:=hw.valid.2 i hi
  rwa [aI hi] at this)
 exact ⟨u,h1,h2,oM,oM,h5⟩
theorem wh {ts : List Ty} (hw : SchW ts) {t : Ty} (ht : t ∈ ts) (hs : t.sort ≠ 69) {d : Fld} (hd : d ∈ t.fields) : ∃ u,OfK ts d.kind u ∧ u.out = bT ts d ∧ u.deep ≤ 12 ∧ u.out.length ≤ 400:=by
 unfold bT
 by_cases h0 : d.stand = []
 ·rw [if_pos h0]
  obtain ⟨u,h1,h2,h3,h4,_⟩:=wg hw (d6 hw ht hs hd)
  exact ⟨u,h1,h2,h3,h4⟩
 ·rw [if_neg h0]
  have h1:=(((hw.ty t ht).fld d hd).stand h0).2
  unfold cd at h1
  split at h1
  ·rename_i hk
   rw [hk]
   simp only [Bool.and_eq_true] at h1
   obtain ⟨m,hm⟩:=Option.isSome_iff_exists.1 h1.1
   have h2:=en hm
   have h3:=l9 hm
   refine ⟨_,.num [] m h3 h2.1,by rw [V.out];exact h2.2.1.symm,by simp [V.deep,V.deeps],?_⟩
   rw [V.out]
   show (bi m).length ≤ 400
   have:=kF h2.1;omega
  ·split at h1
   ·rename_i hk
    rw [hk]
    simp only [Bool.and_eq_true] at h1
    have hx:=h1.1
    have hx2:=hx
    unfold ec at hx
    rw [decide_eq_true_eq] at hx
    obtain ⟨⟨h2,h3⟩,h4,h5,_⟩:=hx
    obtain ⟨x,hxs⟩ : ∃ x,d.stand = 39 :: (x ++ [39]):=by
     cases hs : d.stand with
     | nil=>exact absurd hs h0
     | cons c r =>
      rw [hs] at h4 h5 h2
      have hc : c = 39:=UInt8.toNat_inj.1 (by rw [bH] at h4;exact h4)
      have hr : r ≠ []:=by rintro rfl;simp at h2
      refine ⟨r.dropLast,?_⟩
      have hl : r.getLast hr = 39:=by
       refine UInt8.toNat_inj.1 ?_
       simp only [List.length_cons,Nat.add_sub_cancel] at h5
       obtain ⟨m,hm⟩ : ∃ m,r.length = m + 1:=⟨r.length - 1,by have:=List.length_pos_iff.2 hr;omega⟩
       rw [hm,eS] at h5
       rw [List.getLast_eq_getElem]
       have : bt r m = (r[r.length - 1]'(by have:=List.length_pos_iff.2 hr;omega)).toNat:=by simp [bt,List.getD,hm]
       rw [← this,h5];rfl
      rw [hc];congr 1
      rw [← hl,List.dropLast_concat_getLast]
    rw [hxs] at hx2 h3 ⊢
    refine ⟨_,.txt [] x hx2,by rw [V.out];rfl,by simp [V.deep,V.deeps],?_⟩
    rw [V.out]
    show (39 :: (x ++ [39])).length ≤ 400
    omega
   ·split at h1
    ·rename_i hk
     rw [hk]
     rw [decide_eq_true_eq] at h1
     rw [h1]
     exact ⟨_,.flg [] _ (.inl F),by rw [V.out];rfl,by simp [V.deep,V.deeps],by rw [V.out];decide⟩
    ·cases h1
def cN : List ael → Option (List Int)
 | []=>some []
 | x :: xs=>match aQ x 999999 with
  | none=>none
  | some n=>(cN xs).map (n :: ·)
def df (s : ael) : Option (List Int):=if s = [] then some [] else match cN (a8 47 s) with
 | some p=>if p.length ≤ 8 then some p else none
 | none=>none
theorem lf : ∀ {xs : List ael} {p : List Int},cN xs = some p → p.length = xs.length ∧ ∀ n ∈ p,0 ≤ n ∧ n ≤ 999999
 | [],p,h=>by simp only [cN,Option.some.injEq] at h;subst h;simp
 | x :: xs,p,h=>by
  unfold cN at h
  cases hn : aQ x 999999 with
  | none=>rw [hn] at h;cases h
  | some n =>
   rw [hn] at h
   dsimp only at h
   cases hs : cN xs with
   | none=>rw [hs] at h;cases h
   | some q =>
    rw [hs] at h
    simp only [Option.map_some,Option.some.injEq] at h
    subst h
    obtain ⟨h1,h2⟩:=lf hs
    refine ⟨by simp [h1],fun m hm=>?_⟩
    rcases List.mem_cons.1 hm with rfl | hm
    ·exact ⟨l9 hn,(en hn).1⟩
    ·exact h2 m hm
def eh (ts : List Ty) (f : Fld) : V:=(co ts f.kind (bT ts f)).getD default
def cF (f : Fld) : List V → Option V
 | []=>none
 | x :: r=>if x.tag = f.tag then some (ab x.kids 0) else cF f r
def cZ (ts : List Ty) (v : V) (f : Fld) : V:=(cF f v.kids).getD (eh ts f)
def aB (ts : List Ty) (k : ael) (v : V) (n : Int) : Option (ael × V):=match k with
 | []=>none
 | c :: r=>if c.toNat = 91 ∨ c.toNat = 63 then (if n < (v.kids.length : Nat) then some (r,ab v.kids n.toNat) else none)
  else match aZ ts (c :: r) with
   | none=>none
   | some t=>match cm t.fields n with
    | none=>none
    | some f=>if t.sort = 69 then none else if t.sort = 82 then some (f.kind,cZ ts v f) else if v.tag = n then some (f.kind,ab v.kids 0) else none
def bP (ts : List Ty) : ael → V → List Int → Option (ael × V)
 | k,v,[]=>some (k,v)
 | k,v,n :: p=>match aB ts k v n with
  | none=>none
  | some (k',v')=>bP ts k' v' p
theorem fB {ts : List Ty} (hw : SchW ts) {t : Ty} (ht : t ∈ ts) (hs : t.sort ≠ 69) {d : Fld} (hd : d ∈ t.fields) : OfK ts d.kind (eh ts d) ∧ co ts d.kind (bT ts d) = some (eh ts d) ∧ (eh ts d).out = bT ts d:=by
 obtain ⟨u,h1,h2,h3,h4⟩:=wh hw ht hs hd
 have h5:=oL hw h1 h4 h3
 rw [h2] at h5
 have h6 : eh ts d = u:=by unfold eh;rw [h5];rfl
 rw [h6]
 exact ⟨h1,h5,h2⟩
theorem hO {ts : List Ty} {t : Ty} (hw : TyW t) {f : Fld} (hf : f ∈ t.fields) : ∀ {fs : List (Fld × V)} {u : V},(∀ p ∈ fs,p.1 ∈ t.fields ∧ OfK ts p.1.kind p.2) → cF f (fs.map aq) = some u → OfK ts f.kind u ∧ ∃ p ∈ fs,p.1 = f ∧ p.2 = u
 | [],u,_,h=>by simp [cF] at h
 | p :: fs,u,hp,h=>by
  simp only [List.map_cons,cF] at h
  split at h
  ·rename_i he
   simp only [Option.some.injEq] at h
   have h1 : p.2 = u:=h
   have h2:=fe hw (hp p (by simp)).1 hf he
   subst h1
   exact ⟨by rw [← h2];exact (hp p (by simp)).2,p,by simp,h2,F⟩
  ·obtain ⟨h1,q,h2,h3⟩:=hO hw hf (fun q hq=>hp q (by simp [hq])) h
   exact ⟨h1,q,by simp [h2],h3⟩
theorem aan {ts : List Ty} (hw : SchW ts) {t : Ty} (ht : t ∈ ts) (hs : t.sort = 82) {f : Fld} (hf : f ∈ t.fields) {fs : List (Fld × V)} (hp : ∀ p ∈ fs,p.1 ∈ t.fields ∧ OfK ts p.1.kind p.2) : OfK ts f.kind (cZ ts (.nd 82 [] 0 (fs.map aq)) f):=by
 unfold cZ
 cases h : cF f (V.kids (.nd 82 [] 0 (fs.map aq))) with
 | none=>exact (fB hw ht oM hf).1
 | some u=>exact (hO (hw.ty t ht) hf hp h).1
theorem cJ {ts : List Ty} (hw : SchW ts) {k : ael} {v : V} (h : OfK ts k v) (hk : ax ts k = true) {n : Int} (hn : 0 ≤ n) {k' : ael} {v' : V} (e : aB ts k v n = some (k',v')) : OfK ts k' v' ∧ ax ts k' = true:=by
 obtain ⟨c,r,rfl⟩:=dT hk
 unfold aB at e
 dsimp only at e
 split at e
 ·rename_i hc
  split at e
  ·rename_i hlt
   simp only [Option.some.injEq,Prod.mk.injEq] at e
   obtain ⟨rfl,rfl⟩:=e
   refine ⟨?_,fM hc hk⟩
   rcases dg h oM with ⟨h1,_⟩ | ⟨h1,_⟩ | ⟨h1,_⟩ | ⟨h1,ks,_,h3,rfl⟩ | ⟨h1,rfl | ⟨u,h3,rfl⟩⟩
   ·omega
   ·omega
   ·omega
   ·rw [V.kids] at hlt ⊢
    have : n.toNat < ks.length:=oM
    rw [aI this];exact h3 _ (List.getElem_mem this)
   ·simp [V.kids] at hlt;omega
   ·simp [V.kids] at hlt
    have : n.toNat = 0:=oM
    rw [this];exact h3
  ·cases e
 ·split at e
  ·cases e
  ·rename_i t hr
   have ht:=bj hr
   split at e
   ·cases e
   ·rename_i f hf
    have hfm:=List.mem_of_find?_eq_some hf
    split at e
    ·cases e
    ·rename_i h69
     have hki:=d6 hw ht h69 hfm
     split at e
     ·rename_i h82
      simp only [Option.some.injEq,Prod.mk.injEq] at e
      obtain ⟨rfl,rfl⟩:=e
      rcases bE h hr with ⟨_,fs,rfl,g3,g4,_,_⟩ | ⟨h1,_⟩ | ⟨h1,_⟩
      ·exact ⟨aan hw ht h82 hfm fun p hp=>⟨g3 p hp,g4 p hp⟩,hki⟩
      ·omega
      ·omega
     ·rename_i h82
      split at e
      ·rename_i htg
       simp only [Option.some.injEq,Prod.mk.injEq] at e
       obtain ⟨rfl,rfl⟩:=e
       rcases bE h hr with ⟨h1,_⟩ | ⟨h1,_⟩ | ⟨_,_,d,u,rfl,g4,g5⟩
       ·omega
       ·omega
       ·have h7 : f.tag = n:=by have:=List.find?_some hf;simpa using this
        have h8:=fe (hw.ty t ht) g4 hfm (by rw [h7];exact htg)
        rw [V.kids]
        exact ⟨by rw [← h8];exact g5,hki⟩
      ·cases e
theorem mn {ts : List Ty} (hw : SchW ts) : ∀ {p : List Int} {k : ael} {v : V} {k' : ael} {v' : V},OfK ts k v → ax ts k = true → (∀ n ∈ p,0 ≤ n) → bP ts k v p = some (k',v') → OfK ts k' v' ∧ ax ts k' = true
 | [],k,v,k',v',h,hk,_,e=>by
  simp only [bP,Option.some.injEq,Prod.mk.injEq] at e
  obtain ⟨rfl,rfl⟩:=e
  exact ⟨h,hk⟩
 | n :: p,k,v,k',v',h,hk,hp,e=>by
  unfold bP at e
  cases hs : aB ts k v n with
  | none=>rw [hs] at e;cases e
  | some x =>
   rw [hs] at e
   obtain ⟨k1,v1⟩:=x
   obtain ⟨h1,h2⟩:=cJ hw h hk (hp n (by simp)) hs
   exact mn hw h1 h2 (fun m hm=>hp m (by simp [hm])) e
def cV (ts : List Ty) (f : Fld) (x : V) : List V → List V
 | []=>if x.out = bT ts f then [] else [.nd 61 [] f.tag [x]]
 | y :: r=>if y.tag < f.tag then y :: cV ts f x r
  else (if x.out = bT ts f then [] else [.nd 61 [] f.tag [x]]) ++ (if y.tag = f.tag then r else y :: r)
def bD (ts : List Ty) : ael → V → List Int → V → V
 | _,_,[],x=>x
 | k,v,n :: p,x=>match aB ts k v n with
  | none=>v
  | some (k',v')=>if v.what = 82 then (match aZ ts k with
    | some t=>(match cm t.fields n with
     | some f=>.nd 82 [] 0 (cV ts f (bD ts k' v' p x) v.kids)
     | none=>v)
    | none=>v)
   else .nd v.what [] v.tag (if v.what = 91 then v.kids.set n.toNat (bD ts k' v' p x) else [bD ts k' v' p x])
theorem vg {ts : List Ty} {t : Ty} (hw : TyW t) {f : Fld} (hf : f ∈ t.fields) {x : V} (hx : OfK ts f.kind x) : ∀ {fs : List (Fld × V)},(∀ p ∈ fs,p.1 ∈ t.fields ∧ OfK ts p.1.kind p.2 ∧ p.2.out ≠ bT ts p.1) → fs.Pairwise (fun a b=>a.1.tag < b.1.tag) →
  ∃ gs : List (Fld × V),cV ts f x (fs.map aq) = gs.map aq ∧ (∀ p ∈ gs,(p.1 ∈ t.fields ∧ OfK ts p.1.kind p.2 ∧ p.2.out ≠ bT ts p.1) ∧ (p ∈ fs ∨ p.1 = f)) ∧ gs.Pairwise (fun a b=>a.1.tag < b.1.tag)
 | [],_,_=>by
  simp only [List.map_nil,cV]
  split
  ·exact ⟨[],F,by simp,by simp⟩
  ·rename_i hne
   exact ⟨[(f,x)],F,fun p hp=>by simp only [List.mem_singleton] at hp;subst hp;exact ⟨⟨hf,hx,hne⟩,.inr F⟩,by simp⟩
 | q :: fs,hp,hpw=>by
  rw [List.pairwise_cons] at hpw
  simp only [List.map_cons,cV]
  show ∃ gs : List (Fld × V),(if q.1.tag < f.tag then aq q :: cV ts f x (fs.map aq) else (if x.out = bT ts f then [] else [.nd 61 [] f.tag [x]]) ++ (if q.1.tag = f.tag then fs.map aq else aq q :: fs.map aq)) = gs.map aq ∧ _
  by_cases hlt : q.1.tag < f.tag
  ·rw [if_pos hlt]
   obtain ⟨gs,e1,e2,e3⟩:=vg hw hf hx (fun p h=>hp p (by simp [h])) hpw.2
   refine ⟨q :: gs,by rw [e1];rfl,fun p h=>?_,?_⟩
   ·rcases List.mem_cons.1 h with rfl | h
    ·exact ⟨hp _ (by simp),.inl (by simp)⟩
    ·exact ⟨(e2 p h).1,(e2 p h).2.imp (fun h=>by simp [h]) id⟩
   ·rw [List.pairwise_cons]
    refine ⟨fun p h=>?_,e3⟩
    rcases (e2 p h).2 with h1 | h1
    ·exact hpw.1 p h1
    ·rw [h1];exact hlt
  ·rw [if_neg hlt]
   have hB : ∃ gs : List (Fld × V),(if q.1.tag = f.tag then fs.map aq else aq q :: fs.map aq) = gs.map aq ∧ (∀ p ∈ gs,(p.1 ∈ t.fields ∧ OfK ts p.1.kind p.2 ∧ p.2.out ≠ bT ts p.1) ∧ p ∈ q :: fs ∧ f.tag < p.1.tag) ∧ gs.Pairwise (fun a b=>a.1.tag < b.1.tag):=by
    split
    ·rename_i he
     exact ⟨fs,F,fun p h=>⟨hp p (by simp [h]),by simp [h],by have:=hpw.1 p h;omega⟩,hpw.2⟩
    ·rename_i he
     refine ⟨q :: fs,F,fun p h=>⟨hp p h,h,?_⟩,by rw [List.pairwise_cons];exact hpw⟩
     rcases List.mem_cons.1 h with rfl | h
     ·omega
     ·have:=hpw.1 p h;omega
   obtain ⟨gs,e1,e2,e3⟩:=hB
   rw [e1]
   split
   ·exact ⟨gs,F,fun p h=>⟨(e2 p h).1,.inl (e2 p h).2.1⟩,e3⟩
   ·rename_i hne
    refine ⟨(f,x) :: gs,F,fun p h=>?_,?_⟩
    ·rcases List.mem_cons.1 h with rfl | h
     ·exact ⟨⟨hf,hx,hne⟩,.inr F⟩
     ·exact ⟨(e2 p h).1,.inl (e2 p h).2.1⟩
    ·rw [List.pairwise_cons]
     exact ⟨fun p h=>(e2 p h).2.2,e3⟩
theorem dL {ts : List Ty} (hw : SchW ts) : ∀ {p : List Int} {k : ael} {v x : V} {k' : ael} {v' : V},OfK ts k v → ax ts k = true → (∀ n ∈ p,0 ≤ n) → bP ts k v p = some (k',v') → OfK ts k' x → OfK ts k (bD ts k v p x)
 | [],k,v,x,k',v',h,hk,_,e,hx=>by
  simp only [bP,Option.some.injEq,Prod.mk.injEq] at e
  obtain ⟨rfl,rfl⟩:=e
  exact hx
 | n :: p,k,v,x,k',v',h,hk,hp,e,hx=>by
  unfold bP at e
  cases hs : aB ts k v n with
  | none=>rw [hs] at e;cases e
  | some y =>
   rw [hs] at e
   obtain ⟨k1,v1⟩:=y
   obtain ⟨h1,h2⟩:=cJ hw h hk (hp n (by simp)) hs
   have ih:=dL hw h1 h2 (fun m hm=>hp m (by simp [hm])) e hx
   have hn:=hp n (by simp)
   unfold bD
   rw [hs]
   dsimp only
   obtain ⟨c,r,rfl⟩:=dT hk
   unfold aB at hs
   dsimp only at hs
   split at hs
   ·rename_i hc
    split at hs
    ·rename_i hlt
     simp only [Option.some.injEq,Prod.mk.injEq] at hs
     obtain ⟨rfl,rfl⟩:=hs
     rcases dg h oM with ⟨g1,_⟩ | ⟨g1,_⟩ | ⟨g1,_⟩ | ⟨g1,ks,g2,g3,rfl⟩ | ⟨g1,rfl | ⟨u,g3,rfl⟩⟩
     ·omega
     ·omega
     ·omega
     ·rw [V.what,if_neg dC,if_pos rfl]
      obtain rfl:=bY g1 dC
      refine .lst _ _ (by rw [List.length_set];exact g2) fun u hu=>?_
      rcases List.mem_or_eq_of_mem_set hu with hu | rfl
      ·exact g3 u hu
      ·exact ih
     ·simp [V.kids] at hlt;omega
     ·rw [V.what,if_neg dC,if_neg dC]
      obtain rfl:=bY g1 dC
      exact .opt _ _ ih
    ·cases hs
   ·split at hs
    ·cases hs
    ·rename_i t hr
     have ht:=bj hr
     split at hs
     ·cases hs
     ·rename_i f hf
      have hfm:=List.mem_of_find?_eq_some hf
      split at hs
      ·cases hs
      ·rename_i h69
       split at hs
       ·rename_i h82
        simp only [Option.some.injEq,Prod.mk.injEq] at hs
        obtain ⟨rfl,rfl⟩:=hs
        rcases bE h hr with ⟨_,fs,rfl,g3,g4,g5,g6⟩ | ⟨g1,_⟩ | ⟨g1,_⟩
        ·rw [V.what,if_pos rfl,hr]
         dsimp only
         rw [hf]
         dsimp only
         rw [V.kids]
         obtain ⟨gs,e1,e2,e3⟩:=vg (hw.ty t ht) hfm ih (fun p hp=>⟨g3 p hp,g4 p hp,g5 p hp⟩) g6
         rw [e1]
         exact .recd _ t gs hr h82 (fun p hp=>(e2 p hp).1.1) (fun p hp=>(e2 p hp).1.2.1) (fun p hp=>(e2 p hp).1.2.2) e3
        ·omega
        ·omega
       ·rename_i h82
        split at hs
        ·rename_i htg
         simp only [Option.some.injEq,Prod.mk.injEq] at hs
         obtain ⟨rfl,rfl⟩:=hs
         rcases bE h hr with ⟨g1,_⟩ | ⟨g1,_⟩ | ⟨_,_,d,u,rfl,g4,g5⟩
         ·omega
         ·omega
         ·have h7 : f.tag = n:=by have:=List.find?_some hf;simpa using this
          have h8:=fe (hw.ty t ht) g4 hfm (by rw [h7];exact htg)
          rw [V.what,if_neg dC,if_neg dC]
          exact .uni _ t d _ hr h82 h69 g4 (by rw [h8];exact ih)
        ·cases hs
theorem iY {ts : List Ty} (hw : SchW ts) {k : ael} {u v : V} (hu : OfK ts k u) (hv : OfK ts k v) (h : u.out = v.out) : u = v:=by
 have h1:=lZ hw (max u.deep v.deep) hu (Nat.le_max_left _ _) [] lD
 have h2:=lZ hw (max u.deep v.deep) hv (Nat.le_max_right _ _) [] lD
 rw [h,h2] at h1
 simp only [Option.some.injEq,Prod.mk.injEq,and_true] at h1
 exact h1.symm
theorem ku {w : Nat} {x : ael} {t : Int} {ks : List V} : V.tag (.nd w x t ks) = t:=rfl
def nf (ts : List Ty) (f : Fld) (x : V) : List V:=if x.out = bT ts f then [] else [.nd 61 [] f.tag [x]]
theorem dX {ts : List Ty} {f : Fld} {x : V} : cV ts f x [] = nf ts f x:=rfl
theorem cK {ts : List Ty} {f : Fld} {x y : V} {r : List V} : cV ts f x (y :: r) = if y.tag < f.tag then y :: cV ts f x r else nf ts f x ++ (if y.tag = f.tag then r else y :: r):=rfl
theorem qQ {ts : List Ty} {f : Fld} {x : V} : ∀ {vs : List V},(∀ v ∈ vs,f.tag < v.tag) → cV ts f x vs = nf ts f x ++ vs
 | [],_=>by rw [dX,List.append_nil]
 | v :: vs,h=>by
  have:=h v (by simp)
  rw [cK,if_neg oM,if_neg oM]
theorem lQ {f : Fld} : ∀ {vs : List V},(∀ v ∈ vs,f.tag < v.tag) → cF f vs = none
 | [],_=>rfl
 | v :: vs,h=>by
  have:=h v (by simp)
  rw [cF,if_neg oM]
  exact lQ fun u hu=>h u (by simp [hu])
theorem sO {ts : List Ty} {f : Fld} {x : V} {vs : List V} (h : ∀ v ∈ vs,f.tag < v.tag) : cF f (nf ts f x ++ vs) = if x.out = bT ts f then none else some x:=by
 unfold nf
 split
 ·exact lQ h
 ·rw [List.singleton_append,cF,ku,if_pos rfl];rfl
abbrev lL (vs : List V) : Prop:=vs.Pairwise fun a b=>a.tag < b.tag
theorem rl {ts : List Ty} {f : Fld} {x : V} : ∀ {vs : List V},lL vs → cF f (cV ts f x vs) = if x.out = bT ts f then none else some x
 | [],_=>by
  rw [dX]
  have:=sO (ts:=ts) (f:=f) (x:=x) (vs:=[]) (by simp)
  rwa [List.append_nil] at this
 | v :: vs,h=>by
  replace h:=List.pairwise_cons.1 h
  rw [cK]
  split
  ·rw [cF,if_neg oM]
   exact rl h.2
  ·refine sO fun u hu=>?_
   split at hu
   ·have:=h.1 u hu;omega
   ·rcases List.mem_cons.1 hu with rfl | hu
    ·omega
    ·have:=h.1 u hu;omega
theorem th {ts : List Ty} {f : Fld} {x y : V} : ∀ {vs : List V},lL vs → cV ts f y (cV ts f x vs) = cV ts f y vs
 | [],_=>by
  rw [dX,dX]
  unfold nf
  split
  ·exact dX
  ·rw [cK,ku,if_neg oM,if_pos rfl,List.append_nil];rfl
 | v :: vs,h=>by
  replace h:=List.pairwise_cons.1 h
  rw [cK,cK (x:=y)]
  split
  ·rename_i hl
   rw [cK,if_pos hl,th h.2]
  ·rename_i hl
   have hB : ∀ u ∈ (if v.tag = f.tag then vs else v :: vs),f.tag < u.tag:=fun u hu=>by
    split at hu
    ·have:=h.1 u hu;omega
    ·rcases List.mem_cons.1 hu with rfl | hu
     ·omega
     ·have:=h.1 u hu;omega
   generalize (if v.tag = f.tag then vs else v :: vs) = ws at hB
   rw [show nf ts f x = if x.out = bT ts f then [] else [.nd 61 [] f.tag [x]] from rfl]
   split
   ·exact qQ hB
   ·rw [List.singleton_append,cK,ku,if_neg oM,if_pos rfl]
theorem ry {ts : List Ty} {t : Ty} (hw : TyW t) {f : Fld} (hf : f ∈ t.fields) {z : V} (hz : z.out = bT ts f) : ∀ {fs : List (Fld × V)},(∀ p ∈ fs,p.1 ∈ t.fields ∧ p.2.out ≠ bT ts p.1) → lL (fs.map aq) → cV ts f ((cF f (fs.map aq)).getD z) (fs.map aq) = fs.map aq
 | [],_,_=>by
  rw [List.map_nil,dX]
  show nf ts f z = []
  unfold nf;rw [if_pos hz]
 | q :: fs,hp,h=>by
  replace h:=List.pairwise_cons.1 h
  have hq:=hp q (by simp)
  rw [List.map_cons,cK,cF]
  by_cases hl : (aq q).tag < f.tag
  ·rw [if_pos hl,if_neg oM,ry hw hf hz (fun p hp'=>hp p (by simp [hp'])) h.2]
  ·rw [if_neg hl]
   by_cases he : (aq q).tag = f.tag
   ·rw [if_pos he,if_pos he]
    have h1 : q.1 = f:=fe hw hq.1 hf he
    have h2 : ((some (ab (aq q).kids 0)).getD z) = q.2:=rfl
    rw [h2]
    unfold nf
    rw [if_neg (by rw [← h1];exact hq.2),List.singleton_append,← h1]
   ·rw [if_neg he,if_neg he,lQ fun v hv=>by have:=h.1 v hv;omega]
    show nf ts f z ++ _ = _
    unfold nf;rw [if_pos hz,List.nil_append]
theorem sP {ts : List Ty} {f g : Fld} (hg : g.tag ≠ f.tag) {x : V} : ∀ {vs : List V},cF g (cV ts f x vs) = cF g vs
 | []=>by
  rw [dX];unfold nf
  split
  ·rfl
  ·show (if V.tag (.nd 61 [] f.tag [x]) = g.tag then some (ab (V.kids (.nd 61 [] f.tag [x])) 0) else none) = none
   rw [ku,if_neg oM]
 | v :: vs=>by
  rw [cK]
  split
  ·rw [cF,cF,sP hg]
  ·have h1 : ∀ ws : List V,cF g (nf ts f x ++ ws) = cF g ws:=fun ws=>by
    unfold nf
    split
    ·rfl
    ·rw [List.singleton_append,cF,ku,if_neg oM]
   rw [h1]
   split
   ·rename_i he
    rw [cF,if_neg oM]
   ·rfl
def cC (ts : List Ty) (k : ael) (v : V) (n : Int) (y : V) : V:=if v.what = 82 then (match aZ ts k with
  | some t=>(match cm t.fields n with
   | some f=>.nd 82 [] 0 (cV ts f y v.kids)
   | none=>v)
  | none=>v)
 else .nd v.what [] v.tag (if v.what = 91 then v.kids.set n.toNat y else [y])
theorem c5 {ts : List Ty} {k k1 : ael} {v v1 x : V} {n : Int} {p : List Int} (h : aB ts k v n = some (k1,v1)) : bD ts k v (n :: p) x = cC ts k v n (bD ts k1 v1 p x):=by
 rw [bD,h];rfl
theorem kD {ts : List Ty} {k k1 : ael} {v v1 : V} {n : Int} {p : List Int} (h : aB ts k v n = some (k1,v1)) : bP ts k v (n :: p) = bP ts k1 v1 p:=by
 rw [bP,h]
theorem m3 {fs : List (Fld × V)} (h : fs.Pairwise fun a b=>a.1.tag < b.1.tag) : lL (fs.map aq):=List.pairwise_map.2 h
theorem iV {ts : List Ty} (hw : SchW ts) {k : ael} {v : V} (h : OfK ts k v) (hk : ax ts k = true) {n : Int} (hn : 0 ≤ n) {k1 : ael} {v1 : V} (hs : aB ts k v n = some (k1,v1)) {y : V} (hy : OfK ts k1 y) :
  (aB ts k (cC ts k v n y) n = some (k1,y) ∧ cC ts k v n v1 = v) ∧ (∀ z,cC ts k (cC ts k v n y) n z = cC ts k v n z) ∧ ∀ m,0 ≤ m → m ≠ n → aB ts k (cC ts k v n y) m = aB ts k v m:=by
 obtain ⟨c,r,rfl⟩:=dT hk
 have hs0:=hs
 unfold aB at hs
 dsimp only at hs
 split at hs
 ·rename_i hc
  split at hs
  ·rename_i hlt
   simp only [Option.some.injEq,Prod.mk.injEq] at hs
   obtain ⟨rfl,rfl⟩:=hs
   rcases dg h oM with ⟨g1,_⟩ | ⟨g1,_⟩ | ⟨g1,_⟩ | ⟨g1,ks,g2,g3,rfl⟩ | ⟨g1,rfl | ⟨u,g3,rfl⟩⟩
   ·omega
   ·omega
   ·omega
   ·rw [V.kids] at hlt ⊢
    have hi : n.toNat < ks.length:=oM
    have e : ∀ z,cC ts (c :: r) (.nd 91 [] 0 ks) n z = .nd 91 [] 0 (ks.set n.toNat z):=fun z=>by
     unfold cC;rw [V.what,if_neg dC,if_pos rfl];rfl
    refine ⟨⟨?_,?_⟩,fun z=>?_,fun m hm hne=>?_⟩
    ·rw [e]
     unfold aB
     dsimp only
     rw [if_pos hc,V.kids,if_pos (by rw [List.length_set];exact hlt),aI (by rw [List.length_set];exact hi),List.getElem_set_self]
    ·rw [e,aI hi,List.set_getElem_self]
    ·rw [e,e]
     unfold cC;rw [V.what,if_neg dC,if_pos rfl,V.kids,List.set_set];rfl
    ·rw [e]
     unfold aB
     dsimp only
     rw [if_pos hc,if_pos hc,V.kids,V.kids,List.length_set]
     split
     ·rename_i hm2
      rw [aI (by rw [List.length_set];omega),aI oM,List.getElem_set_ne oM]
     ·rfl
   ·simp [V.kids] at hlt;omega
   ·simp [V.kids] at hlt
    obtain rfl : n = 0:=oM
    have e : ∀ w z,cC ts (c :: r) (.nd 63 [] 0 [w]) 0 z = .nd 63 [] 0 [z]:=fun w z=>by
     unfold cC;rw [V.what,if_neg dC,if_neg dC];rfl
    refine ⟨⟨?_,?_⟩,fun z=>?_,fun m hm hne=>?_⟩
    ·rw [e]
     unfold aB
     dsimp only
     rw [if_pos hc,V.kids,if_pos (by simp)];rfl
    ·rw [e];rfl
    ·rw [e,e,e]
    ·rw [e]
     unfold aB
     dsimp only
     rw [if_pos hc,if_pos hc,V.kids,V.kids,if_neg (by simp;omega),if_neg (by simp;omega)]
  ·cases hs
 ·rename_i hc
  split at hs
  ·cases hs
  ·rename_i t hr
   have ht:=bj hr
   split at hs
   ·cases hs
   ·rename_i f hf
    have hfm:=List.mem_of_find?_eq_some hf
    have hft : f.tag = n:=by have:=List.find?_some hf;simpa using this
    split at hs
    ·cases hs
    ·rename_i h69
     split at hs
     ·rename_i h82
      simp only [Option.some.injEq,Prod.mk.injEq] at hs
      obtain ⟨rfl,rfl⟩:=hs
      rcases bE h hr with ⟨_,fs,rfl,g3,g4,g5,g6⟩ | ⟨g1,_⟩ | ⟨g1,_⟩
      ·have e : ∀ vs z,cC ts (c :: r) (.nd 82 [] 0 vs) n z = .nd 82 [] 0 (cV ts f z vs):=fun vs z=>by
        unfold cC;rw [V.what,if_pos rfl,hr]
        dsimp only
        rw [hf];rfl
       have hst:=fB hw ht oM hfm
       have hsrt:=m3 g6
       refine ⟨⟨?_,?_⟩,fun z=>?_,fun m hm hne=>?_⟩
       ·rw [e]
        unfold aB
        dsimp only
        rw [if_neg hc,hr]
        dsimp only
        rw [hf]
        dsimp only
        rw [if_neg h69,if_pos h82]
        unfold cZ
        rw [V.kids,rl hsrt]
        split
        ·rename_i hso
         show some (f.kind,eh ts f) = _
         rw [iY hw hst.1 hy (by rw [hst.2.2,hso])]
        ·rfl
       ·rw [e]
        unfold cZ
        rw [V.kids,ry (hw.ty t ht) hfm hst.2.2 (fun p hp=>⟨g3 p hp,g5 p hp⟩) hsrt]
       ·rw [e,e,e,th hsrt]
       ·rw [e]
        unfold aB
        dsimp only
        rw [if_neg hc,if_neg hc,hr]
        dsimp only
        cases hg : cm t.fields m with
        | none=>rfl
        | some g =>
         have hgt : g.tag = m:=by have:=List.find?_some hg;simpa using this
         dsimp only
         rw [if_neg h69,if_neg h69,if_pos h82,if_pos h82]
         unfold cZ
         rw [V.kids,V.kids,sP oM]
      ·omega
      ·omega
     ·rename_i h82
      split at hs
      ·rename_i htg
       simp only [Option.some.injEq,Prod.mk.injEq] at hs
       obtain ⟨rfl,rfl⟩:=hs
       rcases bE h hr with ⟨g1,_⟩ | ⟨g1,_⟩ | ⟨_,_,d,u,rfl,g4,g5⟩
       ·omega
       ·omega
       ·have e : ∀ w z,cC ts (c :: r) (.nd 85 [] d.tag [w]) n z = .nd 85 [] d.tag [z]:=fun w z=>by
         unfold cC;rw [V.what,if_neg dC,if_neg dC];rfl
        have htg2 : d.tag = n:=htg
        refine ⟨⟨?_,?_⟩,fun z=>?_,fun m hm hne=>?_⟩
        ·rw [e]
         unfold aB
         dsimp only
         rw [if_neg hc,hr]
         dsimp only
         rw [hf]
         dsimp only
         rw [if_neg h69,if_neg h82,V.tag,if_pos htg2];rfl
        ·rw [e];rfl
        ·rw [e,e,e]
        ·rw [e]
         unfold aB
         dsimp only
         rw [if_neg hc,if_neg hc,hr]
         dsimp only
         cases hg : cm t.fields m with
         | none=>rfl
         | some g =>
          dsimp only
          rw [if_neg h69,if_neg h69,if_neg h82,if_neg h82,V.tag,V.tag,if_neg oM,if_neg oM]
      ·cases hs
def iA {α : Type} (tg : α → Int) (told : Bool) (node : α) (tag : Int) : List α → Bool → List α
 | [],d=>if (told && !d) = true then [node] else []
 | y :: r,d=>(if tag ≤ tg y ∧ (told && !d) = true then [node] else []) ++ ((if tg y = tag then [] else [y]) ++ iA tg told node tag r (d || decide (tag ≤ tg y)))
def dm {α : Type} (tg : α → Int) (node : α) (tag : Int) : List α → Bool → List α
 | [],d=>if d = true then [] else [node]
 | y :: r,d=>(if tag < tg y ∧ d = false then [node] else []) ++ ((if tg y = tag then [] else [y]) ++ dm tg node tag r (d || decide (tag < tg y)))
theorem tr {α β : Type} {tg : α → Int} {tg' : β → Int} {h : α → β} (ht : ∀ a,tg' (h a) = tg a) {node : α} {tag : Int} : ∀ {l : List α} {d : Bool},(dm tg node tag l d).map h = dm tg' (h node) tag (l.map h) d
 | [],d=>by rw [dm,List.map_nil,dm];split <;> rfl
 | y :: r,d=>by
  rw [List.map_cons,dm,dm,List.map_append,List.map_append,tr ht,ht]
  congr 1
  ·split <;> rfl
  ·congr 1
   split <;> rfl
theorem rA {α : Type} {tg : α → Int} {told : Bool} {node : α} {tag : Int} : ∀ {l : List α},(∀ y ∈ l,tag < tg y) → iA tg told node tag l true = l
 | [],_=>by simp [iA]
 | y :: r,h=>by
  have h1:=h y (by simp)
  rw [iA,Bool.true_or,rA fun z hz=>h z (by simp [hz]),if_neg (by simp),if_neg oM];rfl
theorem kV {α : Type} {tg : α → Int} {node : α} {tag : Int} : ∀ {l : List α},(∀ y ∈ l,tag < tg y) → dm tg node tag l true = l
 | [],_=>by simp [dm]
 | y :: r,h=>by
  have h1:=h y (by simp)
  rw [dm,Bool.true_or,kV fun z hz=>h z (by simp [hz]),if_neg (by simp),if_neg oM];rfl
theorem vj {ts : List Ty} {f : Fld} {x : V} : ∀ {vs : List V},lL vs → iA V.tag (decide (x.out ≠ bT ts f)) (.nd 61 [] f.tag [x]) f.tag vs false = cV ts f x vs
 | [],_=>by
  rw [dX,iA];unfold nf
  by_cases e : x.out = bT ts f
  ·rw [if_pos e,if_neg (by simp [e])]
  ·rw [if_neg e,if_pos (by simp [e])]
 | y :: r,h=>by
  replace h:=List.pairwise_cons.1 h
  rw [cK,iA,Bool.false_or]
  by_cases hl : y.tag < f.tag
  ·rw [if_pos hl,if_neg (by intro h;omega),if_neg oM,show decide (f.tag ≤ y.tag) = false from decide_eq_false oM,vj h.2];rfl
  ·rw [if_neg hl,show decide (f.tag ≤ y.tag) = true from decide_eq_true oM,rA fun z hz=>by have:=h.1 z hz;omega]
   unfold nf
   have e2 : (if y.tag = f.tag then ([] : List V) else [y]) ++ r = if y.tag = f.tag then r else y :: r:=by split <;> rfl
   rw [e2]
   congr 1
   by_cases e : x.out = bT ts f
   ·rw [if_pos e,if_neg (by simp [e])]
   ·rw [if_neg e,if_pos ⟨oM,by simp [e]⟩]
theorem aae {α : Type} {tg : α → Int} {node : α} {tag : Int} : ∀ {l : List α},(∀ y ∈ l,tag < tg y) → dm tg node tag l false = node :: l
 | [],_=>by simp [dm]
 | y :: r,h=>by
  have h1:=h y (by simp)
  rw [dm,Bool.false_or,decide_eq_true h1,kV fun z hz=>h z (by simp [hz]),if_pos ⟨h1,rfl⟩,if_neg oM];rfl
theorem vh {ts : List Ty} {f : Fld} {x : V} : ∀ {vs : List V},lL vs → dm V.tag (.nd 61 [] f.tag [x]) f.tag vs (decide (x.out = bT ts f)) = cV ts f x vs
 | [],_=>by
  rw [dX,dm];unfold nf
  by_cases e : x.out = bT ts f
  ·rw [if_pos e,if_pos (by simp [e])]
  ·rw [if_neg e,if_neg (by simp [e])]
 | y :: r,h=>by
  replace h:=List.pairwise_cons.1 h
  rw [cK]
  by_cases hl : y.tag < f.tag
  ·rw [if_pos hl,dm,if_neg (by intro h;omega),if_neg oM,show decide (f.tag < y.tag) = false from decide_eq_false oM,Bool.or_false,vh h.2];rfl
  ·rw [if_neg hl]
   have hgt : ∀ z ∈ r,f.tag < z.tag:=fun z hz=>by have:=h.1 z hz;omega
   by_cases e : x.out = bT ts f
   ·unfold nf;rw [decide_eq_true e,if_pos e,List.nil_append,dm,Bool.true_or,kV hgt,if_neg (by simp),List.nil_append]
    split <;> rfl
   ·unfold nf;rw [decide_eq_false e,if_neg e,dm,Bool.false_or]
    by_cases he : y.tag = f.tag
    ·rw [if_neg (by intro h;omega),if_pos he,show decide (f.tag < y.tag) = false from decide_eq_false oM,aae hgt,if_pos he];rfl
    ·rw [if_pos ⟨oM,rfl⟩,if_neg he,show decide (f.tag < y.tag) = true from decide_eq_true oM,kV hgt,if_neg he];rfl
theorem rE {ks : List V} : (V.nd 91 [] 0 ks).out = 91 :: (aR 44 (ks.map V.out) ++ [93]):=by rw [V.out,V.outs_map];rfl
theorem tF {ks : List V} : (V.nd 82 [] 0 ks).out = 123 :: (aR 44 (ks.map V.out) ++ [125]):=by rw [V.out,V.outs_map];rfl
theorem kY {xs : List ael} {x : ael} (h : x ∈ xs) : x.length ≤ (aR 44 xs).length:=by
 induction xs with
 | nil=>cases h
 | cons y xs ih =>
  cases xs with
  | nil =>
   simp only [List.mem_singleton] at h;subst h;simp [aR]
  | cons z xs =>
   rw [aR,List.length_append,List.length_cons]
   rcases List.mem_cons.1 h with rfl | h
   ·omega
   ·have:=ih h;omega
variable {ts : List Ty}
theorem gN (hw : SchW ts) {k : ael} {v : V} (h : OfK ts k v) (hk : ax ts k = true) {n : Int} (hn : 0 ≤ n) {k' : ael} {v' : V} (e : aB ts k v n = some (k',v')) (hd : v.deep ≤ 12) (hl : v.out.length ≤ 400) : v'.deep ≤ 12 ∧ v'.out.length ≤ 400:=by
 obtain ⟨c,r,rfl⟩:=dT hk
 unfold aB at e
 dsimp only at e
 split at e
 ·rename_i hc
  split at e
  ·rename_i hlt
   simp only [Option.some.injEq,Prod.mk.injEq] at e
   obtain ⟨rfl,rfl⟩:=e
   rcases dg h oM with ⟨g1,_⟩ | ⟨g1,_⟩ | ⟨g1,_⟩ | ⟨g1,ks,g2,g3,rfl⟩ | ⟨g1,rfl | ⟨u,g3,rfl⟩⟩
   ·omega
   ·omega
   ·omega
   ·rw [V.kids] at hlt ⊢
    have hi : n.toNat < ks.length:=oM
    rw [eo dC] at hd
    rw [rE] at hl
    have h1:=V.deep_mem (bC hi)
    have h2:=kY (xs:=ks.map V.out) (List.mem_map_of_mem (f:=V.out) (bC hi))
    simp only [List.length_cons,List.length_append,List.length_nil] at hl
    exact ⟨oM,oM⟩
   ·simp [V.kids] at hlt;omega
   ·simp [V.kids] at hlt
    obtain rfl : n = 0:=oM
    rw [eo dC] at hd
    have e1 : V.out (.nd 63 [] 0 [u]) = 43 :: u.out:=by rw [V.out];simp [V.outs,aR,c7]
    rw [e1,List.length_cons] at hl
    have h1:=V.deep_mem (ks:=[u]) (v:=u) (by simp)
    exact ⟨by show u.deep ≤ 12;omega,by show u.out.length ≤ 400;omega⟩
  ·cases e
 ·split at e
  ·cases e
  ·rename_i t hr
   have ht:=bj hr
   split at e
   ·cases e
   ·rename_i f hf
    have hfm:=List.mem_of_find?_eq_some hf
    split at e
    ·cases e
    ·rename_i h69
     split at e
     ·rename_i h82
      simp only [Option.some.injEq,Prod.mk.injEq] at e
      obtain ⟨rfl,rfl⟩:=e
      rcases bE h hr with ⟨_,fs,rfl,g3,g4,_,_⟩ | ⟨g1,_⟩ | ⟨g1,_⟩
      ·unfold cZ
       rw [V.kids]
       cases hto : cF f (fs.map aq) with
       | none =>
        obtain ⟨a1,a2,a3⟩:=fB hw ht h69 hfm
        unfold co at a2
        split at a2
        ·rename_i hl4
         split at a2
         ·rename_i v' hv'
          have:=j5 _ _ _ _ hv'
          simp only [Option.some.injEq] at a2
          subst a2
          exact ⟨this,by show (eh ts f).out.length ≤ 400;rw [a3];exact hl4⟩
         ·cases a2
        ·cases a2
       | some u =>
        obtain ⟨_,p,hp,_,rfl⟩:=hO (hw.ty t ht) hfm (fun p hp=>⟨g3 p hp,g4 p hp⟩) hto
        rw [eo dC] at hd
        rw [tF] at hl
        have h1:=V.deep_mem (List.mem_map_of_mem (f:=aq) hp)
        rw [show (aq p).deep = p.2.deep from kE] at h1
        have h2:=kY (xs:=(fs.map aq).map V.out) (List.mem_map_of_mem (f:=V.out) (List.mem_map_of_mem (f:=aq) hp))
        rw [show (aq p).out = bi p.1.tag ++ 61 :: p.2.out from gn] at h2
        simp only [List.length_cons,List.length_append,List.length_nil] at hl h2
        exact ⟨by show p.2.deep ≤ 12;omega,by show p.2.out.length ≤ 400;omega⟩
      ·omega
      ·omega
     ·rename_i h82
      split at e
      ·simp only [Option.some.injEq,Prod.mk.injEq] at e
       obtain ⟨rfl,rfl⟩:=e
       rcases bE h hr with ⟨h1,_⟩ | ⟨h1,_⟩ | ⟨_,_,d,u,rfl,g4,g5⟩
       ·omega
       ·omega
       ·rw [eo dC] at hd
        have e1 : V.out (.nd 85 [] d.tag [u]) = 60 :: (bi d.tag ++ 61 :: (u.out ++ [62])):=by rw [V.out];simp [V.outs,aR,c7]
        rw [e1] at hl
        have h1:=V.deep_mem (ks:=[u]) (v:=u) (by simp)
        simp only [List.length_cons,List.length_append,List.length_nil] at hl
        exact ⟨by show u.deep ≤ 12;omega,by show u.out.length ≤ 400;omega⟩
      ·cases e
def fh : List Int → List Int → Prop
 | [],_=>False
 | _ :: _,[]=>False
 | a :: p,b :: q=>a ≠ b ∨ (a = b ∧ fh p q)
theorem kI (hw : SchW ts) : ∀ {q p : List Int} {k : ael} {v x : V} {k' : ael} {v' : V},OfK ts k v → ax ts k = true → (∀ n ∈ q,0 ≤ n) → (∀ n ∈ p,0 ≤ n) → bP ts k v q = some (k',v') → OfK ts k' x → fh p q → bP ts k (bD ts k v q x) p = bP ts k v p
 | [],[],_,_,_,_,_,_,_,_,_,_,_,ha=>ha.elim
 | [],_ :: _,_,_,_,_,_,_,_,_,_,_,_,ha=>ha.elim
 | _ :: _,[],_,_,_,_,_,_,_,_,_,_,_,ha=>ha.elim
 | b :: q,a :: p,k,v,x,k',v',h,hk,hq,hp,e,hx,ha=>by
  unfold bP at e
  cases hs : aB ts k v b with
  | none=>rw [hs] at e;cases e
  | some y =>
   rw [hs] at e
   obtain ⟨k1,v1⟩:=y
   have hb:=hq b (by simp)
   obtain ⟨h1,h2⟩:=cJ hw h hk hb hs
   have hq2 : ∀ m ∈ q,0 ≤ m:=fun m hm=>hq m (by simp [hm])
   have hc:=dL hw h1 h2 hq2 e hx
   obtain ⟨⟨s1,_⟩,_,s4⟩:=iV hw h hk hb hs hc
   rw [c5 hs]
   by_cases hab : a = b
   ·subst hab
    rcases ha with ha | ⟨_,ha⟩
    ·exact absurd F ha
    ·rw [kD s1,kD hs]
     exact kI hw h1 h2 hq2 (fun m hm=>hp m (by simp [hm])) e hx ha
   ·have:=s4 a (hp a (by simp)) hab
    unfold bP
    rw [this]
def bN (q : List Int) : ael:=aR 47 (q.map bi)
theorem nG {n : Int} (h : 0 ≤ n) : fk 47 (bi n):=fun c hc=>by
 have:=wD ((iq _ (Nat.le_refl _) h).2 c hc)
 omega
theorem oe : ∀ {xs : List ael} {p : List Int},cN xs = some p → xs = p.map bi ∧ ∀ n ∈ p,0 ≤ n ∧ n ≤ 999999
 | [],p,h=>by simp only [cN,Option.some.injEq] at h;subst h;simp
 | x :: xs,p,h=>by
  unfold cN at h
  cases hn : aQ x 999999 with
  | none=>rw [hn] at h;cases h
  | some n =>
   rw [hn] at h
   dsimp only at h
   cases hs : cN xs with
   | none=>rw [hs] at h;cases h
   | some q =>
    rw [hs] at h
    simp only [Option.map_some,Option.some.injEq] at h
    subst h
    obtain ⟨h1,h2⟩:=oe hs
    refine ⟨by rw [List.map_cons,← h1,← (en hn).2.1],fun m hm=>?_⟩
    rcases List.mem_cons.1 hm with rfl | hm
    ·exact ⟨l9 hn,(en hn).1⟩
    ·exact h2 m hm
theorem pH : ∀ {p : List Int},(∀ n ∈ p,0 ≤ n ∧ n ≤ 999999) → cN (p.map bi) = some p
 | [],_=>rfl
 | n :: p,h=>by
  have h1:=h n (by simp)
  rw [List.map_cons,cN,gR h1.1 h1.2 dC]
  dsimp only
  rw [pH fun m hm=>h m (by simp [hm])];rfl
theorem uK {s : ael} {q : List Int} (h : df s = some q) : s = bN q ∧ q.length ≤ 8 ∧ (∀ n ∈ q,0 ≤ n ∧ n ≤ 999999) ∧ (s = [] ↔ q = []):=by
 unfold df at h
 split at h
 ·rename_i hs
  simp only [Option.some.injEq] at h;subst h
  exact ⟨by rw [hs];rfl,by simp,by simp,by simp [hs]⟩
 ·rename_i hs
  split at h
  ·rename_i q' hq
   split at h
   ·rename_i h8
    simp only [Option.some.injEq] at h;subst h
    obtain ⟨h1,h2⟩:=oe hq
    have h3:=mv 47 s
    have h4 : (47 : UInt8).toNat = 47:=rfl
    rw [h4,h1] at h3
    refine ⟨h3.symm,h8,h2,fun h=>absurd h hs,fun h=>?_⟩
    rw [h] at h3
    exact h3.symm
   ·cases h
  ·cases h
theorem lk {q : List Int} (h : q ≠ []) : bN q ≠ []:=by
 cases q with
 | nil=>exact absurd F h
 | cons n q =>
  have:=gH n
  unfold bN
  intro e
  have e2:=congrArg List.length e
  cases q with
  | nil=>simp [aR] at e2;rw [e2] at this;simp at this
  | cons m q=>simp [aR] at e2
theorem rC {q : List Int} (h : ∀ n ∈ q,0 ≤ n ∧ n ≤ 999999) : df (bN q) = if q.length ≤ 8 then some q else none:=by
 by_cases hq : q = []
 ·subst hq;rfl
 ·unfold df
  rw [if_neg (lk hq)]
  have h1 : a8 47 (bN q) = q.map bi:=mf (c:=47) (by simpa using hq) fun x hx=>by
   obtain ⟨n,hn,rfl⟩:=List.mem_map.1 hx
   exact nG (h n hn).1
  rw [h1,pH h]
theorem gg {n : Int} {q : List Int} (h : q ≠ []) : bN (n :: q) = bi n ++ 47 :: bN q:=by
 cases q with
 | nil=>exact absurd F h
 | cons m q=>rfl
theorem nh : ∀ {p q : List Int},p ≠ [] → q ≠ [] → bN (p ++ q) = bN p ++ 47 :: bN q
 | [],_,h,_=>absurd rfl h
 | [n],q,_,hq=>by rw [List.singleton_append,gg hq];rfl
 | n :: m :: p,q,_,hq=>by
  rw [List.cons_append,gg (n:=n) (q:=m :: p ++ q) (by simp),nh (p:=m :: p) (by simp) hq,gg (n:=n) (q:=m :: p) (by simp)]
  simp
theorem rm {t : Ty} (hw : TyW t) : ∀ {fs : List (Fld × V)},(∀ p ∈ fs,p.1 ∈ t.fields) → (fs.Pairwise fun a b=>a.1.tag < b.1.tag) → ∀ {p : Fld × V},p ∈ fs → cF p.1 (fs.map aq) = some p.2
 | q :: fs,hf,hs,p,hp=>by
  rw [List.pairwise_cons] at hs
  rw [List.map_cons,cF]
  rcases List.mem_cons.1 hp with rfl | hp
  ·rw [if_pos (show (aq p).tag = p.1.tag from rfl)];rfl
  ·have:=hs.1 p hp
   rw [if_neg (show ¬ (aq q).tag = p.1.tag by show ¬ q.1.tag = p.1.tag;omega)]
   exact rm hw (fun r hr=>hf r (by simp [hr])) hs.2 hp
end Go.E
