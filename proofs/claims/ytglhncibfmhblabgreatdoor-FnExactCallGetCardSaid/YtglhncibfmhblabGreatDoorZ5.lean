/- Contracts and plain laws that the statement rests on, part 5. Conditions: as each says. -/
import Derived.Test.YtglhncibfmhblabGreatDoorZ4
set_option linter.unusedVariables false
set_option linter.unusedSimpArgs false
namespace Go.E
set_option maxRecDepth 20000
set_option maxHeartbeats 2000000
open Go.Proofs
variable {G : Gh}
def j6 (n : Int) : Value:=if 0 ≤ n ∧ n ≤ 999999 then Tu [S (bi n),Bo true] else Tu [S [],Bo false]
theorem vx {n : Int} : am abK 172 [I n] G (· = j6 n):=by
 refine jE [(0,_)] Tryz.func172 Tryz.ntmps172 fun B hB=>?_
 repeat' (first | refine jR ?_ | (refine jo ?_;first | refine aL F ?_ | refine av F ?_) | refine d5 F F (fun _=>?_) (fun _=>?_) | refine ac F F ?_ | refine cT F (fun _=>?_) (fun _=>?_))
 ·refine jY (vs:=[_,_]) ?_
  rw [dD,j6,if_neg oM]
 ·refine jY (vs:=[_,_]) ?_
  rw [dD,j6,if_neg oM]
 ·refine Nx.addNil 5 1 ?_
  refine aR (ι:=Value × abL × Int) (fun i=>0 ≤ i.2.2 ∧ i.2.2 ≤ 999999 ∧ i.2.1 ++ bi i.2.2 = bi n ∧ i.2.1.length ≤ 100) (fun i=>[(0,I i.2.2),(4,i.1)]) (fun _=>G) (fun i=>[.acc i.1 5 1 i.2.1.length (co i.2.1)]) (fun i=>i.2.2.toNat) (aK,[],n) ?_ tU F aX (fun i hI=>?_)
  ·dsimp only;refine ⟨?_,?_,?_,?_⟩ <;> first | omega | simp
  ·obtain ⟨v,l,m⟩:=i
   dsimp only at hI ⊢
   repeat' (first | refine jM ?_ | (refine jo ?_;first | refine jF fun _=>?_ | refine mz F F F F F F F F oM fun _=>?_ | refine jV (aaz F (by (repeat (first | exact BL.nil | apply BL.cons | apply BL.ap));done)) ?_) | refine cT F (fun _=>?_) (fun _=>?_))
   ·have h1:=gw (n:=m) oM
    (refine aW (_,l ++ [u8 (m % 128 + 128)],m / 128) ?_ ?_ tU F (by (dsimp only;simp only [vH,List.length_append,List.length_cons,List.length_nil,Nat.zero_add];repeat (first | exact List.nil_sublist _ | apply List.Sublist.cons_cons))))
    ·refine ⟨?_,?_,?_,?_⟩ <;> dsimp only
     ·omega
     ·omega
     ·rw [← hI.2.2.1,h1,Int.add_comm];simp
     ·have:=cd (n:=n) oM
      rw [← hI.2.2.1,h1] at this
      simp at this ⊢;omega
    ·dsimp only;omega
   ·refine jY (vs:=[_,_]) ?_
    rw [dD,j6,if_pos oM,← hI.2.2.1,eR oM hI.1]
theorem f4 {n : Int} (h : 0 ≤ n ∧ n ≤ 999999) : am abK 136 [I n] G (· = S (bi n)):=by
 have e : j6 n = Tu [S (bi n),Bo true]:=by rw [j6,if_pos h]
 have cx_NumPut : am abK 172 [I n] G (· = Tu [S (bi n),Bo true]):=by rw [← e];exact vx
 refine jE [(0,_)] Tryz.func136 Tryz.ntmps136 fun B hB=>?_
 repeat' (first | refine jR ?_ | (refine jo ?_;refine ab F F F cx_NumPut F ?_))
 refine jY (vs:=[_]) ?_
 rfl
theorem pj {s : abL} (h : s.length ≤ 999999) : am abK 137 [S s] G (· = S (bi s.length ++ s)):=by
 have:=cd (n:=s.length) oM
 refine jE [(0,_)] Tryz.func137 Tryz.ntmps137 fun B hB=>?_
 repeat' (first | refine jM ?_ | (refine jo ?_;refine ab F F F (f4 oM) F ?_))
 refine jY (vs:=[_]) ?_
 rfl
theorem aaN {s : abL} (h : s.length ≤ 9000000000000000000) : am abK 35 [S s] G (· = I (d8 s)):=by
 refine jE [(0,_)] Tryz.func35 Tryz.ntmps35 fun B hB=>?_
 repeat' (refine jR ?_)
 refine aR (ι:=Nat × Int) (fun i=>i.1 ≤ s.length ∧ 0 ≤ i.2 ∧ i.2 < 9973 ∧ oY i.2 (s.drop i.1) = d8 s) (fun i=>[(0,S s),(3,I i.2),(6,I s.length),(7,I i.1)]) (fun _=>G) (fun i=>[]) (fun i=>s.length - i.1) (0,1) ?_ tU F aX (fun i hI=>?_)
 ·dsimp only;refine ⟨?_,?_,?_,?_⟩ <;> first | omega | rfl
 ·obtain ⟨i,m⟩:=i
  dsimp only at hI ⊢
  have:=jr s i
  repeat' (first | refine jX ?_ | refine cT F (fun _=>?_) (fun _=>?_))
  ·obtain ⟨c,h1,h2⟩:=fw (l:=s) (i:=i) oM
   refine aW (i + 1,(m * 31 + bt s i) % 9973) ?_ ?_ tU F aX
   ·refine ⟨?_,?_,?_,?_⟩ <;> dsimp only
    ·omega
    ·omega
    ·omega
    ·rw [← hI.2.2.2,h1,h2];rfl
   ·dsimp only;omega
  ·refine jY (vs:=[_]) ?_
   have : i = s.length:=oM
   rw [ar,← hI.2.2.2,this,List.drop_length];rfl
theorem pk {s : abL} (h : s.length ≤ 9000000000000000000) : am abK 29 [S s] G (· = I (d8 s)):=by
 refine jE [(0,_)] Tryz.func29 Tryz.ntmps29 fun B hB=>?_
 repeat' (refine jR ?_)
 refine aR (ι:=Nat × Int) (fun i=>i.1 ≤ s.length ∧ 0 ≤ i.2 ∧ i.2 < 9973 ∧ oY i.2 (s.drop i.1) = d8 s) (fun i=>[(0,S s),(3,I i.2),(4,I i.1)]) (fun _=>G) (fun i=>[]) (fun i=>s.length - i.1) (0,1) ?_ tU F aX (fun i hI=>?_)
 ·dsimp only;refine ⟨?_,?_,?_,?_⟩ <;> first | omega | rfl
 ·obtain ⟨i,m⟩:=i
  dsimp only at hI ⊢
  have:=jr s i
  repeat' (first | refine jX ?_ | refine cT F (fun _=>?_) (fun _=>?_))
  ·obtain ⟨c,h1,h2⟩:=fw (l:=s) (i:=i) oM
   refine aW (i + 1,(31 * m + bt s i) % 9973) ?_ ?_ tU F aX
   ·refine ⟨?_,?_,?_,?_⟩ <;> dsimp only
    ·omega
    ·omega
    ·omega
    ·rw [← hI.2.2.2,h1,h2,Int.mul_comm];rfl
   ·dsimp only;omega
  ·refine jY (vs:=[_]) ?_
   have : i = s.length:=oM
   rw [ar,← hI.2.2.2,this,List.drop_length];rfl
theorem rY {s : abL} (h : s.length ≤ 9000000000000000000) : am abK 139 [S s] G (· = Tu [S (kd s),Bo (uO s)]):=by
 have h1:=kp s
 have h2:=m7 s
 have h3 : s.length ≤ 100 → (bi s.length).length ≤ 3:=fun h=>cd oM
 refine jE [(0,_)] Tryz.func139 Tryz.ntmps139 fun B hB=>?_
 repeat' (first | refine jX ?_ | (refine jo ?_;first | refine ab F F F (pj oM) F ?_ | refine ab F F F (aaN ‹_›) F ?_ | refine ab F F F (f4 oM) F ?_) | refine cT F (fun _=>?_) (fun _=>?_))
 ·refine jY (vs:=[_,_]) ?_
  exact aaC oM
 ·refine jY (vs:=[_,_]) ?_
  rw [dD,← y9 oM]
  simp [frame]
  rfl
def ngV (o : Option (Int × abL)) : Value:=match o with
 | some (n,r)=>Tu [I n,S r,Bo true]
 | none=>Tu [I 0,S [],Bo false]
def tkV (o : Option (abL × abL)) : Value:=match o with
 | some (p,r)=>Tu [S p,S r,Bo true]
 | none=>Tu [S [],S [],Bo false]
def fj : Nat → Nat → abL → Option (Int × abL)
 | 0,_,s=>bc s
 | 1,m,s=>fK m s
 | 2,m,s=>fk m s
 | _,_,_=>none
theorem pB : ∀ {i m : Nat},fj i m [] = none
 | 0,_=>rfl
 | 1,_=>rfl
 | 2,_=>rfl
 | _ + 3,_=>rfl
def da : Nat → Int
 | 0=>1
 | 1=>128
 | 2=>16384
 | _=>2097152
def iZ : Nat → Nat
 | 0=>1
 | 1=>128
 | 2=>16384
 | _=>2097152
theorem pE {m : Nat} {c : UInt8} {r : abL} (h : c.toNat < 128) : fj 0 m (c :: r) = some ((c.toNat : Int),r):=by show bc (c :: r) = _;rw [bc,if_pos h]
theorem pH {m : Nat} {c : UInt8} {r : abL} (h : ¬ c.toNat < 128) : fj 0 m (c :: r) = fj 1 (c.toNat % 128) r:=by show bc (c :: r) = fK (c.toNat % 128) r;rw [bc,if_neg h]
theorem mm {i m : Nat} {c : UInt8} {r : abL} (h : c.toNat = 0) (hi : 1 ≤ i) : fj i m (c :: r) = none:=by
 match i,hi with
 | 1,_=>show fK m (c :: r) = none;rw [fK,if_pos oM,if_pos h]
 | 2,_=>show fk m (c :: r) = none;rw [fk,if_pos oM,if_pos (.inl h)]
 | _ + 3,_=>rfl
theorem pD {m : Nat} {c : UInt8} {r : abL} (h : c.toNat < 128) (h0 : c.toNat ≠ 0) : fj 1 m (c :: r) = some (((m + c.toNat * 128 : Nat) : Int),r):=by show fK m (c :: r) = _;rw [fK,if_pos h,if_neg h0]
theorem pG {m : Nat} {c : UInt8} {r : abL} (h : ¬ c.toNat < 128) : fj 1 m (c :: r) = fj 2 (m + c.toNat % 128 * 128) r:=by show fK m (c :: r) = fk (m + c.toNat % 128 * 128) r;rw [fK,if_neg h]
theorem pC {m : Nat} {c : UInt8} {r : abL} (h : c.toNat < 128) (h0 : c.toNat ≠ 0) (hm : m + c.toNat * 16384 ≤ 999999) : fj 2 m (c :: r) = some (((m + c.toNat * 16384 : Nat) : Int),r):=by show fk m (c :: r) = _;rw [fk,if_pos h,if_neg oM]
theorem pI {m : Nat} {c : UInt8} {r : abL} (h : c.toNat < 128) (hm : ¬ m + c.toNat * 16384 ≤ 999999) : fj 2 m (c :: r) = none:=by show fk m (c :: r) = _;rw [fk,if_pos h,if_pos oM]
theorem pF {m : Nat} {c : UInt8} {r : abL} (h : ¬ c.toNat < 128) : fj 2 m (c :: r) = none:=by show fk m (c :: r) = _;rw [fk,if_neg h]
theorem dR {s : abL} (hs : s.length ≤ 1000000) : am abK 71 [S s] G (· = ngV (bc s)):=by
 refine jE [(0,_)] Tryz.func71 Tryz.ntmps71 fun B hB=>?_
 repeat' (refine jR ?_)
 refine aR (ι:=Nat × Nat) (fun q=>(q.1 ≤ s.length ∧ q.1 ≤ 3) ∧ q.2 < iZ q.1 ∧ bc s = fj q.1 q.2 (s.drop q.1)) (fun q=>[(0,S s),(5,I q.2),(6,I (da q.1)),(7,I q.1)]) (fun _=>G) (fun q=>[]) (fun q=>s.length - q.1) (0,0) ?_ tU F aX (fun q Hq=>?_)
 ·exact ⟨⟨Nat.zero_le _,by decide⟩,by decide,F⟩
 obtain ⟨i,m⟩:=q
 dsimp only at Hq ⊢
 obtain ⟨⟨hi0,hi3⟩,hm,hng⟩:=Hq
 by_cases hi : i < s.length
 case neg =>
  have hno : bc s = none:=by rw [hng,List.drop_of_length_le oM];exact pB
  rw [hno]
  repeat' (first | refine jR ?_ | (refine jo ?_;refine av F ?_) | refine al F F (aC oM) ?_ | refine ad F F ?_)
  all_goals refine jY (vs:=[_,_,_]) ?_
  all_goals rfl
 by_cases h3 : i = 3
 ·subst h3
  have hno : bc s = none:=by rw [hng];rfl
  rw [hno]
  repeat' (first | refine jR ?_ | (refine jo ?_;refine aL F ?_) | refine aD F F (ay oM) ?_ | refine ad F F ?_)
  all_goals refine jY (vs:=[_,_,_]) ?_
  all_goals rfl
 obtain ⟨c,hc1,hc2⟩:=fw hi
 rw [hc1] at hng
 have hc3 : bt s ((i : Int).toNat) = c.toNat:=hc2
 have hcl:=c.toNat_lt
 have hdl : s.drop ((i : Int) + 1).toNat = s.drop (i + 1):=by congr 1
 obtain rfl | rfl | rfl : i = 0 ∨ i = 1 ∨ i = 2:=oM
 ·have hm : m < 1:=hm
  rw [show da 0 = 1 from rfl]
  by_cases h1 : c.toNat < 128
  ·rw [pE h1] at hng
   rw [hng]
   repeat' (first | refine jM ?_ | (refine jo ?_;first | refine aL F ?_ | refine av F ?_) | refine aD F F (ay oM) ?_ | refine al F F F ?_ | (refine ac F (by first | rfl | (refine decide_eq_true ?_;(omega))) ?_) | refine ad F (aC oM) ?_ | (refine ai (an (id:=11) _ (fun _ h=>h) ah ?_);refine jW 0 [0,1,2,3,4,5,6,7] (aa 8 255) ?_;refine jQ ?_))
   all_goals (try rw [hdl])
   all_goals refine jY (vs:=[_,_,_]) ?_
   all_goals (rw [hc3];exact (aB _ _ _).trans (congrArg (fun z : Int=>Tu [I z,S (s.drop (0 + 1)),Bo true]) oM))
  ·rw [pH h1] at hng
   repeat' (first | refine jM ?_ | (refine jo ?_;refine aL F ?_) | refine aD F F (ay oM) ?_ | refine ac F F ?_ | refine ad F (aC oM) ?_)
   refine Nx.re (d:=5) (v':=I ((c.toNat % 128 : Nat) : Int)) F (congrArg (Value.int .i64) (by rw [hc3];omega)) ?_
   refine Nx.re (d:=6) (v':=I (da 1)) F (congrArg (Value.int .i64) F) ?_
   refine Nx.re (d:=7) (v':=I ((1 : Nat) : Int)) F (congrArg (Value.int .i64) F) ?_
   exact aW (1,c.toNat % 128) ⟨⟨oM,oM⟩,by show _ < _;simp only [iZ];omega,hng⟩ oM tU rfl aX
 ·have hm : m < 128:=hm
  rw [show da 1 = 128 from rfl]
  by_cases h1 : c.toNat < 128
  ·by_cases h0 : c.toNat = 0
   ·rw [mm h0 dC] at hng
    rw [hng]
    repeat' (first | refine jM ?_ | (refine jo ?_;refine aL F ?_) | (refine aD F F (by first | rfl | (refine decide_eq_true ?_;(omega))) ?_) | (refine ac F (by first | rfl | (refine decide_eq_true ?_;(omega))) ?_))
    all_goals refine jY (vs:=[_,_,_]) ?_
    all_goals rfl
   rw [pD h1 h0] at hng
   rw [hng]
   repeat' (first | refine jM ?_ | (refine jo ?_;first | refine aL F ?_ | refine av F ?_) | (refine aD F F (by first | rfl | (refine decide_eq_true ?_;(omega))) ?_) | refine al F F (aC oM) ?_ | (refine ac F (by first | rfl | (refine decide_eq_true ?_;(omega))) ?_) | refine ad F (aC oM) ?_ | (refine ai (an (id:=11) _ (fun _ h=>h) ah ?_);refine jW 0 [0,1,2,3,4,5,6,7] (aa 8 255) ?_;refine jQ ?_))
   all_goals (try rw [hdl])
   all_goals refine jY (vs:=[_,_,_]) ?_
   all_goals (rw [hc3];exact (aB _ _ _).trans (congrArg (fun z : Int=>Tu [I z,S (s.drop (1 + 1)),Bo true]) oM))
  ·rw [pG h1] at hng
   repeat' (first | refine jM ?_ | (refine jo ?_;refine aL F ?_) | refine aD F F (ay oM) ?_ | refine ac F F ?_ | refine ad F (aC oM) ?_)
   refine Nx.re (d:=5) (v':=I ((m + c.toNat % 128 * 128 : Nat) : Int)) F (congrArg (Value.int .i64) (by rw [hc3];omega)) ?_
   refine Nx.re (d:=6) (v':=I (da 2)) F (congrArg (Value.int .i64) (by show _ = (16384 : Int);omega)) ?_
   refine Nx.re (d:=7) (v':=I ((2 : Nat) : Int)) F (congrArg (Value.int .i64) F) ?_
   exact aW (2,m + c.toNat % 128 * 128) ⟨⟨oM,oM⟩,by show _ < _;simp only [iZ];omega,hng⟩ oM tU rfl aX
 ·have hm : m < 16384:=hm
  rw [show da 2 = 16384 from rfl]
  by_cases h1 : c.toNat < 128
  ·by_cases h0 : c.toNat = 0
   ·rw [mm h0 dC] at hng
    rw [hng]
    repeat' (first | refine jM ?_ | (refine jo ?_;refine aL F ?_) | (refine aD F F (by first | rfl | (refine decide_eq_true ?_;(omega))) ?_) | (refine ac F (by first | rfl | (refine decide_eq_true ?_;(omega))) ?_))
    all_goals refine jY (vs:=[_,_,_]) ?_
    all_goals rfl
   by_cases hbig : m + c.toNat * 16384 ≤ 999999
   case neg =>
    rw [pI h1 hbig] at hng
    rw [hng]
    repeat' (first | refine jM ?_ | (refine jo ?_;first | refine aL F ?_ | refine av F ?_) | (refine aD F F (by first | rfl | (refine decide_eq_true ?_;(omega))) ?_) | refine al F F (aC oM) ?_ | (refine ac F (by first | rfl | (refine decide_eq_true ?_;(omega))) ?_))
    all_goals refine jY (vs:=[_,_,_]) ?_
    all_goals rfl
   rw [pC h1 h0 hbig] at hng
   rw [hng]
   repeat' (first | refine jM ?_ | (refine jo ?_;first | refine aL F ?_ | refine av F ?_) | (refine aD F F (by first | rfl | (refine decide_eq_true ?_;(omega))) ?_) | refine al F F (aC oM) ?_ | (refine ac F (by first | rfl | (refine decide_eq_true ?_;(omega))) ?_) | refine ad F (aC oM) ?_ | (refine ai (an (id:=11) _ (fun _ h=>h) ah ?_);refine jW 0 [0,1,2,3,4,5,6,7] (aa 8 255) ?_;refine jQ ?_))
   all_goals (try rw [hdl])
   all_goals refine jY (vs:=[_,_,_]) ?_
   all_goals (rw [hc3];exact (aB _ _ _).trans (congrArg (fun z : Int=>Tu [I z,S (s.drop (2 + 1)),Bo true]) oM))
  ·rw [pF h1] at hng
   repeat' (first | refine jM ?_ | (refine jo ?_;refine aL F ?_) | refine aD F F (ay oM) ?_ | refine ac F F ?_ | refine ad F (aC oM) ?_)
   refine Nx.re (d:=5) (v':=I ((m + c.toNat % 128 * 16384 : Nat) : Int)) F (congrArg (Value.int .i64) (by rw [hc3];omega)) ?_
   refine Nx.re (d:=6) (v':=I (da 3)) F (congrArg (Value.int .i64) (by show _ = (2097152 : Int);omega)) ?_
   refine Nx.re (d:=7) (v':=I ((3 : Nat) : Int)) F (congrArg (Value.int .i64) F) ?_
   exact aW (3,m + c.toNat % 128 * 16384) ⟨⟨oM,oM⟩,by show _ < _;simp only [iZ];omega,hng⟩ oM tU rfl aX
theorem jq {s : abL} (hs : s.length ≤ 1000000) : am abK 34 [S s] G (· = ngV (bc s)):=by
 refine jE [(0,_)] Tryz.func34 Tryz.ntmps34 fun B hB=>?_
 repeat' (refine jR ?_)
 refine aR (ι:=Nat × Nat) (fun q=>(q.1 ≤ s.length ∧ q.1 ≤ 3) ∧ q.2 < iZ q.1 ∧ bc s = fj q.1 q.2 (s.drop q.1)) (fun q=>[(0,S s),(5,I q.2),(6,I (da q.1)),(7,I q.1)]) (fun _=>G) (fun q=>[]) (fun q=>s.length - q.1) (0,0) ?_ tU F aX (fun q Hq=>?_)
 ·exact ⟨⟨Nat.zero_le _,by decide⟩,by decide,F⟩
 obtain ⟨i,m⟩:=q
 dsimp only at Hq ⊢
 obtain ⟨⟨hi0,hi3⟩,hm,hng⟩:=Hq
 by_cases hi : i < s.length
 case neg =>
  have hno : bc s = none:=by rw [hng,List.drop_of_length_le oM];exact pB
  rw [hno]
  repeat' (first | refine jR ?_ | (refine jo ?_;refine av F ?_) | refine al F F (aC oM) ?_ | refine ad F F ?_)
  all_goals refine jY (vs:=[_,_,_]) ?_
  all_goals rfl
 by_cases h3 : i = 3
 ·subst h3
  have hno : bc s = none:=by rw [hng];rfl
  rw [hno]
  repeat' (first | refine jR ?_ | (refine jo ?_;refine aL F ?_) | refine aD F F (ay oM) ?_ | refine ad F F ?_)
  all_goals refine jY (vs:=[_,_,_]) ?_
  all_goals rfl
 obtain ⟨c,hc1,hc2⟩:=fw hi
 rw [hc1] at hng
 have hc3 : bt s ((i : Int).toNat) = c.toNat:=hc2
 have hcl:=c.toNat_lt
 have hdl : s.drop ((i : Int) + 1).toNat = s.drop (i + 1):=by congr 1
 obtain rfl | rfl | rfl : i = 0 ∨ i = 1 ∨ i = 2:=oM
 ·have hm : m < 1:=hm
  rw [show da 0 = 1 from rfl]
  by_cases h1 : c.toNat < 128
  ·rw [pE h1] at hng
   rw [hng]
   repeat' (first | refine jM ?_ | (refine jo ?_;first | refine aL F ?_ | refine av F ?_) | refine aD F F (ay oM) ?_ | refine al F F F ?_ | (refine ac F (by first | rfl | (refine decide_eq_true ?_;(omega))) ?_) | refine ad F (aC oM) ?_ | (refine ai (an (id:=11) _ (fun _ h=>h) ah ?_);refine jW 0 [0,1,2,3,4,5,6,7] (aa 8 255) ?_;refine jQ ?_))
   all_goals (try rw [hdl])
   all_goals refine jY (vs:=[_,_,_]) ?_
   all_goals (rw [hc3];exact (aB _ _ _).trans (congrArg (fun z : Int=>Tu [I z,S (s.drop (0 + 1)),Bo true]) oM))
  ·rw [pH h1] at hng
   repeat' (first | refine jM ?_ | (refine jo ?_;refine aL F ?_) | refine aD F F (ay oM) ?_ | refine ac F F ?_ | refine ad F (aC oM) ?_)
   refine Nx.re (d:=5) (v':=I ((c.toNat % 128 : Nat) : Int)) F (congrArg (Value.int .i64) (by rw [hc3];omega)) ?_
   refine Nx.re (d:=6) (v':=I (da 1)) F (congrArg (Value.int .i64) F) ?_
   refine Nx.re (d:=7) (v':=I ((1 : Nat) : Int)) F (congrArg (Value.int .i64) F) ?_
   exact aW (1,c.toNat % 128) ⟨⟨oM,oM⟩,by show _ < _;simp only [iZ];omega,hng⟩ oM tU rfl aX
 ·have hm : m < 128:=hm
  rw [show da 1 = 128 from rfl]
  by_cases h1 : c.toNat < 128
  ·by_cases h0 : c.toNat = 0
   ·rw [mm h0 dC] at hng
    rw [hng]
    repeat' (first | refine jM ?_ | (refine jo ?_;refine aL F ?_) | (refine aD F F (by first | rfl | (refine decide_eq_true ?_;(omega))) ?_) | (refine ac F (by first | rfl | (refine decide_eq_true ?_;(omega))) ?_))
    all_goals refine jY (vs:=[_,_,_]) ?_
    all_goals rfl
   rw [pD h1 h0] at hng
   rw [hng]
   repeat' (first | refine jM ?_ | (refine jo ?_;first | refine aL F ?_ | refine av F ?_) | (refine aD F F (by first | rfl | (refine decide_eq_true ?_;(omega))) ?_) | refine al F F (aC oM) ?_ | (refine ac F (by first | rfl | (refine decide_eq_true ?_;(omega))) ?_) | refine ad F (aC oM) ?_ | (refine ai (an (id:=11) _ (fun _ h=>h) ah ?_);refine jW 0 [0,1,2,3,4,5,6,7] (aa 8 255) ?_;refine jQ ?_))
   all_goals (try rw [hdl])
   all_goals refine jY (vs:=[_,_,_]) ?_
   all_goals (rw [hc3];exact (aB _ _ _).trans (congrArg (fun z : Int=>Tu [I z,S (s.drop (1 + 1)),Bo true]) oM))
  ·rw [pG h1] at hng
   repeat' (first | refine jM ?_ | (refine jo ?_;refine aL F ?_) | refine aD F F (ay oM) ?_ | refine ac F F ?_ | refine ad F (aC oM) ?_)
   refine Nx.re (d:=5) (v':=I ((m + c.toNat % 128 * 128 : Nat) : Int)) F (congrArg (Value.int .i64) (by rw [hc3];omega)) ?_
   refine Nx.re (d:=6) (v':=I (da 2)) F (congrArg (Value.int .i64) (by show _ = (16384 : Int);omega)) ?_
   refine Nx.re (d:=7) (v':=I ((2 : Nat) : Int)) F (congrArg (Value.int .i64) F) ?_
   exact aW (2,m + c.toNat % 128 * 128) ⟨⟨oM,oM⟩,by show _ < _;simp only [iZ];omega,hng⟩ oM tU rfl aX
 ·have hm : m < 16384:=hm
  rw [show da 2 = 16384 from rfl]
  by_cases h1 : c.toNat < 128
  ·by_cases h0 : c.toNat = 0
   ·rw [mm h0 dC] at hng
    rw [hng]
    repeat' (first | refine jM ?_ | (refine jo ?_;refine aL F ?_) | (refine aD F F (by first | rfl | (refine decide_eq_true ?_;(omega))) ?_) | (refine ac F (by first | rfl | (refine decide_eq_true ?_;(omega))) ?_))
    all_goals refine jY (vs:=[_,_,_]) ?_
    all_goals rfl
   by_cases hbig : m + c.toNat * 16384 ≤ 999999
   case neg =>
    rw [pI h1 hbig] at hng
    rw [hng]
    repeat' (first | refine jM ?_ | (refine jo ?_;first | refine aL F ?_ | refine av F ?_) | (refine aD F F (by first | rfl | (refine decide_eq_true ?_;(omega))) ?_) | refine al F F (aC oM) ?_ | (refine ac F (by first | rfl | (refine decide_eq_true ?_;(omega))) ?_))
    all_goals refine jY (vs:=[_,_,_]) ?_
    all_goals rfl
   rw [pC h1 h0 hbig] at hng
   rw [hng]
   repeat' (first | refine jM ?_ | (refine jo ?_;first | refine aL F ?_ | refine av F ?_) | (refine aD F F (by first | rfl | (refine decide_eq_true ?_;(omega))) ?_) | refine al F F (aC oM) ?_ | (refine ac F (by first | rfl | (refine decide_eq_true ?_;(omega))) ?_) | refine ad F (aC oM) ?_ | (refine ai (an (id:=11) _ (fun _ h=>h) ah ?_);refine jW 0 [0,1,2,3,4,5,6,7] (aa 8 255) ?_;refine jQ ?_))
   all_goals (try rw [hdl])
   all_goals refine jY (vs:=[_,_,_]) ?_
   all_goals (rw [hc3];exact (aB _ _ _).trans (congrArg (fun z : Int=>Tu [I z,S (s.drop (2 + 1)),Bo true]) oM))
  ·rw [pF h1] at hng
   repeat' (first | refine jM ?_ | (refine jo ?_;refine aL F ?_) | refine aD F F (ay oM) ?_ | refine ac F F ?_ | refine ad F (aC oM) ?_)
   refine Nx.re (d:=5) (v':=I ((m + c.toNat % 128 * 16384 : Nat) : Int)) F (congrArg (Value.int .i64) (by rw [hc3];omega)) ?_
   refine Nx.re (d:=6) (v':=I (da 3)) F (congrArg (Value.int .i64) (by show _ = (2097152 : Int);omega)) ?_
   refine Nx.re (d:=7) (v':=I ((3 : Nat) : Int)) F (congrArg (Value.int .i64) F) ?_
   exact aW (3,m + c.toNat % 128 * 16384) ⟨⟨oM,oM⟩,by show _ < _;simp only [iZ];omega,hng⟩ oM tU rfl aX
theorem iU {s : abL} (hs : s.length ≤ 1000000) : am abK 38 [S s] G (· = tkV (bL s)):=by
 have cx_ng0:=dR (G:=G) (s:=s) hs
 unfold bL
 cases hg : bc s with
 | none =>
  rw [hg] at cx_ng0
  have cx_ng : am abK 71 [S s] G (· = Tu [I 0,S [],Bo false]):=cx_ng0
  refine jE [(0,_)] Tryz.func38 Tryz.ntmps38 fun B hB=>?_
  repeat' (first | refine jR ?_ | (refine jo ?_;first | refine aL F ?_ | refine ab F F F cx_ng F ?_) | refine aD F F F ?_ | refine ac F F ?_)
  all_goals refine jY (vs:=[_,_,_]) ?_
  all_goals rfl
 | some z =>
  obtain ⟨n,r⟩:=z
  obtain ⟨h0,h1,_⟩:=cm hg
  have hl:=bx hg
  rw [hg] at cx_ng0
  have cx_ng : am abK 71 [S s] G (· = Tu [I n,S r,Bo true]):=cx_ng0
  dsimp only
  by_cases hb : n.toNat ≤ r.length
  ·rw [if_pos hb]
   refine jE [(0,_)] Tryz.func38 Tryz.ntmps38 fun B hB=>?_
   repeat' (first | refine jR ?_ | (refine jo ?_;first | refine av F ?_ | refine ab F F F cx_ng F ?_) | refine al F F F ?_ | refine ad F (aC oM) ?_ | (refine ai (an (id:=4) _ (fun _ h=>h) ah ?_);refine jW 0 [0,1,2,3,4,5,6,7,8] (aa 9 511) ?_;refine jQ ?_))
   all_goals refine jY (vs:=[_,_,_]) ?_
   all_goals rfl
  ·rw [if_neg hb]
   refine jE [(0,_)] Tryz.func38 Tryz.ntmps38 fun B hB=>?_
   repeat' (first | refine jR ?_ | (refine jo ?_;first | refine av F ?_ | refine ab F F F cx_ng F ?_) | refine al F F F ?_ | refine ac F (ay oM) ?_)
   all_goals refine jY (vs:=[_,_,_]) ?_
   all_goals rfl
theorem dZ {r sc m c : Nat} {s q : abL} {b : Bool} {a : Option Addr} {d n : Int} (h : bc s = some (n,q)) (hs : s.length ≤ 1000) : bQ abK 44 [Pt r 0] G [bD r sc s b a m c d] (fun v L'=>v = I n ∧ L' = [bD r sc q b a m c d]):=by
 have cx_ng0:=jq (G:=G) (s:=s) oM
 rw [h] at cx_ng0
 have cx_ngi : am abK 34 [S s] G (· = Tu [I n,S q,Bo true]):=cx_ng0
 refine jH [(0,_)] Tryz.func44 Tryz.ntmps44 fun B hB hW=>?_
 repeat' (first | refine jR ?_ | (refine jo ?_;first | refine aj F ?_ | refine jD F F F ?_ | refine ab F F F cx_ngi F ?_) | refine ad F F ?_)
 all_goals exact aZ (vs:=[_]) F ⟨F,trivial⟩ F (List.Sublist.refl _) ⟨F,F,F⟩
theorem fy {r sc m c : Nat} {s : abL} {b : Bool} {a : Option Addr} {d : Int} (h : bc s = none) (hs : s.length ≤ 1000) : bQ abK 44 [Pt r 0] G [bD r sc s b a m c d] (fun v L'=>v = I 0 ∧ L' = [bD r sc [] true a m c d]):=by
 have cx_ng0:=jq (G:=G) (s:=s) oM
 rw [h] at cx_ng0
 have cx_ngi : am abK 34 [S s] G (· = Tu [I 0,S [],Bo false]):=cx_ng0
 refine jH [(0,_)] Tryz.func44 Tryz.ntmps44 fun B hB hW=>?_
 repeat' (first | refine jR ?_ | (refine jo ?_;first | refine aj F ?_ | refine jD F F F ?_ | refine ab F F F cx_ngi F ?_) | refine ac F F ?_)
 all_goals exact aZ (vs:=[_]) F ⟨F,trivial⟩ F (List.Sublist.refl _) ⟨F,F,F⟩
abbrev eY : TypeId:=73
abbrev lr : TypeId:=104
abbrev qn : TypeId:=99
theorem cV {P : Program} {n : Nat} {E : bn} {B : Base} {G : Gh} {L R1 R : List Own} {e : Exit} {f : FuncId} {fi ca az xs : List Value} {b1 b2 : Nat} {c1 c2 : List Value} {T1 T2 : TypeId} {PostD : Value → Gh → List Own → Prop} {fn : Func} {rs : List ResultVar} {Post : Value → Gh → List Own → Prop}
  [h1 : DelB L b1 c1 T1 R1] [h2 : DelB R1 b2 c2 T2 R] (he : e = .ret ∨ e = .normal) (hv : fi ++ az ++ ca = xs) (hc : FnD P f xs G [.blk b1 (.cells c1.toArray T1 (0,0)),.blk b2 (.cells c2.toArray T2 (0,0))] PostD)
  (hr : fn.results = rs.toArray) (k : ∀ v G' L',PostD v G' L' → ∃ vs L'',g9 P (St B G' (L' ++ R)) E rs vs ∧ L''.Sublist (L' ++ R) ∧ Post (eh vs) G' L'') :
  Nx n [q6 f fi ca az] E B G L (cu P (.exit e) [] (vz P fn (dm B Post))):=aan he hv hc (h1.del.perm.trans (h2.del.perm.cons _)) hr k
theorem cC {x0 r sc n c : Nat} {s : abL} {b : Bool} {a : Option Addr} {d : Int} (hd : -1000 ≤ d ∧ d ≤ 1000) : FnD abK 122 [Pt x0 0] G [.blk x0 (.cells (List.toArray [Pt r 0]) eY (0,0)),bD r sc s b a n c d]
  (fun _ G' L'=>G' = G ∧ L' = [.blk x0 (.cells (List.toArray [Pt r 0]) eY (0,0)),bD r sc s b a n c (d - 1)]):=by
 refine xJ [(0,_)] Tryz.func122 kR Tryz.ntmps122 F F tU fun B hok hB hW=>?_
 repeat' (first | refine jM ?_ | (refine jo ?_;first | refine aj F ?_ | refine jD F F F ?_))
 all_goals exact nh (vs:=[]) F trivial F (List.Sublist.refl _) ⟨F,F⟩
def rJ (f : abL → Option (V × abL)) (s : abL) (b : Bool) (u : V) (s' : abL) (b' : Bool) : Prop :=
 s'.length ≤ s.length ∧ (b' = false → b = false ∧ f s = some (u,s')) ∧ (b' = true → b = true ∨ f s = none)
def jt (f : abL → Option (V × abL)) (r sc : Nat) (s : abL) (b : Bool) (d : Int) (v : Value) (G' : Gh) (L' : List Own) : Prop :=
 ∃ u c s' b' a n k,v = Ag (b6 c) ∧ V.rep G' u c ∧ L' = [bD r sc s' b' a n k d] ∧ (d ≠ 0 → a = none ∧ n = 0 ∧ k = 0) ∧ rJ f s b u s' b'
def p6 (n sc : Nat) (qs : List cx) : Prop:=∀ (G : Gh) (r : Nat) (k s : abL) (b : Bool),ScI G sc qs → aP (ak qs) k = true → s.length ≤ 1000 →
 dh abK 93 [Pt r 0,Ag (d4 k)] G [bD r sc s b none 0 0 (13 - (n : Int))] (jt (rb (ak qs) n k) r sc s b (13 - (n : Int)))
theorem cA {f : abL → Option (V × abL)} {r sc n k : Nat} {s s' : abL} {b b' : Bool} {d d' : Int} {u : V} {c : VC} {a : Option Addr} {G' : Gh} (hr : V.rep G' u c) (hd : d' = d) (hk : d ≠ 0 → a = none ∧ n = 0 ∧ k = 0) (h : rJ f s b u s' b') : jt f r sc s b d (Ag (b6 c)) G' [bD r sc s' b' a n k d']:=by
 subst hd;exact ⟨u,c,s',b',a,n,k,F,hr,F,hk,h⟩
theorem vE {f : abL → Option (V × abL)} {r sc : Nat} {k q : abL} {d e : Int} (h : e = d) (h0 : d ≠ 0) (hc : dh abK 93 [Pt r 0,Ag (d4 k)] G [bD r sc q false none 0 0 e] (jt f r sc q false e)) : dh abK 93 [Pt r 0,Ag [S (sg k),S (bs k),S (nm k)]] G [bD r sc q false none 0 0 d] (fun v G' L'=>∃ u c s' b',v = Ag (b6 c) ∧ V.rep G' u c ∧ L' = [bD r sc s' b' none 0 0 d] ∧ rJ f q false u s' b'):=by
 subst h
 refine hc.mono ?_
 rintro v G' L' ⟨h1,u,c,s',b',a,n,kk,rfl,h2,rfl,h3,h4⟩
 obtain ⟨rfl,rfl,rfl⟩:=h3 h0
 exact ⟨h1,u,c,s',b',F,h2,F,h4⟩
theorem j5 {ts : List Ty} {n : Nat} {k q t1 : abL} {u : V} {b1 : Bool} (h : rJ (rb ts n k) q false u t1 b1) : t1.length ≤ q.length ∧ (b1 = false → rb ts n k q = some (u,t1) ∧ u.tot + 100 * t1.length ≤ 100 * q.length ∧ t1.length < q.length) ∧ (b1 = true → rb ts n k q = none):=by
 obtain ⟨h1,h2,h3⟩:=h
 refine ⟨h1,fun h=>?_,fun h=>?_⟩
 ·obtain ⟨_,h4⟩:=h2 h
  exact ⟨h4,iH _ _ _ _ _ h4,nX _ _ _ _ _ h4⟩
 ·rcases h3 h with h4 | h4
  ·cases h4
  ·exact h4
theorem sN {r sc n : Nat} {qs : List cx} {k s : abL} {b : Bool} (h : b = true ∨ n = 0) (hs : s.length ≤ 1000) (hn : n ≤ 13) :
  dh abK 93 [Pt r 0,Ag [S (sg k),S (bs k),S (nm k)]] G [bD r sc s b none 0 0 (13 - (n : Int))] (jt (rb (ak qs) n k) r sc s b (13 - (n : Int))):=by
 have hno : b = true ∨ rb (ak qs) n k s = none:=by
  rcases h with h | rfl
  ·exact .inl h
  ·exact .inr F
 rcases h with rfl | rfl
 ·
  refine ch [(0,_),(1,_)] Tryz.func93 kR Tryz.ntmps93 F F tU fun B hok hB hW=>?_
  repeat' (first | refine jM ?_ | (refine jo ?_;first | refine jO fun _=>?_ | refine jL fun _=>?_ | refine aj F ?_ | refine jD F F F ?_ | refine jV (c6 F F) ?_))
  rename_i x2 x3 x4
  refine jo ?_
  refine ci (fi:=[]) (ca:=[Pt x2 0]) (az:=[]) F F ?_
  repeat' (first | refine jR ?_ | (refine jo ?_;first | refine aj F ?_ | refine jD F F F ?_ | refine jC F F F ?_ | refine jV (ao F F) ?_) | refine ac F F ?_ | refine cT F (fun _=>?_) (fun _=>?_))
  all_goals
   refine cV (.inl F) F (cC (x0:=x2) (r:=r) (sc:=sc) (s:=s) (b:=true) (a:=none) (n:=0) (c:=0) (d:=13 - (n : Int) + 1) oM) F ?_
   rintro v G' L' ⟨rfl,rfl⟩
   dsimp only [zA,fA]
   exact ⟨[_],[bD r sc s true none 0 0 (13 - (n : Int) + 1 - 1)],⟨aE F F F F,trivial⟩,sB,Gh.le.refl _,cA (c:=⟨0,[],0,none,0,0⟩) eZ oM (fun _=>⟨F,F,F⟩) ⟨Nat.le_refl _,fun h=>(by cases h),fun _=>hno⟩⟩
 ·
  refine ch [(0,_),(1,_)] Tryz.func93 kR Tryz.ntmps93 F F tU fun B hok hB hW=>?_
  repeat' (first | refine jM ?_ | (refine jo ?_;first | refine jO fun _=>?_ | refine jL fun _=>?_ | refine aj F ?_ | refine jD F F F ?_ | refine jV (c6 F F) ?_))
  rename_i x2 x3 x4
  refine jo ?_
  refine ci (fi:=[]) (ca:=[Pt x2 0]) (az:=[]) F F ?_
  repeat' (first | refine jR ?_ | (refine jo ?_;first | refine aj F ?_ | refine jD F F F ?_ | refine jC F F F ?_ | refine jV (ao F F) ?_) | refine ac F F ?_)
  all_goals
   refine cV (.inl F) F (cC (x0:=x2) (r:=r) (sc:=sc) (s:=s) (b:=true) (a:=none) (n:=0) (c:=0) (d:=13 - ((0 : Nat) : Int) + 1) oM) F ?_
   rintro v G' L' ⟨rfl,rfl⟩
   dsimp only [zA,fA]
   exact ⟨[_],[bD r sc s true none 0 0 (13 - ((0 : Nat) : Int) + 1 - 1)],⟨aE F F F F,trivial⟩,sB,Gh.le.refl _,cA (c:=⟨0,[],0,none,0,0⟩) eZ oM (fun _=>⟨F,F,F⟩) ⟨Nat.le_refl _,fun h=>(by cases h),fun _=>hno⟩⟩
theorem sS {n r sc m c : Nat} {qs : List cx} {k p s : abL} {d : Int} {a : Option Addr} (hd : d = 13 - (n : Int)) (hn : n ≤ 12) (hU : p6 n sc qs) (hS : ScI G sc qs) (hk : aP (ak qs) k = true) (hs : p.length ≤ 1000) :
  dh abK 127 [Pt r 0,Ag [S (sg k),S (bs k),S (nm k)],S p] G [bD r sc s false a m c d] (fun v G' L'=>∃ u cc b',v = Ag (b6 cc) ∧ V.rep G' u cc ∧ L' = [bD r sc s b' a m c d] ∧ (b' = false → cG (rb (ak qs) n) k p = some u ∧ u.tot ≤ 100 * p.length) ∧ (b' = true → cG (rb (ak qs) n) k p = none)):=by
 have cx_vl : ∀ y,dh abK 93 [Pt y 0,Ag [S (sg k),S (bs k),S (nm k)]] G [bD y sc p false none 0 0 d] (fun v G' L'=>∃ u c s' b',v = Ag (b6 c) ∧ V.rep G' u c ∧ L' = [bD y sc s' b' none 0 0 d] ∧ rJ (rb (ak qs) n k) p false u s' b'):=fun y=>vE hd.symm oM (hU G y k p false hS hk hs)
 refine cr [(0,_),(1,_),(2,_)] Tryz.func127 kR Tryz.ntmps127 F F tU fun B hB hW=>?_
 repeat' (first | refine jR ?_ | (refine jo ?_;first | refine jO fun _=>?_ | refine jL fun _=>?_ | refine aG F ?_) | (refine ai (an (id:=1) _ (fun _ h=>h) ah ?_);refine jT 5 [0,1,2,4,5,6,7] (aa 12 247) ?_;(refine jG (aa 12 255) 3 F (aq F F F) ?_);(refine jG (aa 12 511) 8 F (aq F F F) ?_);(refine jG (aa 12 1023) 9 F (ao F F) ?_);refine jA 10 F ?_;(refine jO fun _=>?_);refine jS (aa 12 2047) ?_;refine jT 0 [11] (aa 12 4095) ?_;refine jQ ?_))
 rename_i y
 refine jo ?_
 refine dI F F F (cx_vl y) F ?_
 rintro _ G1 _ hle ⟨u1,c1,t1,b1,rfl,hrep,rfl,hP⟩
 dsimp only [zA,fA]
 obtain ⟨hQ1,hQ2,hQ3⟩:=j5 hP
 cases b1 with
 | true =>
  have hno : cG (rb (ak qs) n) k p = none:=by unfold cG;rw [hQ3 rfl]
  repeat' (first | refine jR ?_ | (refine jo ?_;first | refine jL fun _=>?_ | refine aj F ?_ | refine aG F ?_ | refine jD F F F ?_ | refine jC F F F ?_ | refine aL F ?_) | refine aD F F F ?_ | refine ac F F ?_)
  all_goals refine aZ (vs:=[_]) F ⟨aE F F F F,trivial⟩ F sB ⟨hle,u1,c1,true,F,hrep,F,fun h=>(by cases h),fun _=>hno⟩
 | false =>
  obtain ⟨h1,h2,h3⟩:=hQ2 rfl
  cases t1 with
  | nil =>
   have hyes : cG (rb (ak qs) n) k p = some u1:=fR h1
   repeat' (first | refine jR ?_ | (refine jo ?_;first | refine jL fun _=>?_ | refine aj F ?_ | refine aG F ?_ | refine jC F F F ?_ | refine av F ?_) | refine al F F F ?_ | refine ad F F ?_)
   all_goals refine aZ (vs:=[_]) F ⟨aE F F F F,trivial⟩ F sB ⟨hle,u1,c1,false,F,hrep,F,fun _=>⟨hyes,by simpa using h2⟩,fun h=>(by cases h)⟩
  | cons e t1 =>
   have hno : cG (rb (ak qs) n) k p = none:=by unfold cG;rw [h1]
   repeat' (first | refine jR ?_ | (refine jo ?_;first | refine jL fun _=>?_ | refine aj F ?_ | refine aG F ?_ | refine jD F F F ?_ | refine jC F F F ?_ | refine av F ?_) | refine al F F F ?_ | refine ac F F ?_)
   all_goals refine aZ (vs:=[_]) F ⟨aE F F F F,trivial⟩ F sB ⟨hle,u1,c1,true,F,hrep,F,fun h=>(by cases h),fun _=>hno⟩
abbrev cP (r : Nat) (s : abL) (b : Bool) (a : Option Addr) (n c : Nat) (d : Int) : Own:=.blk r (.cells (List.toArray [.pointer none,S s,Bo b,.slice a n c,I d]) tBr (0,0))
theorem nB {r m n c : Nat} {s : abL} {a : Option Addr} {d : Int} (h : m ≤ s.length ∧ s.length ≤ 1000000) : bQ abK 45 [Pt r 0,I (m : Nat)] G [cP r s false a n c d] (fun v L'=>v = S (s.take m) ∧ L' = [cP r (s.drop m) false a n c d]):=by
 refine jH [(0,_),(1,_)] Tryz.func45 Tryz.ntmps45 fun B hB hW=>?_
 repeat' (first | refine jM ?_ | (refine jo ?_;first | refine aj F ?_ | refine av F ?_ | refine jD F F F ?_) | refine al F F F ?_ | refine ad F (aC oM) ?_)
 exact aZ (vs:=[_]) F ⟨F,trivial⟩ F (List.Sublist.refl _) ⟨F,F,F⟩
theorem k2 {r m n c : Nat} {s : abL} {b : Bool} {a : Option Addr} {d : Int} (h : b = true ∨ s.length < m) (hs : s.length ≤ 1000000 ∧ m ≤ 1000000) : bQ abK 45 [Pt r 0,I (m : Nat)] G [cP r s b a n c d] (fun v L'=>v = S [] ∧ L' = [cP r s true a n c d]):=by
 rcases h with rfl | h
 ·refine jH [(0,_),(1,_)] Tryz.func45 Tryz.ntmps45 fun B hB hW=>?_
  repeat' (first | refine jR ?_ | (refine jo ?_;first | refine aj F ?_ | refine aL F ?_ | refine jD F F F ?_) | refine aD F F F ?_ | refine ac F F ?_)
  all_goals exact aZ (vs:=[_]) F ⟨F,trivial⟩ F (List.Sublist.refl _) ⟨F,F,F⟩
 ·cases b
  ·refine jH [(0,_),(1,_)] Tryz.func45 Tryz.ntmps45 fun B hB hW=>?_
   repeat' (first | refine jR ?_ | (refine jo ?_;first | refine aj F ?_ | refine av F ?_ | refine jD F F F ?_) | refine al F F F ?_ | refine ac F (ay oM) ?_)
   all_goals exact aZ (vs:=[_]) F ⟨F,trivial⟩ F (List.Sublist.refl _) ⟨F,F,F⟩
  ·refine jH [(0,_),(1,_)] Tryz.func45 Tryz.ntmps45 fun B hB hW=>?_
   repeat' (first | refine jR ?_ | (refine jo ?_;first | refine aj F ?_ | refine aL F ?_ | refine jD F F F ?_) | refine aD F F F ?_ | refine ac F F ?_)
   all_goals exact aZ (vs:=[_]) F ⟨F,trivial⟩ F (List.Sublist.refl _) ⟨F,F,F⟩
theorem wo {r n c : Nat} {s q : abL} {x : Bool} {a : Option Addr} {d : Int} (h : bM s = some (x,q)) (hs : s.length ≤ 1000000) : bQ abK 49 [Pt r 0] G [cP r s false a n c d] (fun v L'=>v = Bo x ∧ L' = [cP r q false a n c d]):=by
 have e:=dO h
 subst e
 have hl : ((if x = true then 1 else 0) :: q).length = q.length + 1:=rfl
 have cx_tkb:=nB (G:=G) (r:=r) (m:=1) (n:=n) (c:=c) (s:=(if x = true then 1 else 0) :: q) (a:=a) (d:=d) ⟨oM,hs⟩
 cases x
 ·have cx_tkb : bQ abK 45 [Pt r 0,I 1] G [cP r (0 :: q) false a n c d] (fun v L'=>v = S [0] ∧ L' = [cP r q false a n c d]):=cx_tkb
  refine jH [(0,_)] Tryz.func49 Tryz.ntmps49 fun B hB hW=>?_
  repeat' (first | refine jR ?_ | (refine jo ?_;(refine af F F F cx_tkb F ?_;rintro _ _ ⟨rfl,rfl⟩;dsimp only [zA,fA])) | refine ad F F ?_)
  all_goals exact aZ (vs:=[_]) F ⟨F,trivial⟩ F (List.Sublist.refl _) ⟨F,F,F⟩
 ·have cx_tkb : bQ abK 45 [Pt r 0,I 1] G [cP r (1 :: q) false a n c d] (fun v L'=>v = S [1] ∧ L' = [cP r q false a n c d]):=cx_tkb
  refine jH [(0,_)] Tryz.func49 Tryz.ntmps49 fun B hB hW=>?_
  repeat' (first | refine jR ?_ | (refine jo ?_;(refine af F F F cx_tkb F ?_;rintro _ _ ⟨rfl,rfl⟩;dsimp only [zA,fA])) | refine ad F F ?_)
  all_goals exact aZ (vs:=[_]) F ⟨F,trivial⟩ F (List.Sublist.refl _) ⟨F,F,F⟩
theorem ro {r n c : Nat} {s : abL} {b : Bool} {a : Option Addr} {d : Int} (h : b = true ∨ bM s = none) (hs : s.length ≤ 1000000) : bQ abK 49 [Pt r 0] G [cP r s b a n c d] (fun v L'=>∃ q,(v = Bo false ∧ q.length ≤ s.length) ∧ L' = [cP r q true a n c d]):=by
 by_cases h1 : b = true ∨ s.length < 1
 ·have cx_tkb:=k2 (G:=G) (r:=r) (m:=1) (n:=n) (c:=c) (s:=s) (b:=b) (a:=a) (d:=d) h1 ⟨hs,oM⟩
  have cx_tkb : bQ abK 45 [Pt r 0,I 1] G [cP r s b a n c d] (fun v L'=>v = S [] ∧ L' = [cP r s true a n c d]):=cx_tkb
  refine jH [(0,_)] Tryz.func49 Tryz.ntmps49 fun B hB hW=>?_
  repeat' (first | refine jR ?_ | (refine jo ?_;(refine af F F F cx_tkb F ?_;rintro _ _ ⟨rfl,rfl⟩;dsimp only [zA,fA])) | refine ad F F ?_)
  all_goals exact aZ (vs:=[_]) F ⟨F,trivial⟩ F (List.Sublist.refl _) ⟨F,s,⟨F,Nat.le_refl _⟩,F⟩
 ·obtain rfl : b = false:=by cases b;rfl;exact absurd (.inl F) h1
  match s,h,hs,h1 with
  | [],_,_,h1=>exact absurd (.inr (by simp)) h1
  | e :: q,h,hs,_ =>
   have he : e.toNat ≠ 0 ∧ e.toNat ≠ 1:=by
    rcases h with h | h
    ·cases h
    ·unfold bM at h
     dsimp only at h
     split at h
     ·cases h
     ·split at h
      ·cases h
      ·exact ⟨by assumption,by assumption⟩
   have hl : (e :: q).length = q.length + 1:=rfl
   have cx_tkb:=nB (G:=G) (r:=r) (m:=1) (n:=n) (c:=c) (s:=e :: q) (a:=a) (d:=d) ⟨oM,hs⟩
   have cx_tkb : bQ abK 45 [Pt r 0,I 1] G [cP r (e :: q) false a n c d] (fun v L'=>v = S [e] ∧ L' = [cP r q false a n c d]):=cx_tkb
   have hne : ¬ [e] = [1]:=fun h=>by simp only [List.cons.injEq,and_true] at h;subst h;exact he.2 F
   have hbl : Op.bytesLess [e] [1] = false:=by
    cases hb : Op.bytesLess [e] [1] with
    | false=>rfl
    | true =>
     exfalso
     unfold Op.bytesLess at hb
     have h9 : ¬ e.toNat < (1 : UInt8).toNat:=by show ¬ e.toNat < 1;omega
     simp_all
   have hc : (!(Op.bytesLess [e] [1] || decide ([e] = [1]))) = true:=by rw [hbl,decide_eq_false hne];rfl
   refine jH [(0,_)] Tryz.func49 Tryz.ntmps49 fun B hB hW=>?_
   repeat' (first | refine jR ?_ | (refine jo ?_;first | refine jD F F F ?_ | (refine af F F F cx_tkb F ?_;rintro _ _ ⟨rfl,rfl⟩;dsimp only [zA,fA])) | refine ac F ‹_› ?_)
   all_goals exact aZ (vs:=[_]) F ⟨F,trivial⟩ F (List.Sublist.refl _) ⟨F,q,⟨by rw [decide_eq_false hne];all_goals rfl,oM⟩,rfl⟩
theorem ix {r m c : Nat} {s q : abL} {b : Bool} {a : Option Addr} {d n : Int} (h : bc s = some (n,q)) (hs : s.length ≤ 1000) : bQ abK 44 [Pt r 0] G [cP r s b a m c d] (fun v L'=>v = I n ∧ L' = [cP r q b a m c d]):=by
 have cx_ng0:=jq (G:=G) (s:=s) oM
 rw [h] at cx_ng0
 have cx_ngi : am abK 34 [S s] G (· = Tu [I n,S q,Bo true]):=cx_ng0
 refine jH [(0,_)] Tryz.func44 Tryz.ntmps44 fun B hB hW=>?_
 repeat' (first | refine jR ?_ | (refine jo ?_;first | refine aj F ?_ | refine jD F F F ?_ | refine ab F F F cx_ngi F ?_) | refine ad F F ?_)
 all_goals exact aZ (vs:=[_]) F ⟨F,trivial⟩ F (List.Sublist.refl _) ⟨F,F,F⟩
theorem mw {r m c : Nat} {s : abL} {b : Bool} {a : Option Addr} {d : Int} (h : bc s = none) (hs : s.length ≤ 1000) : bQ abK 44 [Pt r 0] G [cP r s b a m c d] (fun v L'=>v = I 0 ∧ L' = [cP r [] true a m c d]):=by
 have cx_ng0:=jq (G:=G) (s:=s) oM
 rw [h] at cx_ng0
 have cx_ngi : am abK 34 [S s] G (· = Tu [I 0,S [],Bo false]):=cx_ng0
 refine jH [(0,_)] Tryz.func44 Tryz.ntmps44 fun B hB hW=>?_
 repeat' (first | refine jR ?_ | (refine jo ?_;first | refine aj F ?_ | refine jD F F F ?_ | refine ab F F F cx_ngi F ?_) | refine ac F F ?_)
 all_goals exact aZ (vs:=[_]) F ⟨F,trivial⟩ F (List.Sublist.refl _) ⟨F,F,F⟩
theorem aab (x : abL) : cW (39 :: (x ++ [39])) = lN x:=by
 cases x with
 | nil=>simp [cW,wX,lN,bt]
 | cons c x =>
  have h:=sx (s:=39 :: (c :: x ++ [39]))
  have hne : (39 :: (c :: x ++ [39]) : abL) ≠ [39,39]:=fun e=>by simpa using congrArg List.length e
  have hl : (39 :: (c :: x ++ [39]) : abL).length = x.length + 3:=by simp
  have e0 : bt (39 :: (c :: x ++ [39]) : abL) 0 = 39:=rfl
  have e1 : bt (39 :: (c :: x ++ [39]) : abL) (x.length + 3 - 1) = 39:=by
   rw [show x.length + 3 - 1 = (x.length + 1) + 1 by omega,dJ,show x.length + 1 = (c :: x).length from rfl]
   simp [bt,List.getD]
  have e2 : ((39 :: (c :: x ++ [39]) : abL).take (x.length + 3 - 1)).drop 1 = c :: x:=by
   rw [show x.length + 3 - 1 = (c :: x).length + 1 by simp,List.take_succ_cons,List.take_left];rfl
  rw [hl,e0,e1,e2,decide_eq_true hne,Bool.and_true] at h
  rw [h,decide_eq_true oM]
  simp
theorem aaI {n r sc : Nat} {qs : List cx} {s : abL} {d : Int} (hd : d = 12 - (n : Int)) (hn : n ≤ 12) (hr : aV (ak qs) [110] = none) (hs : s.length ≤ 1000) :
  dh abK 93 [Pt r 0,Ag (d4 [110])] G [bD r sc s false none 0 0 d] (jt (rb (ak qs) (n + 1) [110]) r sc s false d):=by
 have cx_sign:=@dn G [110] []
 have hrd:=yD (ts:=ak qs) (n:=n) (s:=s) hr
 show dh abK 93 [Pt r 0,Ag [S [],S [110],S []]] G [bD r sc s false none 0 0 d] _
 cases hg : bc s with
 | none =>
  rw [hg] at hrd
  have cx_nb:=fy (G:=G) (r:=r) (sc:=sc) (m:=0) (c:=0) (b:=false) (a:=none) (d:=d + 1) hg hs
  refine ch [(0,_),(1,_)] Tryz.func93 kR Tryz.ntmps93 F F tU fun B hok hB hW=>?_
  repeat' (first | refine jM ?_ | (refine jo ?_;first | refine jO fun _=>?_ | refine jL fun _=>?_ | refine aj F ?_ | refine jD F F F ?_ | refine jV (c6 F F) ?_))
  rename_i x2 x3 x4
  refine jo ?_
  refine ci (fi:=[]) (ca:=[Pt x2 0]) (az:=[]) F F ?_
  repeat' (first | refine jR ?_ | (refine jo ?_;first | refine aj F ?_ | refine aG F ?_ | refine jC F F F ?_ | refine jV (ao F F) ?_ | refine ab F F F cx_sign F ?_ | (refine af F F F cx_nb F ?_;rintro _ _ ⟨rfl,rfl⟩;dsimp only [zA,fA]) | refine ab F F F (fB oM) F ?_) | refine ac F F ?_ | (refine ad F (by first | rfl | (refine decide_eq_false ?_;(omega))) ?_))
  all_goals
   refine cV (.inl F) F (cC (x0:=x2) (r:=r) (sc:=sc) (s:=[]) (b:=true) (a:=none) (n:=0) (c:=0) (d:=d + 1) oM) F ?_
   rintro v G' L' ⟨rfl,rfl⟩
   dsimp only [zA,fA]
   exact ⟨[_],[bD r sc [] true none 0 0 (d + 1 - 1)],⟨aE F F F F,trivial⟩,sB,Gh.le.refl _,cA (c:=⟨110,br 0,0,none,0,0⟩) (bj dC dC) oM (fun _=>⟨F,F,F⟩) ⟨by simp,fun h=>(by cases h),fun _=>.inr hrd⟩⟩
 | some z =>
  obtain ⟨m,q⟩:=z
  obtain ⟨h1,h2,_⟩:=cm hg
  have hl:=bx hg
  rw [hg] at hrd
  have cx_nb:=dZ (G:=G) (r:=r) (sc:=sc) (m:=0) (c:=0) (b:=false) (a:=none) (d:=d + 1) hg hs
  refine ch [(0,_),(1,_)] Tryz.func93 kR Tryz.ntmps93 F F tU fun B hok hB hW=>?_
  repeat' (first | refine jM ?_ | (refine jo ?_;first | refine jO fun _=>?_ | refine jL fun _=>?_ | refine aj F ?_ | refine jD F F F ?_ | refine jV (c6 F F) ?_))
  rename_i x2 x3 x4
  refine jo ?_
  refine ci (fi:=[]) (ca:=[Pt x2 0]) (az:=[]) F F ?_
  repeat' (first | refine jR ?_ | (refine jo ?_;first | refine aj F ?_ | refine aG F ?_ | refine jC F F F ?_ | refine jV (ao F F) ?_ | refine ab F F F cx_sign F ?_ | (refine af F F F cx_nb F ?_;rintro _ _ ⟨rfl,rfl⟩;dsimp only [zA,fA]) | refine ab F F F (fB oM) F ?_) | refine ac F F ?_ | (refine ad F (by first | rfl | (refine decide_eq_false ?_;(omega))) ?_))
  all_goals
   refine cV (.inl F) F (cC (x0:=x2) (r:=r) (sc:=sc) (s:=q) (b:=false) (a:=none) (n:=0) (c:=0) (d:=d + 1) oM) F ?_
   rintro v G' L' ⟨rfl,rfl⟩
   dsimp only [zA,fA]
   exact ⟨[_],[bD r sc q false none 0 0 (d + 1 - 1)],⟨aE F F F F,trivial⟩,sB,Gh.le.refl _,cA (c:=⟨110,br m,0,none,0,0⟩) (bj dC dC) oM (fun _=>⟨F,F,F⟩) ⟨oM,fun _=>⟨F,hrd⟩,fun h=>(by cases h)⟩⟩
theorem aaK {n r sc : Nat} {qs : List cx} {s : abL} {d : Int} (hd : d = 12 - (n : Int)) (hn : n ≤ 12) (hr : aV (ak qs) [102] = none) (hs : s.length ≤ 1000) :
  dh abK 93 [Pt r 0,Ag (d4 [102])] G [bD r sc s false none 0 0 d] (jt (rb (ak qs) (n + 1) [102]) r sc s false d):=by
 have cx_sign:=@dn G [102] []
 have hrd:=yE (ts:=ak qs) (n:=n) (s:=s) hr
 show dh abK 93 [Pt r 0,Ag [S [],S [102],S []]] G [bD r sc s false none 0 0 d] _
 cases hf : bM s with
 | none =>
  rw [hf] at hrd
  have cx_fl:=rq (G:=G) (r:=r) (sc:=sc) (n:=0) (c:=0) (s:=s) (b:=false) (a:=none) (d:=d + 1) (.inr hf) oM
  refine ch [(0,_),(1,_)] Tryz.func93 kR Tryz.ntmps93 F F tU fun B hok hB hW=>?_
  repeat' (first | refine jM ?_ | (refine jo ?_;first | refine jO fun _=>?_ | refine jL fun _=>?_ | refine aj F ?_ | refine jD F F F ?_ | refine jV (c6 F F) ?_))
  rename_i x2 x3 x4
  refine jo ?_
  refine ci (fi:=[]) (ca:=[Pt x2 0]) (az:=[]) F F ?_
  repeat' (first | refine jR ?_ | (refine jo ?_;first | refine aj F ?_ | refine aG F ?_ | refine jC F F F ?_ | refine jV (ao F F) ?_ | refine ab F F F cx_sign F ?_ | (refine af F F F cx_fl F ?_;rintro _ _ ⟨q1,⟨rfl,hql⟩,rfl⟩;dsimp only [zA,fA])) | refine ac F F ?_ | (refine ad F (by first | rfl | (refine decide_eq_false ?_;(omega))) ?_))
  all_goals
   refine cV (.inl F) F (cC (x0:=x2) (r:=r) (sc:=sc) (s:=q1) (b:=true) (a:=none) (n:=0) (c:=0) (d:=d + 1) oM) F ?_
   rintro v G' L' ⟨rfl,rfl⟩
   dsimp only [zA,fA]
   exact ⟨[_],[bD r sc q1 true none 0 0 (d + 1 - 1)],⟨aE F F F F,trivial⟩,sB,Gh.le.refl _,cA (c:=⟨102,[110,111],0,none,0,0⟩) (bj dC dC) oM (fun _=>⟨F,F,F⟩) ⟨hql,fun h=>(by cases h),fun _=>.inr hrd⟩⟩
 | some y =>
  obtain ⟨x,q⟩:=y
  rw [hf] at hrd
  have hin:=dO hf
  have hl : s.length = q.length + 1:=by rw [hin];rfl
  have cx_fl:=rp (G:=G) (r:=r) (sc:=sc) (n:=0) (c:=0) (s:=s) (q:=q) (x:=x) (a:=none) (d:=d + 1) hf oM
  cases x with
  | false =>
   refine ch [(0,_),(1,_)] Tryz.func93 kR Tryz.ntmps93 F F tU fun B hok hB hW=>?_
   repeat' (first | refine jM ?_ | (refine jo ?_;first | refine jO fun _=>?_ | refine jL fun _=>?_ | refine aj F ?_ | refine jD F F F ?_ | refine jV (c6 F F) ?_))
   rename_i x2 x3 x4
   refine jo ?_
   refine ci (fi:=[]) (ca:=[Pt x2 0]) (az:=[]) F F ?_
   repeat' (first | refine jR ?_ | (refine jo ?_;first | refine aj F ?_ | refine aG F ?_ | refine jC F F F ?_ | refine jV (ao F F) ?_ | refine ab F F F cx_sign F ?_ | (refine af F F F cx_fl F ?_;rintro _ _ ⟨rfl,rfl⟩;dsimp only [zA,fA])) | refine ac F F ?_ | (refine ad F (by first | rfl | (refine decide_eq_false ?_;(omega))) ?_))
   all_goals
    refine cV (.inl F) F (cC (x0:=x2) (r:=r) (sc:=sc) (s:=q) (b:=false) (a:=none) (n:=0) (c:=0) (d:=d + 1) oM) F ?_
    rintro v G' L' ⟨rfl,rfl⟩
    dsimp only [zA,fA]
    exact ⟨[_],[bD r sc q false none 0 0 (d + 1 - 1)],⟨aE F F F F,trivial⟩,sB,Gh.le.refl _,cA (c:=⟨102,[110,111],0,none,0,0⟩) (bj dC dC) oM (fun _=>⟨F,F,F⟩) ⟨oM,fun _=>⟨F,hrd⟩,fun h=>(by cases h)⟩⟩
  | true =>
   refine ch [(0,_),(1,_)] Tryz.func93 kR Tryz.ntmps93 F F tU fun B hok hB hW=>?_
   repeat' (first | refine jM ?_ | (refine jo ?_;first | refine jO fun _=>?_ | refine jL fun _=>?_ | refine aj F ?_ | refine jD F F F ?_ | refine jV (c6 F F) ?_))
   rename_i x2 x3 x4
   refine jo ?_
   refine ci (fi:=[]) (ca:=[Pt x2 0]) (az:=[]) F F ?_
   repeat' (first | refine jR ?_ | (refine jo ?_;first | refine aj F ?_ | refine aG F ?_ | refine jC F F F ?_ | refine jV (ao F F) ?_ | refine ab F F F cx_sign F ?_ | (refine af F F F cx_fl F ?_;rintro _ _ ⟨rfl,rfl⟩;dsimp only [zA,fA])) | refine ac F F ?_ | (refine ad F (by first | rfl | (refine decide_eq_false ?_;(omega))) ?_))
   all_goals
    refine cV (.inl F) F (cC (x0:=x2) (r:=r) (sc:=sc) (s:=q) (b:=false) (a:=none) (n:=0) (c:=0) (d:=d + 1) oM) F ?_
    rintro v G' L' ⟨rfl,rfl⟩
    dsimp only [zA,fA]
    exact ⟨[_],[bD r sc q false none 0 0 (d + 1 - 1)],⟨aE F F F F,trivial⟩,sB,Gh.le.refl _,cA (c:=⟨102,[121,101,115],0,none,0,0⟩) (bj dC dC) oM (fun _=>⟨F,F,F⟩) ⟨oM,fun _=>⟨F,hrd⟩,fun h=>(by cases h)⟩⟩
theorem e7 {s : abL} : (bc s = none ∧ bL s = none) ∨ ∃ (m : Nat) (q : abL),bc s = some ((m : Int),q) ∧ m ≤ 999999 ∧ ((q.length < m ∧ bL s = none) ∨ (m ≤ q.length ∧ bL s = some (q.take m,q.drop m))):=by
 cases h : bc s with
 | none=>exact .inl ⟨F,by unfold bL;rw [h]⟩
 | some z =>
  obtain ⟨n,q⟩:=z
  obtain ⟨h0,h1,_⟩:=cm h
  obtain ⟨m,rfl⟩ : ∃ m : Nat,n = (m : Int):=⟨n.toNat,oM⟩
  refine .inr ⟨m,q,F,oM,?_⟩
  by_cases hl : m ≤ q.length
  ·exact .inr ⟨hl,by unfold bL;rw [h];dsimp only;rw [Int.toNat_natCast,if_pos hl]⟩
  ·exact .inl ⟨oM,by unfold bL;rw [h];dsimp only;rw [Int.toNat_natCast,if_neg hl]⟩
theorem aaF {n r sc : Nat} {qs : List cx} {s : abL} {d : Int} (hd : d = 12 - (n : Int)) (hn : n ≤ 12) (hr : aV (ak qs) [116] = none) (hs : s.length ≤ 1000) :
  dh abK 93 [Pt r 0,Ag (d4 [116])] G [bD r sc s false none 0 0 d] (jt (rb (ak qs) (n + 1) [116]) r sc s false d):=by
 have cx_sign:=@dn G [116] []
 have hrd:=yB (ts:=ak qs) (n:=n) (s:=s) hr
 show dh abK 93 [Pt r 0,Ag [S [],S [116],S []]] G [bD r sc s false none 0 0 d] _
 rcases e7 (s:=s) with ⟨hg,ht⟩ | ⟨m,q,hg,hm,⟨hl,ht⟩ | ⟨hl,ht⟩⟩
 ·rw [ht] at hrd
  dsimp only at hrd
  have cx_nb:=fy (G:=G) (r:=r) (sc:=sc) (m:=0) (c:=0) (b:=false) (a:=none) (d:=d + 1) hg hs
  have cx_tkb:=fe (G:=G) (r:=r) (sc:=sc) (m:=0) (n:=0) (c:=0) (s:=[]) (b:=true) (a:=none) (d:=d + 1) (.inl rfl) ⟨by simp,oM⟩
  have cx_tkb : bQ abK 45 [Pt r 0,I 0] G [bD r sc [] true none 0 0 (d + 1)] (fun v L'=>v = S [] ∧ L' = [bD r sc [] true none 0 0 (d + 1)]):=cx_tkb
  refine ch [(0,_),(1,_)] Tryz.func93 kR Tryz.ntmps93 F F tU fun B hok hB hW=>?_
  repeat' (first | refine jM ?_ | (refine jo ?_;first | refine jO fun _=>?_ | refine jL fun _=>?_ | refine aj F ?_ | refine jD F F F ?_ | refine jV (c6 F F) ?_))
  rename_i x2 x3 x4
  refine jo ?_
  refine ci (fi:=[]) (ca:=[Pt x2 0]) (az:=[]) F F ?_
  repeat' (first | refine jR ?_ | (refine jo ?_;first | refine aj F ?_ | refine aG F ?_ | refine ab F F F cx_sign F ?_) | refine ac F F ?_ | (refine ad F (by first | rfl | (refine decide_eq_false ?_;(omega))) ?_))
  (refine ai (an (id:=26) [.blk x2 (.cells (List.toArray [Pt r 0]) eY (0,0))] (by intro y hy;simp only [List.mem_cons,List.not_mem_nil,or_false] at hy ⊢;simp [hy]) ah ?_);(refine jG (aa 5 1) 0 F (aq F F F) ?_);(refine jG (aa 5 3) 1 F (aq F F F) ?_);refine jA 2 F ?_;(refine af F F F cx_nb F ?_;rintro _ _ ⟨rfl,rfl⟩;dsimp only [zA,fA]);refine jK (aa 5 7) ?_;refine jA 3 F ?_;(refine af F F F cx_tkb F ?_;rintro _ _ ⟨rfl,rfl⟩;dsimp only [zA,fA]);refine jK (aa 5 15) ?_;refine jW 0 [4] (aa 5 31) ?_;refine jQ ?_)
  all_goals repeat' (first | refine jR ?_ | (refine jo ?_;first | refine jC F F F ?_ | refine jV (ao F F) ?_ | (refine ab F F F (iW ?_) F ?_;(focus ((simp;done);done)))) | refine ad F F ?_)
  all_goals
   refine cV (.inl F) F (cC (x0:=x2) (r:=r) (sc:=sc) (s:=[]) (b:=true) (a:=none) (n:=0) (c:=0) (d:=d + 1) oM) F ?_
   rintro v G' L' ⟨rfl,rfl⟩
   dsimp only [zA,fA]
   exact ⟨[_],[bD r sc [] true none 0 0 (d + 1 - 1)],⟨aE F F F F,trivial⟩,sB,Gh.le.refl _,cA (c:=⟨116,[],0,none,0,0⟩) (bj dC dC) oM (fun _=>⟨F,F,F⟩) ⟨by simp,fun h=>(by cases h),fun _=>.inr hrd⟩⟩
 ·rw [ht] at hrd
  dsimp only at hrd
  have hql:=bx hg
  have cx_nb:=dZ (G:=G) (r:=r) (sc:=sc) (m:=0) (c:=0) (b:=false) (a:=none) (d:=d + 1) hg hs
  have cx_tkb:=fe (G:=G) (r:=r) (sc:=sc) (m:=m) (n:=0) (c:=0) (s:=q) (b:=false) (a:=none) (d:=d + 1) (.inr hl) ⟨oM,oM⟩
  refine ch [(0,_),(1,_)] Tryz.func93 kR Tryz.ntmps93 F F tU fun B hok hB hW=>?_
  repeat' (first | refine jM ?_ | (refine jo ?_;first | refine jO fun _=>?_ | refine jL fun _=>?_ | refine aj F ?_ | refine jD F F F ?_ | refine jV (c6 F F) ?_))
  rename_i x2 x3 x4
  refine jo ?_
  refine ci (fi:=[]) (ca:=[Pt x2 0]) (az:=[]) F F ?_
  repeat' (first | refine jR ?_ | (refine jo ?_;first | refine aj F ?_ | refine aG F ?_ | refine ab F F F cx_sign F ?_) | refine ac F F ?_ | (refine ad F (by first | rfl | (refine decide_eq_false ?_;(omega))) ?_))
  (refine ai (an (id:=26) [.blk x2 (.cells (List.toArray [Pt r 0]) eY (0,0))] (by intro y hy;simp only [List.mem_cons,List.not_mem_nil,or_false] at hy ⊢;simp [hy]) ah ?_);(refine jG (aa 5 1) 0 F (aq F F F) ?_);(refine jG (aa 5 3) 1 F (aq F F F) ?_);refine jA 2 F ?_;(refine af F F F cx_nb F ?_;rintro _ _ ⟨rfl,rfl⟩;dsimp only [zA,fA]);refine jK (aa 5 7) ?_;refine jA 3 F ?_;(refine af F F F cx_tkb F ?_;rintro _ _ ⟨rfl,rfl⟩;dsimp only [zA,fA]);refine jK (aa 5 15) ?_;refine jW 0 [4] (aa 5 31) ?_;refine jQ ?_)
  all_goals repeat' (first | refine jR ?_ | (refine jo ?_;first | refine jC F F F ?_ | refine jV (ao F F) ?_ | (refine ab F F F (iW ?_) F ?_;(focus ((simp;done);done)))) | refine ad F F ?_)
  all_goals
   refine cV (.inl F) F (cC (x0:=x2) (r:=r) (sc:=sc) (s:=q) (b:=true) (a:=none) (n:=0) (c:=0) (d:=d + 1) oM) F ?_
   rintro v G' L' ⟨rfl,rfl⟩
   dsimp only [zA,fA]
   exact ⟨[_],[bD r sc q true none 0 0 (d + 1 - 1)],⟨aE F F F F,trivial⟩,sB,Gh.le.refl _,cA (c:=⟨116,[],0,none,0,0⟩) (bj dC dC) oM (fun _=>⟨F,F,F⟩) ⟨oM,fun h=>(by cases h),fun _=>.inr hrd⟩⟩
 ·rw [ht] at hrd
  dsimp only at hrd
  rw [aab] at hrd
  have hql:=bx hg
  have hdl : (q.drop m).length = q.length - m:=List.length_drop
  have htl : (q.take m).length ≤ 1000:=by rw [List.length_take];omega
  have cx_nb:=dZ (G:=G) (r:=r) (sc:=sc) (m:=0) (c:=0) (b:=false) (a:=none) (d:=d + 1) hg hs
  have cx_tkb:=iT (G:=G) (r:=r) (sc:=sc) (m:=m) (n:=0) (c:=0) (s:=q) (a:=none) (d:=d + 1) ⟨hl,oM⟩
  cases hti : lN (q.take m) with
  | true =>
   rw [hti] at hrd
   rw [if_pos rfl] at hrd
   refine ch [(0,_),(1,_)] Tryz.func93 kR Tryz.ntmps93 F F tU fun B hok hB hW=>?_
   repeat' (first | refine jM ?_ | (refine jo ?_;first | refine jO fun _=>?_ | refine jL fun _=>?_ | refine aj F ?_ | refine jD F F F ?_ | refine jV (c6 F F) ?_))
   rename_i x2 x3 x4
   refine jo ?_
   refine ci (fi:=[]) (ca:=[Pt x2 0]) (az:=[]) F F ?_
   repeat' (first | refine jR ?_ | (refine jo ?_;first | refine aj F ?_ | refine aG F ?_ | refine ab F F F cx_sign F ?_) | refine ac F F ?_ | (refine ad F (by first | rfl | (refine decide_eq_false ?_;(omega))) ?_))
   (refine ai (an (id:=26) [.blk x2 (.cells (List.toArray [Pt r 0]) eY (0,0))] (by intro y hy;simp only [List.mem_cons,List.not_mem_nil,or_false] at hy ⊢;simp [hy]) ah ?_);(refine jG (aa 5 1) 0 F (aq F F F) ?_);(refine jG (aa 5 3) 1 F (aq F F F) ?_);refine jA 2 F ?_;(refine af F F F cx_nb F ?_;rintro _ _ ⟨rfl,rfl⟩;dsimp only [zA,fA]);refine jK (aa 5 7) ?_;refine jA 3 F ?_;(refine af F F F cx_tkb F ?_;rintro _ _ ⟨rfl,rfl⟩;dsimp only [zA,fA]);refine jK (aa 5 15) ?_;refine jW 0 [4] (aa 5 31) ?_;refine jQ ?_)
   all_goals repeat' (first | refine jR ?_ | (refine jo ?_;first | refine jC F F F ?_ | refine jV (ao F F) ?_ | refine ab F F F (iW oM) F ?_) | (refine ad F ?_ ?_;(focus ((simp [*];done);done))))
   all_goals
    refine cV (.inl F) F (cC (x0:=x2) (r:=r) (sc:=sc) (s:=(q.drop m)) (b:=false) (a:=none) (n:=0) (c:=0) (d:=d + 1) oM) F ?_
    rintro v G' L' ⟨rfl,rfl⟩
    dsimp only [zA,fA]
    exact ⟨[_],[bD r sc (q.drop m) false none 0 0 (d + 1 - 1)],⟨aE F F F F,trivial⟩,sB,Gh.le.refl _,cA (c:=⟨116,q.take m,0,none,0,0⟩) (bj dC dC) oM (fun _=>⟨F,F,F⟩) ⟨oM,fun _=>⟨F,hrd⟩,fun h=>(by cases h)⟩⟩
  | false =>
   rw [hti] at hrd
   rw [if_neg (by simp)] at hrd
   refine ch [(0,_),(1,_)] Tryz.func93 kR Tryz.ntmps93 F F tU fun B hok hB hW=>?_
   repeat' (first | refine jM ?_ | (refine jo ?_;first | refine jO fun _=>?_ | refine jL fun _=>?_ | refine aj F ?_ | refine jD F F F ?_ | refine jV (c6 F F) ?_))
   rename_i x2 x3 x4
   refine jo ?_
   refine ci (fi:=[]) (ca:=[Pt x2 0]) (az:=[]) F F ?_
   repeat' (first | refine jR ?_ | (refine jo ?_;first | refine aj F ?_ | refine aG F ?_ | refine ab F F F cx_sign F ?_) | refine ac F F ?_ | (refine ad F (by first | rfl | (refine decide_eq_false ?_;(omega))) ?_))
   (refine ai (an (id:=26) [.blk x2 (.cells (List.toArray [Pt r 0]) eY (0,0))] (by intro y hy;simp only [List.mem_cons,List.not_mem_nil,or_false] at hy ⊢;simp [hy]) ah ?_);(refine jG (aa 5 1) 0 F (aq F F F) ?_);(refine jG (aa 5 3) 1 F (aq F F F) ?_);refine jA 2 F ?_;(refine af F F F cx_nb F ?_;rintro _ _ ⟨rfl,rfl⟩;dsimp only [zA,fA]);refine jK (aa 5 7) ?_;refine jA 3 F ?_;(refine af F F F cx_tkb F ?_;rintro _ _ ⟨rfl,rfl⟩;dsimp only [zA,fA]);refine jK (aa 5 15) ?_;refine jW 0 [4] (aa 5 31) ?_;refine jQ ?_)
   all_goals repeat' (first | refine jR ?_ | (refine jo ?_;first | refine aj F ?_ | refine jD F F F ?_ | refine jC F F F ?_ | refine jV (ao F F) ?_ | refine ab F F F (iW oM) F ?_) | (refine ac F ?_ ?_;(focus ((simp [*];done);done))))
   all_goals
    refine cV (.inl F) F (cC (x0:=x2) (r:=r) (sc:=sc) (s:=(q.drop m)) (b:=true) (a:=none) (n:=0) (c:=0) (d:=d + 1) oM) F ?_
    rintro v G' L' ⟨rfl,rfl⟩
    dsimp only [zA,fA]
    exact ⟨[_],[bD r sc (q.drop m) true none 0 0 (d + 1 - 1)],⟨aE F F F F,trivial⟩,sB,Gh.le.refl _,cA (c:=⟨116,q.take m,0,none,0,0⟩) (bj dC dC) oM (fun _=>⟨F,F,F⟩) ⟨oM,fun h=>(by cases h),fun _=>.inr hrd⟩⟩
def fY (b : Nat) : List Value:=[Pt b 0]
instance : RowF fY 1:=⟨fun _=>rfl⟩
def hY (n : Int) : List Value:=[I n]
instance : RowF hY 1:=⟨fun _=>rfl⟩
abbrev abo : TypeId:=9
abbrev uk : TypeId:=94
inductive RepR (G : Gh) (ts : List Ty) : V → abL → Nat → Prop
 | leaf (w : Nat) (x k tx : abL) (b : Nat) : bW G b 0 [S k,S tx,aK,aK] → ((w = 110 ∧ k = [110] ∧ tx = x ∧ ∀ c ∈ x,aU c = true) ∨ (w = 116 ∧ k = [116] ∧ tx = 39 :: (x ++ [39])) ∨ (w = 102 ∧ k = [102] ∧ tx = x ∧ (x = [121,101,115] ∨ x = [110,111]))) → RepR G ts (.nd w x 0 []) k b
 | lst (k : abL) (b : Nat) (ks : List V) (bs : List Nat) (a : Option Addr) (c : Nat) : bW G b 0 [S (91 :: k),S [],aK,.slice a ks.length c] → bh G (.slice a ks.length c) 1 ks.length (aA fY bs) → bs.length = ks.length → (∀ i,i < ks.length → RepR G ts (ae ks i) k (ae bs i)) → RepR G ts (.nd 91 [] 0 ks) (91 :: k) b
 | non (k : abL) (b : Nat) : bW G b 0 [S (63 :: k),S [],aK,aK] → RepR G ts (.nd 63 [] 0 []) (63 :: k) b
 | opt (k : abL) (b kb b' cc : Nat) (v : V) : 1 ≤ cc → bW G b 0 [S (63 :: k),S [],aK,.slice (some ⟨kb,0,none⟩) 1 cc] → bW G kb 0 [Pt b' 0] → RepR G ts v k b' → RepR G ts (.nd 63 [] 0 [v]) (63 :: k) b
 | recd (k : abL) (b : Nat) (t : Ty) (fs : List (Fld × V)) (bs : List Nat) (a a2 : Option Addr) (c c2 : Nat) : aV ts k = some t ∧ t.sort = 82 → bW G b 0 [S k,S [82],.slice a fs.length c,.slice a2 fs.length c2] → bh G (.slice a fs.length c) 1 fs.length (aA hY (fs.map fun p=>p.1.tag)) → bh G (.slice a2 fs.length c2) 1 fs.length (aA fY bs) → bs.length = fs.length → (∀ i,i < fs.length → (ae fs i).1 ∈ t.fields) → (∀ i,i < fs.length → RepR G ts (ae fs i).2 (ae fs i).1.kind (ae bs i)) → RepR G ts (.nd 82 [] 0 (fs.map fun p=>.nd 61 [] p.1.tag [p.2])) k b
 | enm (k : abL) (b tb : Nat) (t : Ty) (d : Fld) {tc : Nat} : aV ts k = some t ∧ t.sort = 69 → d ∈ t.fields → bW G b 0 [S k,S [69],.slice (some ⟨tb,0,none⟩) 1 (tc + 1),aK] → bW G tb 0 [I d.tag] → RepR G ts (.nd 69 [] d.tag []) k b
 | uni (k : abL) (b tb kb b' cc : Nat) (t : Ty) (d : Fld) (v : V) {tc : Nat} : 1 ≤ cc → aV ts k = some t ∧ t.sort = 85 → d ∈ t.fields → bW G b 0 [S k,S [85],.slice (some ⟨tb,0,none⟩) 1 (tc + 1),.slice (some ⟨kb,0,none⟩) 1 cc] → bW G tb 0 [I d.tag] → bW G kb 0 [Pt b' 0] → RepR G ts v d.kind b' → RepR G ts (.nd 85 [] d.tag [v]) k b
theorem RepR.mono {G G' : Gh} {ts : List Ty} (hl : Gh.le G G') {v : V} {k : abL} {b : Nat} (h : RepR G ts v k b) : RepR G' ts v k b:=by
 induction h with
 | leaf w x k tx b h1 h2=>exact .leaf w x k tx b (h1.mono hl) h2
 | lst k b ks bs a c h1 h2 h3 _ ih=>exact .lst k b ks bs a c (h1.mono hl) (h2.mono hl) h3 ih
 | non k b h1=>exact .non k b (h1.mono hl)
 | opt k b kb b' cc v h0 h1 h2 _ ih=>exact .opt k b kb b' cc v h0 (h1.mono hl) (h2.mono hl) ih
 | recd k b t fs bs a a2 c c2 h0 h1 h2 h3 h4 h5 _ ih=>exact .recd k b t fs bs a a2 c c2 h0 (h1.mono hl) (h2.mono hl) (h3.mono hl) h4 h5 ih
 | enm k b tb t d h0 h1 h2 h3=>exact .enm k b tb t d h0 h1 (h2.mono hl) (h3.mono hl)
 | uni k b tb kb b' cc t d v hcc h0 h1 h2 h3 h4 _ ih=>exact .uni k b tb kb b' cc t d v hcc h0 h1 (h2.mono hl) (h3.mono hl) (h4.mono hl) ih
def cg (ts : List Ty) (f : Option (V × abL)) (k : abL) (v : Value) (G' : Gh) : Prop :=
 ∃ q rest ok,v = Tu [.pointer q,S rest,Bo ok] ∧ (ok = true → ∃ w b,q = some ⟨b,0,none⟩ ∧ f = some (w,rest) ∧ RepR G' ts w k b) ∧ (ok = false → f = none)
theorem rt {s : abL} (hs : s.length ≤ 100000000) : am abK 152 [S s] G (· = I ((s.takeWhile aU).length : Nat)):=by
 refine jE [(0,_)] Tryz.func152 Tryz.ntmps152 fun B hB=>?_
 repeat' (refine jR ?_)
 refine aR (ι:=Nat) (fun i=>i ≤ s.length ∧ i + ((s.drop i).takeWhile aU).length = (s.takeWhile aU).length) (fun i=>[(0,S s),(3,I i)]) (fun _=>G) (fun i=>[]) (fun i=>s.length - i) 0 ?_ tU F aX (fun i Hi=>?_)
 ·exact ⟨Nat.zero_le _,by simp⟩
 obtain ⟨hi0,hi1⟩:=Hi
 by_cases hi : i < s.length
 ·obtain ⟨c,hc1,hc2⟩:=fw hi
  have hc3 : bt s ((i : Int).toNat) = c.toNat:=hc2
  rw [hc1,List.takeWhile_cons] at hi1
  by_cases hd : aU c = true
  ·rw [if_pos hd] at hi1
   have hd2:=hd
   unfold aU at hd2
   rw [decide_eq_true_eq] at hd2
   simp only [List.length_cons] at hi1
   repeat' (first | refine jM ?_ | (refine jo ?_;refine aL F ?_) | refine aD F F (ay oM) ?_ | refine ac F (ay oM) ?_)
   exact aW (i + 1) ⟨oM,oM⟩ oM tU F aX
  ·rw [if_neg hd] at hi1
   have hd2 : ¬ (48 ≤ c.toNat ∧ c.toNat ≤ 57):=fun h=>hd (by unfold aU;rw [decide_eq_true_eq];exact h)
   simp only [List.length_nil] at hi1
   repeat' (first | refine jM ?_ | (refine jo ?_;first | refine aL F ?_ | refine av F ?_) | refine aD F F (ay oM) ?_ | refine d5 F F (fun _=>?_) (fun _=>?_) | (refine ad F (by first | rfl | (refine decide_eq_false ?_;(omega))) ?_))
   all_goals refine jY (vs:=[_]) ?_
   all_goals (rw [ar,← hi1];rfl)
 ·have : i = s.length:=oM
  rw [this,List.drop_length] at hi1
  simp only [List.takeWhile_nil,List.length_nil] at hi1
  repeat' (first | refine jR ?_ | (refine jo ?_;refine av F ?_) | (refine al F F (by first | rfl | (refine decide_eq_false ?_;(omega))) ?_) | refine ad F F ?_)
  all_goals refine jY (vs:=[_]) ?_
  all_goals (rw [ar,← hi1,this];rfl)
theorem nI (q : UInt8 → Bool) (s : abL) : s.take ((((s.takeWhile q).length : Nat) : Int)).toNat = s.takeWhile q ∧ s.drop ((((s.takeWhile q).length : Nat) : Int)).toNat = s.dropWhile q:=by
 have h:=List.takeWhile_append_dropWhile (p:=q) (l:=s)
 have e : ((((s.takeWhile q).length : Nat) : Int)).toNat = (s.takeWhile q).length:=oM
 rw [e]
 constructor
 ·have h2 : (s.takeWhile q ++ s.dropWhile q).take (s.takeWhile q).length = s.takeWhile q:=List.take_left
  rwa [h] at h2
 ·have h2 : (s.takeWhile q ++ s.dropWhile q).drop (s.takeWhile q).length = s.dropWhile q:=List.drop_left
  rwa [h] at h2
theorem wd {u : Value} {ts : List Ty} {s : abL} (hu : u.oneCell' = true) (hs : s.length ≤ 100000000) : bA abK 112 [Ag [u],S s,S [110]] G (cg ts ((b9 999999 s).map fun x=>(.nd 110 (br x.1) 0 [],x.2)) [110]):=by
 have cx_dg:=rt (G:=G) hs
 obtain ⟨e1,e2⟩:=nI aU s
 have hwl:=dA aU s
 have hlen : (s.take ((((s.takeWhile aU).length : Nat) : Int)).toNat).length ≤ 100000000:=by rw [e1];omega
 refine jB [(0,_),(1,_),(2,_)] Tryz.func112 Tryz.ntmps112 fun B hok hB hW=>?_
 repeat' (first | refine jM ?_ | (refine jo ?_;first | refine jO fun _=>?_ | refine ab F F F cx_dg F ?_ | (refine cn F F F (gF oM) F ?_;rintro _ ⟨n,rfl,hnum⟩)) | refine ac F F ?_ | (refine ai (an (id:=6) _ (fun _ h=>h) ah ?_);refine jW 5 [0,1,2,3,6,7,8,9] (aa 13 975) ?_;(refine jG (aa 13 991) 4 F (ao F F) ?_);refine jA 5 F ?_;(refine jO fun _=>?_);refine jS (aa 13 1023) ?_;refine jT 0 [10,11,12] (aa 13 8191) ?_;refine jQ ?_))
 rename_i x3 x4
 refine Nx.sealC (b:=x4) fun G2 hG2 hsy=>?_
 refine jZ (vs:=[_,_,_]) F ⟨F,F,F,trivial⟩ F ⟨hG2,F,?_⟩
 rw [aB]
 rw [e1] at hnum hsy
 rw [e1,e2]
 refine ⟨_,_,_,F,fun h=>?_,fun h=>?_⟩
 ·cases hm : aM (s.takeWhile aU) 999999 with
  | none=>rw [hm] at h;cases h
  | some m =>
   have hmd:=(dW hm).2.1
   refine ⟨.nd 110 (br m) 0 [],x4,F,by unfold b9;rw [hm];rfl,.leaf 110 _ _ _ _ hsy (.inl ⟨rfl,rfl,hmd,fun c hc=>List.all_eq_true.1 (List.all_takeWhile (l:=s) (p:=aU)) c (by rw [hmd];exact hc)⟩)⟩
 ·cases hm : aM (s.takeWhile aU) 999999 with
  | none=>unfold b9;rw [hm];rfl
  | some m=>rw [hm] at h;cases h
theorem n9 {c : UInt8} {r : abL} {i : Nat} (hc : i ≤ r.length) (hn : ∀ j,j < i → bt r j ≠ 39) (hi : i = r.length ∨ bt r i = 39 ∧ i < r.length) :
  (c7 (c :: r) = if cW ((c :: r).take (min (i + 2) (r.length + 1))) = true then some (.nd 116 (r.take i) 0 [],r.drop (i + 1)) else none) ∧ (cW ((c :: r).take (min (i + 2) (r.length + 1))) = true → (c :: r).take (min (i + 2) (r.length + 1)) = 39 :: (r.take i ++ [39])):=by
 unfold c7
 dsimp only
 rcases hi with hi | ⟨h39,hlt⟩
 ·have hcut : aF 39 r = (r,[],false):=pi fun j hj=>hn j oM
  have htk : (c :: r).take (min (i + 2) (r.length + 1)) = c :: r:=List.take_of_length_le (by simp;omega)
  have hno : cW (c :: r) = false:=by
   unfold cW
   refine decide_eq_false fun h=>?_
   obtain ⟨⟨h2,_⟩,_,h3,_⟩:=h
   simp only [List.length_cons] at h2
   rw [show (c :: r).length - 1 = (r.length - 1) + 1 by simp;omega,dJ] at h3
   exact hn (r.length - 1) oM h3
  rw [hcut,htk,hno]
  exact ⟨by simp,fun h=>(by cases h)⟩
 ·have hcut:=mq (k:=39) hlt hn h39
  have htk : (c :: r).take (min (i + 2) (r.length + 1)) = c :: (r.take i ++ [39]):=by
   rw [show min (i + 2) (r.length + 1) = (i + 1) + 1 by omega,List.take_succ_cons,dK hlt]
   congr 1;congr 1;congr 1
   rw [a6 hlt]
   have : bt r i = (r[i]).toNat:=by simp [bt,List.getD,List.getElem?_eq_getElem hlt]
   exact UInt8.toNat_inj.1 (by rw [← this,h39];rfl)
  rw [hcut,htk]
  dsimp only
  by_cases h : c.toNat = 39
  ·rw [if_pos h,show c = 39 from UInt8.toNat_inj.1 h]
   exact ⟨F,fun _=>rfl⟩
  ·have hno : ¬ cW (c :: (r.take i ++ [39])) = true:=fun ht=>by
    unfold cW at ht
    rw [decide_eq_true_eq] at ht
    exact h (by have:=ht.2.1;rwa [be] at this)
   rw [if_neg h,if_neg hno]
   exact ⟨F,fun h2=>absurd h2 hno⟩
theorem wc {u : Value} {ts : List Ty} {s : abL} (hu : u.oneCell' = true) (hs : s.length ≤ 100000000) (hne : s ≠ []) : bA abK 112 [Ag [u],S s,S [116]] G (cg ts (c7 s) [116]):=by
 match s,hne with
 | c :: r,_ =>
 simp only [List.length_cons] at hs
 have hcl : (c :: r).length = r.length + 1:=rfl
 refine jB [(0,_),(1,_),(2,_)] Tryz.func112 Tryz.ntmps112 fun B hok hB hW=>?_
 repeat' (first | refine jR ?_ | (refine jo ?_;refine jO fun _=>?_) | refine ac F F ?_ | refine ad F F ?_)
 rename_i x3
 refine aR (ι:=Nat) (fun i=>i ≤ r.length ∧ ∀ j,j < i → bt r j ≠ 39) (fun i=>[(1,S (c :: r)),(2,S [116]),(9,I (i + 1 : Nat))]) (fun _=>G) (fun i=>[]) (fun i=>r.length - i) 0 ?_ tU F (by repeat (exact List.nil_sublist _)) (fun i Hi=>?_)
 ·exact ⟨Nat.zero_le _,fun j hj=>absurd hj oM⟩
 obtain ⟨hi0,hi1⟩:=Hi
 have hb : bt (c :: r) ((i + 1 : Nat) : Int).toNat = bt r i:=dJ c r i
 by_cases hi : i < r.length
 ·by_cases h39 : bt r i = 39
  ·have h39' : bt (c :: r) ((i + 1 : Nat) : Int).toNat = 39:=by rw [hb];exact h39
   have hq:=n9 (c:=c) hi0 hi1 (.inr ⟨h39,hi⟩)
   have e3 : (min (((i + 1 : Nat) : Int) + 1) ((((c :: r).length : Nat) : Int))).toNat = min (i + 2) (r.length + 1):=oM
   have cx_tx:=eJ (G:=G) (s:=(c :: r).take (min (((i + 1 : Nat) : Int) + 1) ((((c :: r).length : Nat) : Int))).toNat) (by rw [List.length_take];omega)
   repeat' (first | refine jM ?_ | (refine jo ?_;first | refine aL F ?_ | refine jV (tF F F) ?_) | refine aD F F (ay oM) ?_ | refine ad F (aC oM) ?_ | (refine ai (an (id:=12) _ (fun _ h=>h) ah ?_);refine jW 6 [0,1,2,3,6,7,8,9,10,11] (aa 16 4047) ?_;(refine jG (aa 16 4063) 4 F (ao F F) ?_);refine dy [5,12] kR dC ⟨?_,?_,trivial⟩;(focus (refine bY F F ?_;(refine jO fun _=>?_);refine jS (aa 16 4095) ?_;refine jA 12 F ?_;((refine ab F F F (eJ ?_) F ?_;(focus ((simp;omega);done))));refine jS (aa 16 8191) ?_;refine jW 0 [13,14,15] (aa 16 65535) ?_;refine jQ ?_));rotate_left 1;(focus (refine bY F F ?_;((refine ab F F F (eJ ?_) F ?_;(focus ((simp;omega);done))));refine jS (aa 16 8159) ?_;refine jA 5 F ?_;(refine jO fun _=>?_);refine jS (aa 16 8191) ?_;refine jW 0 [13,14,15] (aa 16 65535) ?_;refine jQ ?_));rotate_left 1))
   all_goals
    rename_i x4
    refine Nx.sealC (b:=x4) fun G2 hG2 hsy=>?_
    refine jZ (vs:=[_,_,_]) F ⟨F,F,F,trivial⟩ F ⟨hG2,F,?_⟩
    rw [aB]
    rw [e3] at hsy
    rw [e3]
    refine ⟨_,_,_,F,fun h=>?_,fun h=>?_⟩
    ·have htk:=hq.2 h
     rw [htk] at hsy
     have hdr : (c :: r).drop (min (i + 2) (r.length + 1)) = r.drop (i + 1):=by
      rcases Nat.lt_or_ge i r.length with h2 | h2
      ·rw [show min (i + 2) (r.length + 1) = (i + 1) + 1 by omega];rfl
      ·rw [List.drop_eq_nil_of_le (by simp;omega),List.drop_eq_nil_of_le oM]
     exact ⟨_,x4,F,by rw [hq.1,if_pos h,hdr],.leaf 116 _ _ _ _ hsy (.inr (.inl ⟨F,F,F⟩))⟩
    ·rw [hq.1,if_neg (by rw [h];decide)]
  ·have h39' : ¬ bt (c :: r) ((i + 1 : Nat) : Int).toNat = 39:=by rw [hb];exact h39
   repeat' (first | refine jM ?_ | (refine jo ?_;refine aL F ?_) | refine aD F F (ay oM) ?_ | refine ac F (ay oM) ?_)
   refine Nx.re (d:=9) (v':=I (i + 1 + 1 : Nat)) F (congrArg (Value.int .i64) oM) ?_
   exact aW (i + 1) ⟨oM,fun j hj=>(by
    rcases Nat.lt_or_ge j i with h | h
    ·exact hi1 j h
    ·have : j = i:=oM
     subst this;exact h39)⟩ oM tU F aX
 ·have hq:=n9 (c:=c) hi0 hi1 (.inl oM)
  have e3 : (min (((i + 1 : Nat) : Int) + 1) ((((c :: r).length : Nat) : Int))).toNat = min (i + 2) (r.length + 1):=oM
  have cx_tx:=eJ (G:=G) (s:=(c :: r).take (min (((i + 1 : Nat) : Int) + 1) ((((c :: r).length : Nat) : Int))).toNat) (by rw [List.length_take];omega)
  repeat' (first | refine jM ?_ | (refine jo ?_;first | refine av F ?_ | refine jV (tF F F) ?_) | refine al F F (aC oM) ?_ | refine ad F F ?_ | (refine ai (an (id:=12) _ (fun _ h=>h) ah ?_);refine jW 6 [0,1,2,3,6,7,8,9,10,11] (aa 16 4047) ?_;(refine jG (aa 16 4063) 4 F (ao F F) ?_);refine dy [5,12] kR dC ⟨?_,?_,trivial⟩;(focus (refine bY F F ?_;(refine jO fun _=>?_);refine jS (aa 16 4095) ?_;refine jA 12 F ?_;((refine ab F F F (eJ ?_) F ?_;(focus ((simp;omega);done))));refine jS (aa 16 8191) ?_;refine jW 0 [13,14,15] (aa 16 65535) ?_;refine jQ ?_));rotate_left 1;(focus (refine bY F F ?_;((refine ab F F F (eJ ?_) F ?_;(focus ((simp;omega);done))));refine jS (aa 16 8159) ?_;refine jA 5 F ?_;(refine jO fun _=>?_);refine jS (aa 16 8191) ?_;refine jW 0 [13,14,15] (aa 16 65535) ?_;refine jQ ?_));rotate_left 1))
  all_goals
   rename_i x4
   refine Nx.sealC (b:=x4) fun G2 hG2 hsy=>?_
   refine jZ (vs:=[_,_,_]) F ⟨F,F,F,trivial⟩ F ⟨hG2,F,?_⟩
   rw [aB]
   rw [e3] at hsy
   rw [e3]
   refine ⟨_,_,_,F,fun h=>?_,fun h=>?_⟩
   ·have htk:=hq.2 h
    rw [htk] at hsy
    have hdr : (c :: r).drop (min (i + 2) (r.length + 1)) = r.drop (i + 1):=by
     rcases Nat.lt_or_ge i r.length with h2 | h2
     ·rw [show min (i + 2) (r.length + 1) = (i + 1) + 1 by omega];rfl
     ·rw [List.drop_eq_nil_of_le (by simp;omega),List.drop_eq_nil_of_le oM]
    exact ⟨_,x4,F,by rw [hq.1,if_pos h,hdr],.leaf 116 _ _ _ _ hsy (.inr (.inl ⟨F,F,F⟩))⟩
   ·rw [hq.1,if_neg (by rw [h];decide)]
theorem we {u : Value} {ts : List Ty} {s : abL} (hu : u.oneCell' = true) (hs : s.length ≤ 100000000) : bA abK 112 [Ag [u],S s,S [102]] G (cg ts (dM s) [102]):=by
 have hpf : ∀ l : abL,l.isPrefixOf s = true ↔ l.length ≤ s.length ∧ s.take l.length = l:=fun l=>by
  rw [List.isPrefixOf_iff_prefix]
  constructor
  ·rintro ⟨t,rfl⟩;simp
  ·rintro ⟨h1,h2⟩;exact ⟨s.drop l.length,by rw [show l ++ s.drop l.length = s.take l.length ++ s.drop l.length from by rw [h2]];exact List.take_append_drop _ _⟩
 refine jB [(0,_),(1,_),(2,_)] Tryz.func112 Tryz.ntmps112 fun B hok hB hW=>?_
 repeat' (first | refine jR ?_ | (refine jo ?_;first | refine jO fun _=>?_ | refine jF fun _=>?_ | refine jV (aw F) ?_) | refine ad F F ?_)
 rename_i x3 x4
 refine aR (ι:=Nat) (fun i=>i ≤ 2 ∧ (1 ≤ i → ([121,101,115] : abL).isPrefixOf s = false) ∧ (2 ≤ i → ([110,111] : abL).isPrefixOf s = false)) (fun i=>[(1,S s),(2,S [102]),(68,.slice (some ⟨x4,0,none⟩) 2 2),(69,I (2 : Nat)),(70,I i)]) (fun _=>G) (fun i=>[.blk x4 (.cells (List.toArray [S [121,101,115],S [110,111]]) abo (0,0))]) (fun i=>2 - i) 0 ?_ tU F sB (fun i Hi=>?_)
 ·exact ⟨Nat.zero_le _,fun h=>absurd h oM,fun h=>absurd h oM⟩
 obtain ⟨hi0,hi1,hi2⟩:=Hi
 have h3 : i = 0 ∨ i = 1 ∨ i = 2:=oM
 rcases h3 with rfl | rfl | rfl
 ·cases hp : ([121,101,115] : abL).isPrefixOf s with
  | true =>
   obtain ⟨h1,h2⟩:=(hpf _).1 hp
   have h1' : (((([121,101,115] : abL).length : Nat) : Int)) ≤ s.length:=oM
   have h2' : s.take (((([121,101,115] : abL).length : Nat) : Int)).toNat = [121,101,115]:=h2
   repeat' (first | refine jM ?_ | (refine jo ?_;first | refine aL F ?_ | refine jV (ax F F oM) ?_ | refine aj F ?_) | refine aD F F (ay ‹_›) ?_ | (refine ac F (by first | rfl | (refine decide_eq_true ?_;(assumption))) ?_) | (refine ai (an (id:=17) _ (fun _ h=>h) ah ?_);refine jW 5 [0,1,4,5,6,7] (aa 11 243) ?_;(refine jG (aa 11 247) 2 F (ao F F) ?_);refine jA 3 F ?_;(refine jO fun _=>?_);refine jS (aa 11 255) ?_;refine jT 0 [8,9,10] (aa 11 2047) ?_;refine jQ ?_))
   all_goals
    rename_i y
    refine Nx.sealC (b:=y) fun G2 hG2 hsy=>?_
    refine jZ (vs:=[_,_,_]) F ⟨F,F,F,trivial⟩ F ⟨hG2,F,?_⟩
    rw [aB]
    exact ⟨_,_,_,F,fun _=>⟨.nd 102 [121,101,115] 0 [],y,F,by unfold dM;rw [hp,if_pos rfl];rfl,.leaf 102 _ _ _ _ hsy (.inr (.inr ⟨rfl,rfl,rfl,.inl rfl⟩))⟩,fun h=>(by cases h)⟩
  | false =>
   have hn : ¬ ((([121,101,115] : abL).length : Nat) ≤ s.length ∧ s.take ([121,101,115] : abL).length = [121,101,115]):=fun h=>by rw [(hpf _).2 h] at hp;cases hp
   have hn' : ¬ ((((([121,101,115] : abL).length : Nat) : Int)) ≤ s.length ∧ s.take (((([121,101,115] : abL).length : Nat) : Int)).toNat = [121,101,115]):=fun h=>hn ⟨oM,h.2⟩
   by_cases h1' : (((([121,101,115] : abL).length : Nat) : Int)) ≤ s.length
   ·have h2' : ¬ s.take (((([121,101,115] : abL).length : Nat) : Int)).toNat = [121,101,115]:=fun h=>hn' ⟨h1',h⟩
    repeat' (first | refine jM ?_ | (refine jo ?_;first | refine aL F ?_ | refine jV (ax F F oM) ?_ | refine aj F ?_) | refine aD F F (ay ‹_›) ?_ | refine ac F F ?_ | refine ad F (aC ‹_›) ?_)
    exact aW 1 ⟨oM,fun _=>rfl,fun h=>absurd h oM⟩ oM tU F aX
   ·repeat' (first | refine jM ?_ | (refine jo ?_;first | refine av F ?_ | refine jV (ax F F oM) ?_ | refine aj F ?_) | refine al F F (aC ‹_›) ?_ | refine ac F F ?_ | refine ad F F ?_)
    exact aW 1 ⟨oM,fun _=>rfl,fun h=>absurd h oM⟩ oM tU F aX
 ·have hy:=hi1 (Nat.le_refl _)
  cases hp : ([110,111] : abL).isPrefixOf s with
  | true =>
   obtain ⟨h1,h2⟩:=(hpf _).1 hp
   have h1' : (((([110,111] : abL).length : Nat) : Int)) ≤ s.length:=oM
   have h2' : s.take (((([110,111] : abL).length : Nat) : Int)).toNat = [110,111]:=h2
   repeat' (first | refine jM ?_ | (refine jo ?_;first | refine aL F ?_ | refine jV (ax F F oM) ?_ | refine aj F ?_) | refine aD F F (ay ‹_›) ?_ | (refine ac F (by first | rfl | (refine decide_eq_true ?_;(assumption))) ?_) | (refine ai (an (id:=17) _ (fun _ h=>h) ah ?_);refine jW 5 [0,1,4,5,6,7] (aa 11 243) ?_;(refine jG (aa 11 247) 2 F (ao F F) ?_);refine jA 3 F ?_;(refine jO fun _=>?_);refine jS (aa 11 255) ?_;refine jT 0 [8,9,10] (aa 11 2047) ?_;refine jQ ?_))
   all_goals
    rename_i y
    refine Nx.sealC (b:=y) fun G2 hG2 hsy=>?_
    refine jZ (vs:=[_,_,_]) F ⟨F,F,F,trivial⟩ F ⟨hG2,F,?_⟩
    rw [aB]
    exact ⟨_,_,_,F,fun _=>⟨.nd 102 [110,111] 0 [],y,F,by unfold dM;rw [hy,if_neg dC,hp,if_pos rfl];rfl,.leaf 102 _ _ _ _ hsy (.inr (.inr ⟨rfl,rfl,rfl,.inr rfl⟩))⟩,fun h=>(by cases h)⟩
  | false =>
   have hn : ¬ ((([110,111] : abL).length : Nat) ≤ s.length ∧ s.take ([110,111] : abL).length = [110,111]):=fun h=>by rw [(hpf _).2 h] at hp;cases hp
   have hn' : ¬ ((((([110,111] : abL).length : Nat) : Int)) ≤ s.length ∧ s.take (((([110,111] : abL).length : Nat) : Int)).toNat = [110,111]):=fun h=>hn ⟨oM,h.2⟩
   by_cases h1' : (((([110,111] : abL).length : Nat) : Int)) ≤ s.length
   ·have h2' : ¬ s.take (((([110,111] : abL).length : Nat) : Int)).toNat = [110,111]:=fun h=>hn' ⟨h1',h⟩
    repeat' (first | refine jM ?_ | (refine jo ?_;first | refine aL F ?_ | refine jV (ax F F oM) ?_ | refine aj F ?_) | refine aD F F (ay ‹_›) ?_ | refine ac F F ?_ | refine ad F (aC ‹_›) ?_)
    exact aW 2 ⟨oM,fun _=>hy,fun _=>rfl⟩ oM tU F aX
   ·repeat' (first | refine jM ?_ | (refine jo ?_;first | refine av F ?_ | refine jV (ax F F oM) ?_ | refine aj F ?_) | refine al F F (aC ‹_›) ?_ | refine ac F F ?_ | refine ad F F ?_)
    exact aW 2 ⟨oM,fun _=>hy,fun _=>rfl⟩ oM tU F aX
 ·repeat' (first | refine jR ?_ | refine ad F F ?_)
  refine jZ (vs:=[_,_,_]) F ⟨F,F,F,trivial⟩ F ⟨Gh.le.refl _,F,?_⟩
  rw [aB]
  exact ⟨_,_,_,F,fun h=>(by cases h),fun _=>by unfold dM;rw [hi1 oM,if_neg dC,hi2 oM,if_neg dC]⟩
theorem qe {u : Value} {x : b8} {s : abL} (hs : s.length ≤ 100000000) (hu : u.oneCell' = true) (hf : bh G (gP x) 4 x.2.fields.length (aA gB x.2.fields)) (hl : x.2.fields.length ≤ 1000) :
  am abK 151 [Ag [u],S s,Ag (iA x)] G (fun v=>∃ n,v = Tu [Ag (gB ((bJ x.2.fields n).getD zF)),S (s.dropWhile aU),Bo ((aM (s.takeWhile aU) 200).isSome && (bJ x.2.fields n).isSome)] ∧ ∀ m,aM (s.takeWhile aU) 200 = some m → n = m):=by
 have cx_dg:=rt (G:=G) hs
 obtain ⟨e1,e2⟩:=nI aU s
 have hwl:=dA aU s
 have hlen : (s.take ((((s.takeWhile aU).length : Nat) : Int)).toNat).length ≤ 100000000:=by rw [e1];omega
 simp only [iA]
 refine jE [(0,_),(1,_),(2,_)] Tryz.func151 Tryz.ntmps151 fun B hB=>?_
 repeat' (first | refine jM ?_ | (refine jo ?_;first | refine jO fun _=>?_ | refine jL fun _=>?_ | refine aG F ?_ | refine ab F F F cx_dg F ?_ | (refine cn F F F (gF oM) F ?_;rintro _ ⟨n,rfl,hnum⟩)))
 rename_i n
 have cx_fld:=gG (G:=G) (tag:=n) hf hl
 rw [e1] at hnum
 cases hm : (aM (s.take ((((s.takeWhile aU).length : Nat) : Int)).toNat) 200).isSome with
 | false =>
  repeat' (first | refine jR ?_ | (refine jo ?_;first | refine jL fun _=>?_ | refine jC F F F ?_ | refine ab F F F cx_fld F ?_) | (refine ai (dL (id:=4) (tt:=6) F ah ?_);refine jW 6 [1,2,3,4,5] (aa 11 62) ?_;(try (refine Nx.re (d:=34) (v':=Bo false) F (congrArg Value.bool F) ?_));refine jW 5 [6] (aa 11 126) ?_;(refine jG (aa 11 127) 0 F (bq F F F F) ?_);((refine jG (aa 11 255) 7 F (aH F F ?_) ?_;(focus ((rfl);done))));refine jA 8 F ?_;(refine jC F F F ?_);refine jK (aa 11 511) ?_;refine jW 0 [9,10] (aa 11 2047) ?_;refine jQ ?_))
  all_goals refine jZ (vs:=[_,_,_]) F ⟨aE F F F F,F,F,trivial⟩ F ⟨F,F,?_⟩
  all_goals (rw [aB];exact ⟨n,by rw [e1] at hm;rw [hm,e2];rfl,hnum⟩)
 | true =>
  repeat' (first | refine jR ?_ | (refine jo ?_;first | refine jL fun _=>?_ | refine jC F F F ?_ | refine ab F F F cx_fld F ?_) | (refine ai (dL (id:=4) (tt:=6) F ah ?_);refine jW 6 [1,2,3,4,5] (aa 11 62) ?_;(try (refine Nx.re (d:=34) (v':=Bo true) F (congrArg Value.bool F) ?_));refine jW 5 [6] (aa 11 126) ?_;(refine jG (aa 11 127) 0 F (bq F F F F) ?_);((refine jG (aa 11 255) 7 F (aT F F ?_) ?_;(focus ((rfl);done))));refine jA 8 F ?_;(refine jC F F F ?_);refine jK (aa 11 511) ?_;refine jW 0 [9,10] (aa 11 2047) ?_;refine jQ ?_))
  all_goals refine jZ (vs:=[_,_,_]) F ⟨aE F F F F,F,F,trivial⟩ F ⟨F,F,?_⟩
  all_goals (rw [aB];exact ⟨n,by rw [e1] at hm;rw [hm,e2];rfl,hnum⟩)
def hC (v : V) : Prop:=v.out.length + 1 ≤ 2 * v.tot
theorem i6 : ∀ {ks : List V},(∀ v ∈ ks,hC v) → c0 (V.outs ks) + ks.length ≤ 2 * V.tots ks
 | [],_=>by simp [V.outs,c0]
 | v :: r,h=>by
  have h1:=h v (.head _)
  have h2:=i6 fun u hu=>h u (.tail _ hu)
  unfold hC at h1
  simp only [V.outs,c0,List.map_cons,List.sum_cons,V.tots,List.length_cons] at *
  omega
theorem fh {w : Nat} {x : abL} {t : Int} {ks : List V} (h : ∀ v ∈ ks,hC v) (ht : t ≤ 999999) : hC (.nd w x t ks):=by
 have h1:=i6 h
 have h2:=e9 44 (V.outs ks)
 rw [iI] at h2
 have h4:=qB (w:=w) (x:=x) (e:=ks.isEmpty) (j:=aQ 44 (V.outs ks)) ht
 have h5:=dT ks
 unfold hC
 rw [V.out,V.tot]
 omega
theorem od {α : Type} [Inhabited α] {l : List α} {x : α} (h : x ∈ l) : ∃ i,i < l.length ∧ ae l i = x:=by
 obtain ⟨i,hi,rfl⟩:=List.mem_iff_getElem.1 h
 exact ⟨i,hi,a6 hi⟩
theorem fF {ts : List Ty} (hw : SchW ts) {k : abL} {t : Ty} (h : aV ts k = some t) {d : Fld} (hd : d ∈ t.fields) : d.tag ≤ 999999 ∧ 0 ≤ d.tag:=by
 have:=((hw.ty t (cS h)).fld d hd).tag
 omega
theorem fX {ts : List Ty} {k : abL} {t : Ty} (h : aV ts k = some t) : ∃ r,k = 64 :: r:=by
 unfold aV at h
 cases k with
 | nil=>cases h
 | cons c r =>
  unfold bE at h
  dsimp only at h
  by_cases h64 : c.toNat = 64
  ·exact ⟨r,by rw [show c = 64 from UInt8.toNat_inj.1 h64]⟩
  ·rw [if_neg h64] at h;cases h
theorem nf {ts : List Ty} (hw : SchW ts) {v : V} {k : abL} {b : Nat} (h : RepR G ts v k b) : hC v:=by
 induction h with
 | leaf w x k tx b h1 h2=>exact fh (by simp) dC
 | lst k b ks bs a c h1 h2 h3 _ ih =>
  exact fh (fun v hv=>by obtain ⟨i,hi,rfl⟩:=od hv;exact ih i hi) dC
 | non k b h1=>exact fh (by simp) dC
 | opt k b kb b' cc v h0 h1 h2 _ ih=>exact fh (fun u hu=>by simp only [List.mem_singleton] at hu;subst hu;exact ih) dC
 | recd k b t fs bs a a2 c c2 h0 h1 h2 h3 h4 h5 _ ih =>
  refine fh (fun v hv=>?_) dC
  obtain ⟨p,hp,rfl⟩:=List.mem_map.1 hv
  obtain ⟨i,hi,rfl⟩:=od hp
  exact fh (fun u hu=>by simp only [List.mem_singleton] at hu;subst hu;exact ih i hi) (fF hw h0.1 (h5 i hi)).1
 | enm k b tgb t d h0 h1 h2 h3=>exact fh (by simp) (fF hw h0.1 h1).1
 | uni k b tgb kb b' cc t d v hcc h0 h1 h2 h3 h4 _ ih=>exact fh (fun u hu=>by simp only [List.mem_singleton] at hu;subst hu;exact ih) (fF hw h0.1 h1).1
theorem og {c : UInt8} {xs : List abL} {i : Nat} (h : i < xs.length) : aQ c (xs.take (i + 1)) = if 0 < i then aQ c (xs.take i) ++ c :: ae xs i else ae xs i:=by
 rw [dK h]
 by_cases hi : 0 < i
 ·rw [if_pos hi,kK]
  rw [ne_eq,List.take_eq_nil_iff]
  rintro (h0 | h0)
  ·omega
  ·subst h0;simp at h
 ·have : i = 0:=oM
  subst this;rfl
theorem lY {ts : List Ty} (hw : SchW ts) {v : V} {k : abL} {b : Nat} (h : RepR G ts v k b) : v.tot ≤ 1000000000000 → am abK 54 [Pt b 0] G (· = S v.out):=by
 induction h with
 | leaf w x k tx b h1 h2 =>
  intro _
  rcases h2 with ⟨rfl,rfl,rfl,_⟩ | ⟨rfl,rfl,rfl⟩ | ⟨rfl,rfl,rfl,_⟩
  all_goals
   refine jE [(0,_)] Tryz.func54 Tryz.ntmps54 fun B hB=>?_
   repeat' (first | refine jX ?_ | (refine jo ?_;refine jV (aI F F aS F F) ?_) | refine ad F F ?_)
   refine jY (vs:=[_]) ?_
   rw [ar,V.out];rfl
 | lst k b ks bs a c h1 h2 h3 hk ih =>
  intro ht
  rw [cX] at ht
  have hb:=i6 (ks:=ks) fun v hv=>by obtain ⟨i,hi,rfl⟩:=od hv;exact nf hw (hk i hi)
  have hol:=iI ks
  refine jE [(0,_)] Tryz.func54 Tryz.ntmps54 fun B hB=>?_
  repeat' (first | refine jX ?_ | (refine jo ?_;refine jV (aI F F aS F F) ?_) | refine ac F F ?_)
  refine aR (ι:=Nat) (fun i=>i ≤ ks.length) (fun i=>[(0,Pt b 0),(3,S (91 :: aQ 44 ((V.outs ks).take i))),(4,I i)]) (fun _=>G) (fun i=>[]) (fun i=>ks.length - i) 0 ?_ tU F aX (fun i Hi=>?_)
  ·exact Nat.zero_le _
  have hj1:=e9 44 ((V.outs ks).take i)
  have hj2:=d3 (V.outs ks) i
  have hj3 : ((V.outs ks).take i).length ≤ ks.length:=by rw [List.length_take];omega
  by_cases hi : i < ks.length
  ·have hti:=fU hi
   have cx_out:=ih i hi oM
   have hou:=kD hi
   have hxi : ae bs i = ae bs i:=rfl
   have hob:=nf hw (hk i hi)
   unfold hC at hob
   have hst:=og (c:=44) (xs:=V.outs ks) (i:=i) oM
   rw [hou] at hst
   obtain ⟨kb,ko,kc,e,hs⟩:=h2.expl oM
   simp only [Value.slice.injEq] at e
   obtain ⟨rfl,-,rfl⟩:=e
   by_cases h0 : 0 < i
   ·rw [if_pos h0] at hst
    repeat' (first | refine jX ?_ | (refine jo ?_;first | refine jV (aI F F aS F F) ?_ | (refine jV (fq F F aS ?_ aS F) ?_;focus omega) | refine jV (aw F) ?_ | refine jV (ax F F oM) ?_ | refine ab F F F cx_out F ?_) | refine ac F (ay oM) ?_)
    refine Nx.re (d:=3) (v':=S (91 :: aQ 44 ((V.outs ks).take (i + 1)))) F (congrArg (fun l=>S l) (by rw [hst];simp)) ?_
    exact aW (i + 1) oM oM tU F aX
   ·rw [if_neg h0] at hst
    have hi0 : i = 0:=oM
    subst hi0
    repeat' (first | refine jX ?_ | (refine jo ?_;first | (refine jV (ir F F aS ?_ aS F F) ?_;focus omega) | refine jV (aI F F aS F F) ?_ | refine jV (aw F) ?_ | refine jV (ax F F oM) ?_ | refine ab F F F cx_out F ?_) | refine ac F (ay oM) ?_ | refine ad F F ?_)
    refine Nx.re (d:=3) (v':=S (91 :: aQ 44 ((V.outs ks).take (0 + 1)))) F (congrArg (fun l=>S l) (by rw [hst];rfl)) ?_
    exact aW (0 + 1) oM oM tU F aX
  ·have hin : i = ks.length:=oM
   subst hin
   repeat' (first | refine jX ?_ | (refine jo ?_;first | refine jV (aI F F aS F F) ?_ | refine jV (aw F) ?_) | refine ad F (aC oM) ?_)
   refine jY (vs:=[_]) ?_
   rw [ar,V.out,← hol,List.take_length];rfl
 | non k b h1 =>
  intro _
  refine jE [(0,_)] Tryz.func54 Tryz.ntmps54 fun B hB=>?_
  repeat' (first | refine jX ?_ | (refine jo ?_;first | refine jV (aI F F aS F F) ?_ | refine jV (aw F) ?_) | refine ac F F ?_ | refine ad F F ?_)
  refine jY (vs:=[_]) ?_
  rfl
 | opt k b kb b' cc v h0 h1 h2 h3 ih =>
  intro ht
  simp only [cX,V.tots] at ht
  have cx_out:=ih oM
  have hob:=nf hw h3
  unfold hC at hob
  refine jE [(0,_)] Tryz.func54 Tryz.ntmps54 fun B hB=>?_
  repeat' (first | refine jX ?_ | (refine jo ?_;first | refine jV (aI F F aS F F) ?_ | refine jV (aw F) ?_ | refine jV (a9 F F oM) ?_ | refine ab F F F cx_out F ?_) | refine ac F F ?_ | refine ad F F ?_)
  refine jY (vs:=[_]) ?_
  rw [ar,V.out];rfl
 | recd k b t fs bs a a2 c c2 h0 h1 h2 h3 h4 h5 hk ih =>
  intro ht
  obtain ⟨r,rfl⟩:=fX h0.1
  rw [cX] at ht
  have hB1 : ∀ v ∈ fs.map (fun p : Fld × V=>V.nd 61 [] p.1.tag [p.2]),hC v:=fun v hv=>by
   obtain ⟨p,hp,rfl⟩:=List.mem_map.1 hv
   obtain ⟨i,hi,rfl⟩:=od hp
   exact fh (fun u hu=>by simp only [List.mem_singleton] at hu;subst hu;exact nf hw (hk i hi)) (fF hw h0.1 (h5 i hi)).1
  have hb:=i6 hB1
  have hml : (fs.map (fun p : Fld × V=>V.nd 61 [] p.1.tag [p.2])).length = fs.length:=by simp
  have hol:=iI (fs.map (fun p : Fld × V=>V.nd 61 [] p.1.tag [p.2]))
  have hnt : ∀ i,i < fs.length → ae (fs.map (fun p : Fld × V=>V.nd 61 [] p.1.tag [p.2])) i = V.nd 61 [] (ae fs i).1.tag [(ae fs i).2]:=fun i hi=>by rw [a6 (by simpa using hi),a6 hi];simp
  generalize hKS : fs.map (fun p : Fld × V=>V.nd 61 [] p.1.tag [p.2]) = KS at *
  have cx_nmd : am abK 85 [Pt b 0] G (· = S (V.out (.nd 82 [] 0 KS))):=by
   refine jE [(0,_)] Tryz.func85 Tryz.ntmps85 fun B hB=>?_
   repeat' (first | refine jR ?_ | (refine jo ?_;refine jV (aI F F aS F F) ?_) | refine ad F F ?_)
   refine aR (ι:=Nat) (fun i=>i ≤ fs.length) (fun i=>[(0,Pt b 0),(3,S (123 :: aQ 44 ((V.outs KS).take i))),(4,I i)]) (fun _=>G) (fun i=>[]) (fun i=>fs.length - i) 0 ?_ tU F aX (fun i Hi=>?_)
   ·exact Nat.zero_le _
   have hj1:=e9 44 ((V.outs KS).take i)
   have hj2:=d3 (V.outs KS) i
   have hj3 : ((V.outs KS).take i).length ≤ fs.length:=by rw [List.length_take];omega
   by_cases hi : i < fs.length
   ·have hti:=fU (ks:=KS) (i:=i) oM
    rw [hnt i hi] at hti
    simp only [cX,V.tots] at hti
    have cx_out:=ih i hi oM
    have hou:=kD (ks:=KS) (i:=i) oM
    rw [hnt i hi,fZ] at hou
    have hxi : ae bs i = ae bs i:=rfl
    have htg:=fF hw h0.1 (h5 i hi)
    have hdl:=fx htg.1
    have hob:=nf hw (hk i hi)
    unfold hC at hob
    have hst:=og (c:=44) (xs:=V.outs KS) (i:=i) oM
    rw [hou] at hst
    have htn : ae (fs.map fun p : Fld × V=>p.1.tag) i = (ae fs i).1.tag:=by rw [a6 (by simpa using hi),a6 hi];simp
    have htl : (fs.map fun p : Fld × V=>p.1.tag).length = fs.length:=by simp
    obtain ⟨tgb,to,tc,e,hs1⟩:=h2.expl oM
    simp only [Value.slice.injEq] at e
    obtain ⟨rfl,-,rfl⟩:=e
    obtain ⟨kb,ko,kc,e,hs2⟩:=h3.expl oM
    simp only [Value.slice.injEq] at e
    obtain ⟨rfl,-,rfl⟩:=e
    by_cases hp0 : 0 < i
    ·rw [if_pos hp0] at hst
     repeat' (first | refine jX ?_ | (refine jo ?_;first | refine jV (aI F F aS F F) ?_ | refine jV (aw F) ?_) | refine ac F (ay oM) ?_ | (refine ai (an (id:=12) _ (fun _ h=>h) ah ?_);refine jT 12 [0,1,2,3,5,11,12,13,15] (aa 21 47151) ?_;(refine jG (aa 21 47167) 4 F (aI F F aS F F) ?_);(refine jG (aa 21 47231) 6 F (ax F F oM) ?_);((refine jG (aa 21 47359) 7 F (fq F F aS ?_ aS F) ?_;focus omega));(refine jG (aa 21 63743) 14 F (aI F F aS F F) ?_);(refine jG (aa 21 129279) 16 F (ax F F oM) ?_);((refine jG (aa 21 260351) 17 F (fq F F aS ?_ aS F) ?_;focus omega));refine jA 8 F ?_;(refine ab F F F (fz oM) F ?_);refine jS (aa 21 260607) ?_;refine jW 3 [9,10] (aa 21 262143) ?_;refine jA 18 F ?_;(refine ab F F F cx_out F ?_);refine jS (aa 21 524287) ?_;refine jW 0 [19,20] (aa 21 2097151) ?_;refine jQ ?_))
     all_goals
      refine Nx.re (d:=3) (v':=S (123 :: aQ 44 ((V.outs KS).take (i + 1)))) F (congrArg (fun l=>S l) (by rw [hst];simp)) ?_
      exact aW (i + 1) oM oM tU F aX
    ·rw [if_neg hp0] at hst
     have hi0 : i = 0:=oM
     subst hi0
     repeat' (first | refine jM ?_ | (refine jo ?_;first | refine jV (aI F F aS F F) ?_ | refine jV (aw F) ?_) | refine ac F (ay oM) ?_ | refine ad F F ?_ | (refine ai (an (id:=12) _ (fun _ h=>h) ah ?_);refine jT 12 [0,1,2,3,5,11,12,13,15] (aa 21 47151) ?_;(refine jG (aa 21 47167) 4 F (aI F F aS F F) ?_);(refine jG (aa 21 47231) 6 F (ax F F oM) ?_);((refine jG (aa 21 47359) 7 F (fq F F aS ?_ aS F) ?_;focus omega));(refine jG (aa 21 63743) 14 F (aI F F aS F F) ?_);(refine jG (aa 21 129279) 16 F (ax F F oM) ?_);((refine jG (aa 21 260351) 17 F (ir F F aS ?_ aS F F) ?_;focus omega));refine jA 8 F ?_;(refine ab F F F (fz oM) F ?_);refine jS (aa 21 260607) ?_;refine jW 3 [9,10] (aa 21 262143) ?_;refine jA 18 F ?_;(refine ab F F F cx_out F ?_);refine jS (aa 21 524287) ?_;refine jW 0 [19,20] (aa 21 2097151) ?_;refine jQ ?_))
     all_goals
      refine Nx.re (d:=3) (v':=S (123 :: aQ 44 ((V.outs KS).take (0 + 1)))) F (congrArg (fun l=>S l) (by rw [hst];simp [aQ])) ?_
      exact aW (0 + 1) oM oM tU F aX
   ·have hin : i = fs.length:=oM
    repeat' (first | refine jX ?_ | (refine jo ?_;first | refine jV (aI F F aS F F) ?_ | refine jV (aw F) ?_) | refine ad F (aC oM) ?_)
    refine jY (vs:=[_]) ?_
    rw [ar,V.out,hin,← hml,← hol,List.take_length];rfl
  refine jE [(0,_)] Tryz.func54 Tryz.ntmps54 fun B hB=>?_
  repeat' (first | refine jX ?_ | (refine jo ?_;first | refine jV (aI F F aS F F) ?_ | refine ab F F F cx_nmd F ?_) | refine ac F F ?_ | refine ad F F ?_)
  refine jY (vs:=[_]) ?_
  rfl
 | enm k b tgb t d h0 h1 h2 h3 =>
  intro _
  obtain ⟨r,rfl⟩:=fX h0.1
  have htg:=fF hw h0.1 h1
  have hdl:=fx htg.1
  have cx_nmd : am abK 85 [Pt b 0] G (· = S (V.out (.nd 69 [] d.tag []))):=by
   refine jE [(0,_)] Tryz.func85 Tryz.ntmps85 fun B hB=>?_
   repeat' (first | refine jX ?_ | (refine jo ?_;first | refine jV (aI F F aS F F) ?_ | refine jV (a9 F F oM) ?_ | refine ab F F F (fz oM) F ?_) | refine ac F F ?_ | refine ad F F ?_)
   refine jY (vs:=[_]) ?_
   rw [ar,V.out];rfl
  refine jE [(0,_)] Tryz.func54 Tryz.ntmps54 fun B hB=>?_
  repeat' (first | refine jX ?_ | (refine jo ?_;first | refine jV (aI F F aS F F) ?_ | refine ab F F F cx_nmd F ?_) | refine ac F F ?_ | refine ad F F ?_)
  refine jY (vs:=[_]) ?_
  rfl
 | uni k b tgb kb b' cc t d v hcc h0 h1 h2 h3 h4 hk ih =>
  intro ht
  obtain ⟨r,rfl⟩:=fX h0.1
  have htg:=fF hw h0.1 h1
  have hdl:=fx htg.1
  simp only [cX,V.tots] at ht
  have cx_out:=ih oM
  have hob:=nf hw hk
  unfold hC at hob
  have cx_nmd : am abK 85 [Pt b 0] G (· = S (V.out (.nd 85 [] d.tag [v]))):=by
   refine jE [(0,_)] Tryz.func85 Tryz.ntmps85 fun B hB=>?_
   repeat' (first | refine jR ?_ | (refine jo ?_;refine jV (aI F F aS F F) ?_) | refine ac F F ?_ | (refine ai (an (id:=3) _ (fun _ h=>h) ah ?_);refine jT 13 [0,1,2,9,10,11] (aa 19 3591) ?_;(refine jG (aa 19 3599) 3 F (aI F F aS F F) ?_);(refine jG (aa 19 3615) 4 F (a9 F F oM) ?_);(refine jG (aa 19 3647) 5 F (aI F F aS F F) ?_);(refine jG (aa 19 7743) 12 F (aI F F aS F F) ?_);(refine jG (aa 19 15935) 13 F (a9 F F oM) ?_);(refine jG (aa 19 32319) 14 F (aI F F aS F F) ?_);refine jA 6 F ?_;(refine ab F F F (fz oM) F ?_);refine jS (aa 19 32383) ?_;refine jW 4 [7,8] (aa 19 32767) ?_;refine jA 15 F ?_;(refine ab F F F cx_out F ?_);refine jS (aa 19 65535) ?_;refine jW 0 [16,17,18] (aa 19 524287) ?_;refine jQ ?_))
   all_goals refine jY (vs:=[_]) ?_
   all_goals (rw [ar,V.out];simp [V.outs,ew,aQ])
  clear cx_out
  refine jE [(0,_)] Tryz.func54 Tryz.ntmps54 fun B hB=>?_
  repeat' (first | refine jX ?_ | (refine jo ?_;first | refine jV (aI F F aS F F) ?_ | refine ab F F F cx_nmd F ?_) | refine ac F F ?_ | refine ad F F ?_)
  refine jY (vs:=[_]) ?_
  rfl
abbrev yt : TypeId:=42
abbrev yr : TypeId:=86
def ju (n : Nat) (u : Value) (vs : List b8) : Prop:=∀ (G : Gh) (k s : abL),SchR G u vs → aP (ag vs) k = true → s.length ≤ 2000000 →
 bA abK 84 [Ag [u],S s,S k,I (n : Nat)] G (cg (ag vs) (rd (ag vs) n k s) k)
theorem xV {n : Nat} {u : Value} {vs : List b8} {k s : abL} (hR : ju n u vs) (h : SchR G u vs) (hk : aP (ag vs) k = true) (hs : s.length ≤ 2000000) (hn : n ≤ 1000) :
  bA abK 110 [Ag [u],S s,S (91 :: k),I (n + 1 : Nat)] G (cg (ag vs) (er (rd (ag vs) n k) (91 :: s)) (91 :: k)):=by
 have edn : ((n + 1 : Nat) : Int) - 1 = (n : Nat):=oM
 by_cases h93 : ∃ s2,s = 93 :: s2
 ·obtain ⟨s2,rfl⟩:=h93
  refine jB [(0,_),(1,_),(2,_),(3,_)] Tryz.func110 Tryz.ntmps110 fun B hok hB hW=>?_
  repeat' (first | refine jX ?_ | (refine jo ?_;first | refine jO fun _=>?_ | refine jV (ao F F) ?_ | refine aL F ?_) | refine aD F F F ?_ | refine ac F F ?_ | (refine ai (an (id:=3) _ (fun _ h=>h) ah ?_);refine jW 0 [0,1,2,3,4,5] (aa 6 63) ?_;refine jQ ?_))
  rename_i x4 x11
  refine Nx.sealC (b:=x11) fun G2 hG2 hsy=>?_
  refine jZ (vs:=[_,_,_]) F ⟨F,F,F,trivial⟩ F ⟨hG2,F,?_⟩
  rw [aB]
  exact ⟨_,_,_,F,fun _=>⟨.nd 91 [] 0 [],x11,F,F,.lst k x11 [] [] none 0 hsy ⟨F,.inl ⟨F,F⟩⟩ F (fun i hi=>absurd hi (by simp))⟩,fun h=>(by cases h)⟩
 have hRl : er (rd (ag vs) n k) (91 :: s) = (a8 (rd (ag vs) n k) 20 s []).map fun x=>(.nd 91 [] 0 x.1,x.2):=by
  unfold er
  dsimp only
  rw [if_pos (show (91 : UInt8).toNat = 91 from rfl)]
  cases s with
  | nil =>
   have : rd (ag vs) n k [] = none:=by
    cases h : rd (ag vs) n k [] with
    | none=>rfl
    | some x=>have:=gv h;simp at this
   simp [a8,this]
  | cons e r' =>
   dsimp only
   rw [if_neg]
   intro h;exact h93 ⟨r',by rw [show e = 93 from UInt8.toNat_inj.1 h]⟩
 have hs0 : s = [] ∨ s ≠ [] ∧ ¬ ((bt s (Int.toNat 0) : Nat) : Int) = 93:=by
  cases s with
  | nil=>exact .inl F
  | cons e r' =>
   refine .inr ⟨by simp,fun h=>h93 ⟨r',?_⟩⟩
   have : bt (e :: r') (Int.toNat 0) = e.toNat:=be e r'
   rw [show e = 93 from UInt8.toNat_inj.1 (show e.toNat = 93 by omega)]
 have hkl : k.length ≤ 1000:=by
  have:=(dc (dp hk)).2
  omega
 have hslen : s = [] ∨ 0 < s.length:=by cases s <;> simp
 rcases hs0 with hs0 | ⟨hs0,hs1⟩
 all_goals
  have hslen2 : s ≠ [] → 0 < s.length:=fun h=>by rcases hslen with h' | h';exact absurd h' h;exact h'
  try have hslen3:=hslen2 hs0
  refine jB [(0,_),(1,_),(2,_),(3,_)] Tryz.func110 Tryz.ntmps110 fun B hok hB hW=>?_
  repeat' (first | refine jM ?_ | (refine jo ?_;first | refine jO fun _=>?_ | refine jV (ao F F) ?_ | refine aL F ?_ | refine av F ?_) | refine aD F F (ay ‹_›) ?_ | (refine al F F ?_ ?_;(focus ((simp [*];done);done))) | (refine ad F (by first | rfl | (refine decide_eq_false ?_;(assumption))) ?_))
  rename_i x4 x11
  refine Nx.addNil yt 1 ?_
  refine aR (ι:=List V × List Nat × Option Addr × Nat × abL × Gh) (fun q=>((q.2.1.length = q.1.length ∧ ∀ i,i < q.1.length → RepR q.2.2.2.2.2 (ag vs) (ae q.1 i) k (ae q.2.1 i)) ∧ Gh.le G q.2.2.2.2.2) ∧ a8 (rd (ag vs) n k) 20 s [] = a8 (rd (ag vs) n k) (20 - q.1.length) q.2.2.2.2.1 q.1 ∧ q.1.length ≤ 20 ∧ q.2.2.2.2.1.length ≤ s.length) (fun q=>[(1,S q.2.2.2.2.1),(2,S (91 :: k)),(3,I (n + 1 : Nat)),(4,Pt x4 0),(11,Pt x11 0)]) (fun q=>q.2.2.2.2.2) (fun q=>[.acc (.slice q.2.2.1 q.1.length q.2.2.2.1) yt 1 q.1.length (aA fY q.2.1),.blk x11 (.cells (List.toArray [S (91 :: k),S [],aK,.slice q.2.2.1 q.1.length q.2.2.2.1]) uk (0,0)),.blk x4 (.cells (List.toArray [u]) yr (0,0))]) (fun q=>20 - q.1.length) ([],[],none,0,s,G) ?_ tU F aX (fun q Hq=>?_)
  ·exact ⟨⟨⟨F,fun i hi=>absurd hi (by simp)⟩,Gh.le.refl _⟩,F,Nat.zero_le _,Nat.le_refl _⟩
  obtain ⟨ws,bs,a,cap,t,Gq⟩:=q
  dsimp only at Hq ⊢
  obtain ⟨⟨⟨hbl,hreps⟩,hgq⟩,hit,hwl,htl⟩:=Hq
  by_cases h20 : ws.length < 20
  case neg =>
   have e20 : 20 - ws.length = 0:=oM
   repeat' (first | refine jR ?_ | (refine jo ?_;first | refine aj F ?_ | refine jV (aw F) ?_) | refine ad F (aC oM) ?_)
   refine jZ (vs:=[_,_,_]) F ⟨F,F,F,trivial⟩ F ⟨hgq,F,?_⟩
   rw [aB]
   exact ⟨_,_,_,F,fun h=>(by cases h),fun _=>by rw [hRl,hit,e20];rfl⟩
  have cx_rd:=hR Gq k t (h.mono hgq) hk oM
  rw [← edn] at cx_rd
  repeat' (first | refine jR ?_ | (refine jo ?_;first | refine aj F ?_ | refine jV (aw F) ?_) | refine ac F (ay oM) ?_)
  (refine ai (an (id:=5) _ (fun _ h=>h) ah ?_);refine jW 9 [1,2,3,4,5] (aa 14 62) ?_;(refine jG (aa 14 63) 0 F (bq F F F F) ?_);refine jA 6 F ?_;(refine aJ F F F cx_rd F ?_;rintro _ G hle ⟨q1,r1,ok1,rfl,hyes,hno⟩;skip);refine jS (aa 14 127) ?_;refine jT 0 [7,8,9,10,11,12,13] (aa 14 16383) ?_;refine jQ ?_)
  have hgl:=hgq.trans hle
  cases ok1 with
  | false =>
   have hnone : a8 (rd (ag vs) n k) (20 - ws.length) t ws = none:=ii (.inl (hno rfl))
   repeat' (first | refine jR ?_ | (refine jo ?_;refine aL F ?_) | refine aD F F F ?_ | refine ac F F ?_)
   refine jZ (vs:=[_,_,_]) F ⟨F,F,F,trivial⟩ F ⟨hgl,F,?_⟩
   rw [aB]
   exact ⟨_,_,_,F,fun h=>(by cases h),fun _=>by rw [hRl,hit,hnone];rfl⟩
  | true =>
   obtain ⟨w,wb,rfl,hf,hrep⟩:=hyes rfl
   have hsh:=gv hf
   cases r1 with
   | nil =>
    have hnone : a8 (rd (ag vs) n k) (20 - ws.length) t ws = none:=ii (.inr ⟨w,hf⟩)
    repeat' (first | refine jR ?_ | (refine jo ?_;first | refine aL F ?_ | refine av F ?_) | refine aD F F F ?_ | refine al F F F ?_ | refine ac F F ?_)
    refine jZ (vs:=[_,_,_]) F ⟨F,F,F,trivial⟩ F ⟨hgl,F,?_⟩
    rw [aB]
    exact ⟨_,_,_,F,fun h=>(by cases h),fun _=>by rw [hRl,hit,hnone];rfl⟩
   | cons e r2 =>
    have hstep:=ig (vs:=ws) hf (show 0 < 20 - ws.length by omega)
    have he0 : bt (e :: r2) (Int.toNat 0) = e.toNat:=be e r2
    simp only [List.length_cons] at hsh
    have hel : (e :: r2).length = r2.length + 1:=rfl
    have hrow : aA fY bs ++ [Pt wb 0] = aA fY (bs ++ [wb]):=(cy fY bs wb).symm
    have hwl1 : (ws ++ [w]).length = ws.length + 1:=by simp
    have hbl1 : (bs ++ [wb]).length = (ws ++ [w]).length:=by simp [hbl]
    have hrp : ∀ i,i < (ws ++ [w]).length → RepR G (ag vs) (ae (ws ++ [w]) i) k (ae (bs ++ [wb]) i):=fun i hi=>by
     by_cases h1 : i < ws.length
     ·have e1 : ae (ws ++ [w]) i = ae ws i:=by rw [a6 hi,a6 h1,List.getElem_append_left h1]
      have e2 : ae (bs ++ [wb]) i = ae bs i:=by rw [a6 oM,a6 oM,List.getElem_append_left oM]
      rw [e1,e2];exact (hreps i h1).mono hle
     ·have h2 : i = ws.length:=oM
      have e1 : ae (ws ++ [w]) i = w:=by rw [a6 hi];simp [h2]
      have e2 : ae (bs ++ [wb]) i = wb:=by rw [a6 oM];simp [h2,hbl]
      rw [e1,e2];exact hrep
    by_cases h44 : e.toNat = 44
    ·rw [if_pos h44] at hstep
     have hn93 : ¬ e.toNat = 93:=oM
     repeat' (first | refine jM ?_ | (refine jo ?_;first | refine av F ?_ | refine aj F ?_ | refine jF fun _=>?_ | refine cQ F F F F F F F F F oM fun _ _=>?_ | refine jD F F F ?_) | (refine al F F (by first | rfl | (refine decide_eq_false ?_;(omega))) ?_) | (refine ad F (by first | rfl | (refine decide_eq_false ?_;(omega))) ?_))
     rename_i y0 y1 yc
     rw [hrow]
     exact aW (ws ++ [w],bs ++ [wb],some ⟨y1,0,none⟩,yc,r2,G) ⟨⟨⟨hbl1,hrp⟩,hgl⟩,(by dsimp only;rw [hit,hstep,hwl1,Nat.sub_sub]),(by dsimp only;omega),(by dsimp only;omega)⟩ (by dsimp only;omega) tU rfl (by rw [hwl1];repeat (first | exact List.Sublist.refl _ | apply List.Sublist.cons_cons | apply List.Sublist.cons))
    ·rw [if_neg h44] at hstep
     by_cases h93' : e.toNat = 93
     ·rw [if_pos h93'] at hstep
      repeat' (first | refine jM ?_ | (refine jo ?_;first | refine aL F ?_ | refine av F ?_ | refine aj F ?_ | refine jF fun _=>?_ | refine cQ F F F F F F F F F oM fun _ _=>?_ | refine jD F F F ?_) | refine aD F F (ay oM) ?_ | refine al F F F ?_ | refine ac F (ay oM) ?_ | refine ad F (aC oM) ?_)
      rename_i y0 y1 yc
      rw [hrow]
      refine Nx.sealS (v:=.slice (some ⟨y1,0,none⟩) (ws.length + 1) yc) fun G2 hG2 hsl=>?_
      refine Nx.sealC (b:=x11) fun G3 hG3 hsg=>?_
      refine jZ (vs:=[_,_,_]) F ⟨F,F,F,trivial⟩ F ⟨((hgl.trans hG2).trans hG3),F,?_⟩
      rw [aB]
      exact ⟨_,_,_,F,fun _=>⟨.nd 91 [] 0 (ws ++ [w]),x11,F,by rw [hRl,hit,hstep];rfl,.lst k x11 _ (bs ++ [wb]) (some ⟨y1,0,none⟩) yc (by rw [hwl1];exact hsg) (by rw [hwl1];exact hsl.mono hG3) hbl1 (fun i hi=>(hrp i hi).mono (hG2.trans hG3))⟩,fun h=>(by cases h)⟩
     ·rw [if_neg h93'] at hstep
      repeat' (first | refine jM ?_ | (refine jo ?_;first | refine aL F ?_ | refine av F ?_) | refine aD F F (ay oM) ?_ | refine al F F F ?_ | refine ac F (ay oM) ?_)
      refine jZ (vs:=[_,_,_]) F ⟨F,F,F,trivial⟩ F ⟨hgl,F,?_⟩
      rw [aB]
      exact ⟨_,_,_,F,fun h=>(by cases h),fun _=>by rw [hRl,hit,hstep];rfl⟩
section
variable {P : Program} {n : Nat} {D : List Deferred} {E : bn} {M : World → Prop} {d : Option Nat} {ty : TypeId} {pos : String} {aft : Array Edge} {gd : Option (Nat × Bool)}
theorem uK {T T0 : TypeId} {x : Operand} {desc : TypeDesc} {size bytes b m cap i : Nat} {zero : Value} {G0 : Gh} {L0 : List Own} {cs : List Int} {xs : List Value} {y : Int} [TI P T desc size bytes zero] [Kn M G0 L0] [h : AccB L0 b m cap T0 1 xs] (hx : ev E x = some (Pt b (0 + i * 1))) (ha : dt desc = false) (hxs : xs = aA hY cs) (hi : i < cs.length) (hy : ae cs i = y) :
  Gives P n D E M ⟨d,.load T x,ty,pos,aft,gd⟩ (I y):=gi hx ha (by
 have:=(eE (S:=M) h.mem).go (i * 1 + 0) (I y) (by rw [hxs,eb hi oM,hy];rfl)
 simpa using this)
end
def gM (fs : List (Fld × V)) : Int:=match fs.getLast? with
 | some p=>p.1.tag
 | none=>0
def lJ (fs : List (Fld × V)) : List V:=fs.map fun p=>.nd 61 [] p.1.tag [p.2]
theorem tA (fs : List (Fld × V)) (p : Fld × V) : gM (fs ++ [p]) = p.1.tag:=by simp [gM]
abbrev wA : TypeId:=42
abbrev wC : TypeId:=3
abbrev tFd : TypeId:=128
abbrev yp : TypeId:=122
theorem va {n : Nat} {u : Value} {vs : List b8} {x : b8} {k s : abL} (hR : ju n u vs) (h : SchR G u vs) (hw : SchW (ag vs)) (hx : x ∈ vs) (hrf : aV (ag vs) k = some x.2) (hso : x.2.sort = 82) (hs : s.length ≤ 2000000) (hn : n ≤ 1000) (hkl : k.length ≤ 1000) :
  bA abK 150 [Ag [u],S s,S k,Ag (iA x),I (n + 1 : Nat)] G (cg (ag vs) (aY (ag vs) (rd (ag vs) n) x.2 (123 :: s)) k):=by
 have edn : ((n + 1 : Nat) : Int) - 1 = (n : Nat):=oM
 have hxt : x.2 ∈ ag vs:=List.mem_map_of_mem hx
 have hTW:=hw.ty _ hxt
 have hfl:=hTW.len
 by_cases h125 : ∃ s2,s = 125 :: s2
 ·obtain ⟨s2,rfl⟩:=h125
  have hgood : aY (ag vs) (rd (ag vs) n) x.2 (123 :: 125 :: s2) = some (.nd 82 [] 0 [],s2):=by
   unfold aY
   dsimp only
   rw [if_pos hso,if_pos (show (123 : UInt8).toNat = 123 from rfl),if_pos (show (125 : UInt8).toNat = 125 from rfl)]
  refine jB [(0,_),(1,_),(2,_),(3,_),(4,_)] Tryz.func150 Tryz.ntmps150 fun B hok hB hW=>?_
  repeat' (first | refine jX ?_ | (refine jo ?_;first | refine jO fun _=>?_ | refine jV (ao F F) ?_ | refine aL F ?_) | refine aD F F F ?_ | refine ac F F ?_ | (refine ai (an (id:=3) _ (fun _ h=>h) ah ?_);refine jW 0 [0,1,2,3,4,5] (aa 6 63) ?_;refine jQ ?_))
  rename_i x5 x8 x13
  refine Nx.sealC (b:=x13) fun G2 hG2 hsy=>?_
  refine jZ (vs:=[_,_,_]) F ⟨F,F,F,trivial⟩ F ⟨hG2,F,?_⟩
  rw [aB]
  exact ⟨_,_,_,F,fun _=>⟨.nd 82 [] 0 [],x13,F,hgood,.recd k x13 x.2 [] [] none none 0 0 ⟨hrf,hso⟩ hsy ⟨F,.inl ⟨F,F⟩⟩ ⟨F,.inl ⟨F,F⟩⟩ F (fun i hi=>absurd hi (by simp)) (fun i hi=>absurd hi (by simp))⟩,fun h=>(by cases h)⟩
 have hRl : aY (ag vs) (rd (ag vs) n) x.2 (123 :: s) = (bC (ag vs) (rd (ag vs) n) x.2 (s.length + 1) 0 s []).map fun x=>(.nd 82 [] 0 x.1,x.2):=by
  unfold aY
  dsimp only
  rw [if_pos hso,if_pos (show (123 : UInt8).toNat = 123 from rfl)]
  cases s with
  | nil=>rw [dE jy];rfl
  | cons e r' =>
   dsimp only
   rw [if_neg]
   intro h;exact h125 ⟨r',by rw [show e = 125 from UInt8.toNat_inj.1 h]⟩
 have hs0 : s = [] ∨ s ≠ [] ∧ ¬ ((bt s (Int.toNat 0) : Nat) : Int) = 125:=by
  cases s with
  | nil=>exact .inl F
  | cons e r' =>
   refine .inr ⟨by simp,fun h=>h125 ⟨r',?_⟩⟩
   have : bt (e :: r') (Int.toNat 0) = e.toNat:=be e r'
   rw [show e = 125 from UInt8.toNat_inj.1 (show e.toNat = 125 by omega)]
 have hslen : s = [] ∨ 0 < s.length:=by cases s <;> simp
 rcases hs0 with hs0 | ⟨hs0,hs1⟩
 ·subst hs0
  have cx_tg:=qe (G:=G) (u:=u) (x:=x) (s:=[]) (by simp) h.sl.one (h.fl x hx) oM
  have e0 : aM (([] : abL).takeWhile aU) 200 = none:=by
   cases h : aM (([] : abL).takeWhile aU) 200 with
   | none=>rfl
   | some m =>
    have:=(dW h).2.1
    have h2:=iN m
    rw [← this] at h2;simp at h2
  rw [e0] at cx_tg
  refine jB [(0,_),(1,_),(2,_),(3,_),(4,_)] Tryz.func150 Tryz.ntmps150 fun B hok hB hW=>?_
  repeat' (first | refine jR ?_ | (refine jo ?_;first | refine jO fun _=>?_ | refine jV (ao F F) ?_ | refine av F ?_) | refine al F F F ?_ | refine ad F F ?_)
  rename_i x5 x8 x13
  refine aR (ι:=Unit) (fun i=>True) (fun i=>[(1,S []),(2,S k),(4,I (n + 1 : Nat)),(5,Pt x5 0),(8,Pt x8 0),(13,Pt x13 0)]) (fun _=>G) (fun i=>[.blk x13 (.cells (List.toArray [S k,S [82],aK,aK]) uk (0,0)),.blk x8 (.cells (List.toArray [U8 x.2.sort,S x.2.name,gP x]) yp (0,0)),.blk x5 (.cells (List.toArray [u]) yr (0,0))]) (fun i=>0) () ?_ tU F aX (fun i Hi=>?_)
  ·trivial
  repeat' (first | refine jR ?_ | (refine jo ?_;first | refine aG F ?_ | refine jL fun _=>?_ | refine jC F F F ?_ | (refine cn F F F cx_tg F ?_;rintro _ ⟨nt,rfl,hnt⟩)) | refine ac F F ?_ | (refine ai (an (id:=5) _ (fun _ h=>h) ah ?_);refine jT 33 [0,1,2] (aa 36 7) ?_;(try (refine Nx.re (d:=43) (v':=Bo true) F (congrArg Value.bool F) ?_));refine jT 31 [3,4] (aa 36 31) ?_;(refine jG (aa 36 63) 5 F (aT F F F) ?_);refine jT 29 [6] (aa 36 127) ?_;(try (refine Nx.re (d:=47) (v':=Bo true) F (congrArg Value.bool F) ?_));refine jT 26 [7,8,9] (aa 36 1023) ?_;(refine jG (aa 36 2047) 10 F (aT F F F) ?_);refine jT 24 [11] (aa 36 4095) ?_;(try (refine Nx.re (d:=52) (v':=Bo true) F (congrArg Value.bool F) ?_));refine jT 21 [12,13,14] (aa 36 32767) ?_;(refine jN (aa 36 65535) 15 F ?_);(refine jN (aa 36 131071) 16 F ?_);refine jT 17 [17,18] (aa 36 524287) ?_;(try (fail));refine jT 10 [19,20,21,23,24,25,31] (aa 36 2210398207) ?_;(refine jN (aa 36 2214592511) 22 F ?_);(refine jN (aa 36 2281701375) 26 F ?_);(refine jN (aa 36 2415919103) 27 F ?_);refine jT 6 [28] (aa 36 2684354559) ?_;(refine jN (aa 36 3221225471) 29 F ?_);(refine jN (aa 36 4294967295) 30 F ?_);(refine jN (aa 36 8589934591) 32 F ?_);refine jT 2 [33] (aa 36 17179869183) ?_;(refine jN (aa 36 34359738367) 34 F ?_);(refine jG (aa 36 68719476735) 35 F (aT F F F) ?_);refine jQ ?_))
  all_goals refine jZ (vs:=[_,_,_]) F ⟨F,F,F,trivial⟩ F ⟨Gh.le.refl _,F,?_⟩
  all_goals (rw [aB];exact ⟨_,_,_,F,fun h=>(by cases h),fun _=>by rw [hRl,dE jy];rfl⟩)
 ·have hslen3 : 0 < s.length:=List.length_pos_iff.2 hs0
  refine jB [(0,_),(1,_),(2,_),(3,_),(4,_)] Tryz.func150 Tryz.ntmps150 fun B hok hB hW=>?_
  repeat' (first | refine jM ?_ | (refine jo ?_;first | refine jO fun _=>?_ | refine jV (ao F F) ?_ | refine aL F ?_) | refine aD F F (ay ‹_›) ?_ | refine ad F (aC ‹_›) ?_)
  rename_i x5 x8 x13
  refine Nx.addNil wC 1 (Nx.addNil wA 1 ?_)
  refine aR (ι:=List (Fld × V) × List Nat × Option Addr × Nat × Option Addr × Nat × abL × Nat × Gh) (fun q=>((q.2.1.length = q.1.length ∧ (∀ i,i < q.1.length → (ae q.1 i).1 ∈ x.2.fields) ∧ ∀ i,i < q.1.length → RepR q.2.2.2.2.2.2.2.2 (ag vs) (ae q.1 i).2 (ae q.1 i).1.kind (ae q.2.1 i)) ∧ Gh.le G q.2.2.2.2.2.2.2.2) ∧ (bC (ag vs) (rd (ag vs) n) x.2 (s.length + 1) 0 s [] = bC (ag vs) (rd (ag vs) n) x.2 q.2.2.2.2.2.2.2.1 (gM q.1) q.2.2.2.2.2.2.1 (lJ q.1) ∧ q.2.2.2.2.2.2.1.length < q.2.2.2.2.2.2.2.1) ∧ q.2.2.2.2.2.2.1.length ≤ s.length ∧ q.1.length + q.2.2.2.2.2.2.1.length ≤ s.length) (fun q=>[(1,S q.2.2.2.2.2.2.1),(2,S k),(4,I (n + 1 : Nat)),(5,Pt x5 0),(8,Pt x8 0),(13,Pt x13 0)]) (fun q=>q.2.2.2.2.2.2.2.2) (fun q=>[.acc (.slice q.2.2.2.2.1 q.1.length q.2.2.2.2.2.1) wA 1 q.1.length (aA fY q.2.1),.acc (.slice q.2.2.1 q.1.length q.2.2.2.1) wC 1 q.1.length (aA hY (q.1.map fun p=>p.1.tag)),.blk x13 (.cells (List.toArray [S k,S [82],.slice q.2.2.1 q.1.length q.2.2.2.1,.slice q.2.2.2.2.1 q.1.length q.2.2.2.2.2.1]) uk (0,0)),.blk x8 (.cells (List.toArray [U8 x.2.sort,S x.2.name,gP x]) yp (0,0)),.blk x5 (.cells (List.toArray [u]) yr (0,0))]) (fun q=>q.2.2.2.2.2.2.1.length) ([],[],none,0,none,0,s,s.length + 1,G) ?_ tU F aX (fun q Hq=>?_)
  ·exact ⟨⟨⟨F,fun i hi=>absurd hi (by simp),fun i hi=>absurd hi (by simp)⟩,Gh.le.refl _⟩,⟨F,Nat.lt_succ_self _⟩,Nat.le_refl _,by simp⟩
  obtain ⟨fs,bs,a1,c1,a2,c2,t,m,Gq⟩:=q
  dsimp only at Hq ⊢
  obtain ⟨⟨⟨hbl,hfm,hreps⟩,hgq⟩,⟨hit,htm⟩,htl,hft⟩:=Hq
  have cx_tg:=qe (G:=Gq) (u:=u) (x:=x) (s:=t) oM h.sl.one ((h.mono hgq).fl x hx) oM
  repeat' (first | refine jR ?_ | (refine jo ?_;first | refine aG F ?_ | refine jL fun _=>?_ | refine jC F F F ?_ | (refine cn F F F cx_tg F ?_;rintro _ ⟨nt,rfl,hnt⟩)))
  have hnone : ∀ {v : Value} {G' : Gh} {r : abL},bC (ag vs) (rd (ag vs) n) x.2 m (gM fs) t (lJ fs) = none → v = Tu [.pointer none,S r,Bo false] → cg (ag vs) (aY (ag vs) (rd (ag vs) n) x.2 (123 :: s)) k v G':=fun h1 h2=>⟨_,_,_,h2,fun h=>(by cases h),fun _=>by rw [hRl,hit,h1];rfl⟩
  cases hb16 : (aM (t.takeWhile aU) 200).isSome && (bJ x.2.fields nt).isSome with
  | false =>
   have hno : aO (rd (ag vs) n) x.2 t = none:=by
    cases hm : aM (t.takeWhile aU) 200 with
    | none=>exact eI (.inl hm)
    | some m0 =>
     refine eI (.inr ⟨m0,hm,?_⟩)
     rw [hm] at hb16
     rw [← hnt m0 hm]
     cases hf : bJ x.2.fields nt with
     | none=>rfl
     | some d=>rw [hf] at hb16;cases hb16
   (refine ai (an (id:=5) _ (fun _ h=>h) ah ?_);refine jT 33 [0,1,2] (aa 36 7) ?_;(try (refine Nx.re (d:=43) (v':=Bo true) F (congrArg Value.bool F) ?_));refine jT 31 [3,4] (aa 36 31) ?_;(refine jG (aa 36 63) 5 F (aT F F F) ?_);refine jT 29 [6] (aa 36 127) ?_;(try (refine Nx.re (d:=47) (v':=Bo true) F (congrArg Value.bool F) ?_));refine jT 26 [7,8,9] (aa 36 1023) ?_;(refine jG (aa 36 2047) 10 F (aT F F F) ?_);refine jT 24 [11] (aa 36 4095) ?_;(try (refine Nx.re (d:=52) (v':=Bo true) F (congrArg Value.bool F) ?_));refine jT 21 [12,13,14] (aa 36 32767) ?_;(refine jN (aa 36 65535) 15 F ?_);(refine jN (aa 36 131071) 16 F ?_);refine jT 17 [17,18] (aa 36 524287) ?_;(try (fail));refine jT 10 [19,20,21,23,24,25,31] (aa 36 2210398207) ?_;(refine jN (aa 36 2214592511) 22 F ?_);(refine jN (aa 36 2281701375) 26 F ?_);(refine jN (aa 36 2415919103) 27 F ?_);refine jT 6 [28] (aa 36 2684354559) ?_;(refine jN (aa 36 3221225471) 29 F ?_);(refine jN (aa 36 4294967295) 30 F ?_);(refine jN (aa 36 8589934591) 32 F ?_);refine jT 2 [33] (aa 36 17179869183) ?_;(refine jN (aa 36 34359738367) 34 F ?_);(refine jG (aa 36 68719476735) 35 F (aT F F F) ?_);refine jQ ?_)
   repeat' (first | refine jR ?_ | refine ac F F ?_)
   all_goals refine jZ (vs:=[_,_,_]) F ⟨F,F,F,trivial⟩ F ⟨hgq,F,?_⟩
   all_goals exact hnone (dE hno) F
  | true =>
   simp only [Bool.and_eq_true] at hb16
   obtain ⟨hb1,hb2⟩:=hb16
   obtain ⟨m0,hm⟩:=Option.isSome_iff_exists.1 hb1
   obtain ⟨d,hd⟩:=Option.isSome_iff_exists.1 hb2
   have hnm:=hnt m0 hm
   subst hnm
   rw [hd]
   simp only [Option.getD_some]
   have hdm : d ∈ x.2.fields:=List.mem_of_find?_eq_some hd
   have hdt : d.tag = nt:=by have:=List.find?_some hd;simpa using this
   have hwl:=dA aU t
   cases hdw : t.dropWhile aU with
   | nil =>
    have hno : aO (rd (ag vs) n) x.2 t = none:=gk hm (fun s2 h=>by rw [hdw] at h;cases h)
    (refine ai (an (id:=5) _ (fun _ h=>h) ah ?_);refine jT 33 [0,1,2] (aa 36 7) ?_;(try (refine Nx.re (d:=43) (v':=Bo false) F (congrArg Value.bool F) ?_));refine jT 31 [3,4] (aa 36 31) ?_;(refine jG (aa 36 63) 5 F (aH F F F) ?_);refine jT 29 [6] (aa 36 127) ?_;(try (refine Nx.re (d:=47) (v':=Bo true) F (congrArg Value.bool F) ?_));refine jT 26 [7,8,9] (aa 36 1023) ?_;(refine jG (aa 36 2047) 10 F (aT F F F) ?_);refine jT 24 [11] (aa 36 4095) ?_;(try (refine Nx.re (d:=52) (v':=Bo true) F (congrArg Value.bool F) ?_));refine jT 21 [12,13,14] (aa 36 32767) ?_;(refine jN (aa 36 65535) 15 F ?_);(refine jN (aa 36 131071) 16 F ?_);refine jT 17 [17,18] (aa 36 524287) ?_;(try (fail));refine jT 10 [19,20,21,23,24,25,31] (aa 36 2210398207) ?_;(refine jN (aa 36 2214592511) 22 F ?_);(refine jN (aa 36 2281701375) 26 F ?_);(refine jN (aa 36 2415919103) 27 F ?_);refine jT 6 [28] (aa 36 2684354559) ?_;(refine jN (aa 36 3221225471) 29 F ?_);(refine jN (aa 36 4294967295) 30 F ?_);(refine jN (aa 36 8589934591) 32 F ?_);refine jT 2 [33] (aa 36 17179869183) ?_;(refine jN (aa 36 34359738367) 34 F ?_);(refine jG (aa 36 68719476735) 35 F (aT F F F) ?_);refine jQ ?_)
    repeat' (first | refine jR ?_ | refine ac F F ?_)
    all_goals refine jZ (vs:=[_,_,_]) F ⟨F,F,F,trivial⟩ F ⟨hgq,F,?_⟩
    all_goals exact hnone (dE hno) F
   | cons e r2 =>
    have he0 : bt (e :: r2) (Int.toNat 0) = e.toNat:=be e r2
    have hel : (e :: r2).length = r2.length + 1:=rfl
    by_cases h61 : e.toNat = 61
    case neg =>
     have hno : aO (rd (ag vs) n) x.2 t = none:=gk hm (fun s2 h=>by rw [hdw] at h;simp only [List.cons.injEq] at h;exact h61 (by rw [h.1];rfl))
     (refine ai (an (id:=5) _ (fun _ h=>h) ah ?_);refine jT 33 [0,1,2] (aa 36 7) ?_;(try (refine Nx.re (d:=43) (v':=Bo false) F (congrArg Value.bool F) ?_));refine jT 31 [3,4] (aa 36 31) ?_;(refine jG (aa 36 63) 5 F (aH F F F) ?_);refine jT 29 [6] (aa 36 127) ?_;(try (refine Nx.re (d:=47) (v':=Bo false) F (congrArg Value.bool F) ?_));refine jW 26 [7,8,9] (aa 36 1023) ?_;(refine jG (aa 36 2047) 10 F (aH F F F) ?_);refine jT 24 [11] (aa 36 4095) ?_;(try ((refine Nx.re (d:=52) (v':=Bo true) F (congrArg Value.bool (ay oM)) ?_)));refine jT 21 [12,13,14] (aa 36 32767) ?_;(refine jN (aa 36 65535) 15 F ?_);(refine jN (aa 36 131071) 16 F ?_);refine jT 17 [17,18] (aa 36 524287) ?_;(try (fail));refine jT 10 [19,20,21,23,24,25,31] (aa 36 2210398207) ?_;(refine jN (aa 36 2214592511) 22 F ?_);(refine jN (aa 36 2281701375) 26 F ?_);(refine jN (aa 36 2415919103) 27 F ?_);refine jT 6 [28] (aa 36 2684354559) ?_;(refine jN (aa 36 3221225471) 29 F ?_);(refine jN (aa 36 4294967295) 30 F ?_);(refine jN (aa 36 8589934591) 32 F ?_);refine jT 2 [33] (aa 36 17179869183) ?_;(refine jN (aa 36 34359738367) 34 F ?_);(refine jG (aa 36 68719476735) 35 F (aT F F F) ?_);refine jQ ?_)
     repeat' (first | refine jR ?_ | refine ac F F ?_)
     all_goals refine jZ (vs:=[_,_,_]) F ⟨F,F,F,trivial⟩ F ⟨hgq,F,?_⟩
     all_goals exact hnone (dE hno) F
    have he61 : e = 61:=UInt8.toNat_inj.1 h61
    have hfs:=kQ (f:=rd (ag vs) n) (t:=x.2) (s:=t) hm hd (by rw [hdw,he61])
    have hm0 : 0 < m:=oM
    have hflt : (fs.map fun p : Fld × V=>p.1.tag).length = fs.length:=by simp
    have hdt1:=((hTW.fld d hdm).tag).1
    have hlast0 : fs.length = 0 → gM fs = 0:=fun h0=>by rw [List.length_eq_zero_iff.1 h0];rfl
    have hlast1 : 0 < fs.length → ae (fs.map fun p : Fld × V=>p.1.tag) (((fs.length : Nat) : Int) - 1).toNat = gM fs:=fun h0=>by
     have e1 : (((fs.length : Nat) : Int) - 1).toNat = fs.length - 1:=oM
     rw [e1,a6 (by rw [hflt];omega)]
     unfold gM
     rw [List.getLast?_eq_getElem?,List.getElem?_eq_getElem oM]
     simp
    rename_i x14
    have hf0 : fs.length = 0 ∨ 0 < fs.length:=oM
    by_cases hlt : d.tag ≤ gM fs
    ·have hpos : 0 < fs.length:=by
      rcases hf0 with h0 | h0
      ·have:=hlast0 h0;omega
      ·exact h0
     have hyl:=hlast1 hpos
     have hno : bC (ag vs) (rd (ag vs) n) x.2 m (gM fs) t (lJ fs) = none:=by
      cases hy : rd (ag vs) n d.kind r2 with
      | none=>exact dE (by rw [hfs,hy];rfl)
      | some y =>
       obtain ⟨w,r3⟩:=y
       rw [jf (d:=d) (v:=w) (r:=r3) (by rw [hfs,hy];rfl) hm0,if_pos (.inl hlt)]
     refine Nx.shp (v:=.slice a1 fs.length c1) (.tail _ (.tail _ (.head _))) fun hsh=>?_
     obtain ⟨tb1,tc1,e1⟩:=hsh.pos oM
     simp only [Value.slice.injEq] at e1
     obtain ⟨rfl,-,rfl⟩:=e1
     (refine ai (an (id:=5) _ (fun _ h=>h) ah ?_);refine jT 33 [0,1,2] (aa 36 7) ?_;(try (refine Nx.re (d:=43) (v':=Bo false) F (congrArg Value.bool F) ?_));refine jT 31 [3,4] (aa 36 31) ?_;(refine jG (aa 36 63) 5 F (aH F F F) ?_);refine jT 29 [6] (aa 36 127) ?_;(try (refine Nx.re (d:=47) (v':=Bo false) F (congrArg Value.bool F) ?_));refine jW 26 [7,8,9] (aa 36 1023) ?_;(refine jG (aa 36 2047) 10 F (aH F F F) ?_);refine jT 24 [11] (aa 36 4095) ?_;(try ((refine Nx.re (d:=52) (v':=Bo false) F (congrArg Value.bool (aC oM)) ?_)));refine jT 21 [12,13,14] (aa 36 32767) ?_;(refine jG (aa 36 65535) 15 F (aq F F F) ?_);(refine jG (aa 36 131071) 16 F (aw F) ?_);refine jT 17 [17,18] (aa 36 524287) ?_;(try ((refine Nx.re (d:=59) (v':=Bo true) F (congrArg Value.bool (ay oM)) ?_)));refine jT 10 [19,20,21,23,24,25,31] (aa 36 2210398207) ?_;(refine jG (aa 36 2214592511) 22 F (aq F F F) ?_);(refine jG (aa 36 2281701375) 26 F (aq F F F) ?_);(refine jG (aa 36 2415919103) 27 F (aw F) ?_);refine jW 6 [28] (aa 36 2684354559) ?_;(refine jG (aa 36 3221225471) 29 F (a9 F F oM) ?_);((refine jG (aa 36 4294967295) 30 F (uK F F F ?_ aS) ?_;focus omega));(refine jG (aa 36 8589934591) 32 F (aq F F F) ?_);refine jT 2 [33] (aa 36 17179869183) ?_;(refine jG (aa 36 34359738367) 34 F (aT F F F) ?_);(refine jG (aa 36 68719476735) 35 F (aH F F F) ?_);refine jQ ?_)
     repeat' (first | refine jR ?_ | refine ac F (ay ‹_›) ?_)
     all_goals refine jZ (vs:=[_,_,_]) F ⟨F,F,F,trivial⟩ F ⟨hgq,F,?_⟩
     all_goals exact hnone hno F
    have hSq:=h.mono hgq
    have hdk : aP (ag vs) d.kind = true:=eS hw hxt oM hdm
    rw [hdw,List.length_cons] at hwl
    have cx_rd:=hR Gq d.kind r2 hSq hdk oM
    rw [← edn] at cx_rd
    rcases hf0 with hf0 | hf0
    rotate_left
    have hyl:=hlast1 hf0
    refine Nx.shp (v:=.slice a1 fs.length c1) (.tail _ (.tail _ (.head _))) fun hsh=>?_
    obtain ⟨tb1,tc1,e1⟩:=hsh.pos oM
    simp only [Value.slice.injEq] at e1
    obtain ⟨rfl,-,rfl⟩:=e1
    all_goals
     (refine ai (an (id:=5) _ (fun _ h=>h) ah ?_);refine jT 33 [0,1,2] (aa 36 7) ?_;(try (refine Nx.re (d:=43) (v':=Bo false) F (congrArg Value.bool F) ?_));refine jT 31 [3,4] (aa 36 31) ?_;(refine jG (aa 36 63) 5 F (aH F F F) ?_);refine jT 29 [6] (aa 36 127) ?_;(try (refine Nx.re (d:=47) (v':=Bo false) F (congrArg Value.bool F) ?_));refine jW 26 [7,8,9] (aa 36 1023) ?_;(refine jG (aa 36 2047) 10 F (aH F F F) ?_);refine jT 24 [11] (aa 36 4095) ?_;(try ((refine Nx.re (d:=52) (v':=Bo false) F (congrArg Value.bool (aC oM)) ?_)));refine jT 21 [12,13,14] (aa 36 32767) ?_;(refine jG (aa 36 65535) 15 F (aq F F F) ?_);(refine jG (aa 36 131071) 16 F (aw F) ?_);refine jT 17 [17,18] (aa 36 524287) ?_;(try (first | (refine Nx.re (d:=59) (v':=Bo true) F (congrArg Value.bool (ay oM)) ?_) | (refine Nx.re (d:=59) (v':=Bo false) F (congrArg Value.bool (aC oM)) ?_)));refine jT 10 [19,20,21,23,24,25,31] (aa 36 2210398207) ?_;(first | refine jG (aa 36 2214592511) 22 F (aq F F F) ?_ | refine jN (aa 36 2214592511) 22 F ?_);(first | refine jG (aa 36 2281701375) 26 F (aq F F F) ?_ | refine jN (aa 36 2281701375) 26 F ?_);(first | refine jG (aa 36 2415919103) 27 F (aw F) ?_ | refine jN (aa 36 2415919103) 27 F ?_);refine jW 6 [28] (aa 36 2684354559) ?_;(first | refine jG (aa 36 3221225471) 29 F (a9 F F oM) ?_ | refine jN (aa 36 3221225471) 29 F ?_);(first | (refine jG (aa 36 4294967295) 30 F (uK F F F ?_ aS) ?_;focus omega) | refine jN (aa 36 4294967295) 30 F ?_);(first | refine jG (aa 36 8589934591) 32 F (aq F F F) ?_ | refine jN (aa 36 8589934591) 32 F ?_);refine jT 2 [33] (aa 36 17179869183) ?_;(first | refine jG (aa 36 34359738367) 34 F (aT F F F) ?_ | refine jG (aa 36 34359738367) 34 F (aH F F F) ?_);(refine jG (aa 36 68719476735) 35 F (aH F F F) ?_);refine jQ ?_)
     repeat' (first | refine jR ?_ | (refine ad F (by first | rfl | (refine decide_eq_false ?_;(assumption))) ?_))
     (refine ai (an (id:=7) _ (fun _ h=>h) ah ?_);refine jW 10 [1,2,3,5,6] (aa 15 110) ?_;(refine jG (aa 15 111) 0 F (bq F F F F) ?_);(refine jG (aa 15 127) 4 F (aq F F F) ?_);refine jA 7 F ?_;(refine aJ F F F cx_rd F ?_;rintro _ G hle ⟨q1,r1,ok1,rfl,hyes,hno⟩;skip);refine jS (aa 15 255) ?_;refine jT 0 [8,9,10,11,12,13,14] (aa 15 32767) ?_;refine jQ ?_)
     repeat' (refine jR ?_)
     have hgl:=hgq.trans hle
     cases ok1 with
     | false =>
      have hno2 : aO (rd (ag vs) n) x.2 t = none:=by rw [hfs,hno rfl];rfl
      (refine ai (an (id:=8) _ (fun _ h=>h) ah ?_);refine jT 22 [0,1,2] (aa 25 7) ?_;(try (refine Nx.re (d:=92) (v':=Bo true) F (congrArg Value.bool F) ?_));refine jT 20 [3,5] (aa 25 47) ?_;(refine jN (aa 25 111) 6 F ?_);(refine jN (aa 25 239) 7 F ?_);(refine jN (aa 25 255) 4 F ?_);(refine jN (aa 25 511) 8 F ?_);refine jT 15 [9] (aa 25 1023) ?_;(refine jG (aa 25 2047) 10 F (aT F F F) ?_);refine jT 13 [11] (aa 25 4095) ?_;(try (refine Nx.re (d:=101) (v':=Bo true) F (congrArg Value.bool F) ?_));refine jT 11 [12,13] (aa 25 16383) ?_;(refine jG (aa 25 32767) 14 F (aT F F F) ?_);refine jT 9 [15] (aa 25 65535) ?_;(try (refine Nx.re (d:=105) (v':=Bo true) F (congrArg Value.bool F) ?_));refine jT 5 [16,17,18,19] (aa 25 1048575) ?_;(try (fail));refine jT 2 [20,21,22] (aa 25 8388607) ?_;(refine jN (aa 25 16777215) 23 F ?_);(refine jG (aa 25 33554431) 24 F (aT F F F) ?_);refine jQ ?_)
      repeat' (first | refine jR ?_ | refine ac F F ?_)
      all_goals refine jZ (vs:=[_,_,_]) F ⟨F,F,F,trivial⟩ F ⟨hgl,F,?_⟩
      all_goals exact hnone (dE hno2) F
     | true =>
      obtain ⟨w,wb,rfl,hf,hrep⟩:=hyes rfl
      have hsh:=gv hf
      have htt:=iG _ _ _ _ hf
      dsimp only at htt hsh
      have hob:=nf hw hrep
      unfold hC at hob
      have cx_out:=lY hw hrep oM
      have cx_sta:=rf (f:=d) (h.mono hgl) hw hdk
      have hfd : aO (rd (ag vs) n) x.2 t = some ((d,w),r1):=by rw [hfs,hf];rfl
      have hst:=jf (ts:=ag vs) (vs:=lJ fs) (last:=gM fs) hfd hm0
      by_cases heq : w.out = cL (ag vs) d
      ·rw [if_pos (.inr heq)] at hst
       (refine ai (an (id:=8) _ (fun _ h=>h) ah ?_);refine jT 22 [0,1,2] (aa 25 7) ?_;(try (refine Nx.re (d:=92) (v':=Bo false) F (congrArg Value.bool F) ?_));refine jT 20 [3,5] (aa 25 47) ?_;(refine jG (aa 25 111) 6 F (aq F F F) ?_);(refine jG (aa 25 239) 7 F (bq F F F F) ?_);(refine jA 4 F ?_;(refine ab F F F cx_out F ?_);refine jS (aa 25 255) ?_);(refine jA 8 F ?_;(refine ab F F F cx_sta F ?_);refine jS (aa 25 511) ?_);refine jT 15 [9] (aa 25 1023) ?_;(refine jG (aa 25 2047) 10 F (aH F F F) ?_);refine jT 13 [11] (aa 25 4095) ?_;(try (refine Nx.re (d:=101) (v':=Bo true) F (congrArg Value.bool (ay ‹_›)) ?_));refine jT 11 [12,13] (aa 25 16383) ?_;(refine jG (aa 25 32767) 14 F (aT F F F) ?_);refine jT 9 [15] (aa 25 65535) ?_;(try (refine Nx.re (d:=105) (v':=Bo true) F (congrArg Value.bool F) ?_));refine jT 5 [16,17,18,19] (aa 25 1048575) ?_;(try (fail));refine jT 2 [20,21,22] (aa 25 8388607) ?_;(refine jN (aa 25 16777215) 23 F ?_);(refine jG (aa 25 33554431) 24 F (aT F F F) ?_);refine jQ ?_)
       repeat' (first | refine jR ?_ | refine ac F F ?_)
       all_goals refine jZ (vs:=[_,_,_]) F ⟨F,F,F,trivial⟩ F ⟨hgl,F,?_⟩
       all_goals exact hnone hst F
      rw [if_neg (fun h=>by rcases h with h | h;exact hlt h;exact heq h)] at hst
      cases r1 with
      | nil =>
       (refine ai (an (id:=8) _ (fun _ h=>h) ah ?_);refine jT 22 [0,1,2] (aa 25 7) ?_;(try (refine Nx.re (d:=92) (v':=Bo false) F (congrArg Value.bool F) ?_));refine jT 20 [3,5] (aa 25 47) ?_;(refine jG (aa 25 111) 6 F (aq F F F) ?_);(refine jG (aa 25 239) 7 F (bq F F F F) ?_);(refine jA 4 F ?_;(refine ab F F F cx_out F ?_);refine jS (aa 25 255) ?_);(refine jA 8 F ?_;(refine ab F F F cx_sta F ?_);refine jS (aa 25 511) ?_);refine jT 15 [9] (aa 25 1023) ?_;(refine jG (aa 25 2047) 10 F (aH F F F) ?_);refine jT 13 [11] (aa 25 4095) ?_;(try (refine Nx.re (d:=101) (v':=Bo false) F (congrArg Value.bool (aC ‹_›)) ?_));refine jT 11 [12,13] (aa 25 16383) ?_;(refine jG (aa 25 32767) 14 F (aH F F F) ?_);refine jT 9 [15] (aa 25 65535) ?_;(try (refine Nx.re (d:=105) (v':=Bo true) F (congrArg Value.bool F) ?_));refine jT 5 [16,17,18,19] (aa 25 1048575) ?_;(try (fail));refine jT 2 [20,21,22] (aa 25 8388607) ?_;(refine jN (aa 25 16777215) 23 F ?_);(refine jG (aa 25 33554431) 24 F (aT F F F) ?_);refine jQ ?_)
       repeat' (first | refine jR ?_ | refine ac F F ?_)
       all_goals refine jZ (vs:=[_,_,_]) F ⟨F,F,F,trivial⟩ F ⟨hgl,F,?_⟩
       all_goals exact hnone hst F
      | cons e2 r3 =>
       have he20 : bt (e2 :: r3) (Int.toNat 0) = e2.toNat:=be e2 r3
       have hel2 : (e2 :: r3).length = r3.length + 1:=rfl
       have hl' : (fs ++ [(d,w)]).length = fs.length + 1:=by simp
       have hbl' : (bs ++ [wb]).length = (fs ++ [(d,w)]).length:=by simp [hbl]
       have hnth : ∀ i,i < (fs ++ [(d,w)]).length → (i < fs.length ∧ ae (fs ++ [(d,w)]) i = ae fs i ∧ ae (bs ++ [wb]) i = ae bs i) ∨ (ae (fs ++ [(d,w)]) i = (d,w) ∧ ae (bs ++ [wb]) i = wb):=fun i hi=>by
        by_cases h1 : i < fs.length
        ·exact .inl ⟨h1,by rw [a6 hi,a6 h1,List.getElem_append_left h1],by rw [a6 oM,a6 oM,List.getElem_append_left oM]⟩
        ·have h2 : i = fs.length:=oM
         exact .inr ⟨by rw [a6 hi];simp [h2],by rw [a6 oM];simp [h2,hbl]⟩
       have hfm' : ∀ i,i < (fs ++ [(d,w)]).length → (ae (fs ++ [(d,w)]) i).1 ∈ x.2.fields:=fun i hi=>by
        rcases hnth i hi with ⟨h1,h2,_⟩ | ⟨h2,_⟩
        ·rw [h2];exact hfm i h1
        ·rw [h2];exact hdm
       have hreps' : ∀ i,i < (fs ++ [(d,w)]).length → RepR G (ag vs) (ae (fs ++ [(d,w)]) i).2 (ae (fs ++ [(d,w)]) i).1.kind (ae (bs ++ [wb]) i):=fun i hi=>by
        rcases hnth i hi with ⟨h1,h2,h3⟩ | ⟨h2,h3⟩
        ·rw [h2,h3];exact (hreps i h1).mono hle
        ·rw [h2,h3];exact hrep
       have hrow1 : aA hY (fs.map fun p=>p.1.tag) ++ [I d.tag] = aA hY ((fs ++ [(d,w)]).map fun p=>p.1.tag):=by rw [List.map_append];exact (cy hY _ d.tag).symm
       have hrow2 : aA fY bs ++ [Pt wb 0] = aA fY (bs ++ [wb]):=(cy fY bs wb).symm
       have hnd : lJ (fs ++ [(d,w)]) = lJ fs ++ [.nd 61 [] d.tag [w]]:=by simp [lJ]
       dsimp only at hst
       by_cases h44 : e2.toNat = 44
       ·rw [if_pos h44] at hst
        have hn93 : ¬ e2.toNat = 125:=oM
        (refine ai (an (id:=8) _ (fun _ h=>h) ah ?_);refine jT 22 [0,1,2] (aa 25 7) ?_;(try (refine Nx.re (d:=92) (v':=Bo false) F (congrArg Value.bool F) ?_));refine jT 20 [3,5] (aa 25 47) ?_;(refine jG (aa 25 111) 6 F (aq F F F) ?_);(refine jG (aa 25 239) 7 F (bq F F F F) ?_);(refine jA 4 F ?_;(refine ab F F F cx_out F ?_);refine jS (aa 25 255) ?_);(refine jA 8 F ?_;(refine ab F F F cx_sta F ?_);refine jS (aa 25 511) ?_);refine jT 15 [9] (aa 25 1023) ?_;(refine jG (aa 25 2047) 10 F (aH F F F) ?_);refine jT 13 [11] (aa 25 4095) ?_;(try (refine Nx.re (d:=101) (v':=Bo false) F (congrArg Value.bool (aC ‹_›)) ?_));refine jT 11 [12,13] (aa 25 16383) ?_;(refine jG (aa 25 32767) 14 F (aH F F F) ?_);refine jT 9 [15] (aa 25 65535) ?_;(try (refine Nx.re (d:=105) (v':=Bo false) F (congrArg Value.bool F) ?_));refine jW 5 [16,17,18,19] (aa 25 1048575) ?_;(try ((refine Nx.re (d:=109) (v':=Bo false) F (congrArg Value.bool (aC oM)) ?_)));refine jT 2 [20,21,22] (aa 25 8388607) ?_;(refine jG (aa 25 16777215) 23 F (aH F F F) ?_);(refine jG (aa 25 33554431) 24 F (aH F F F) ?_);refine jQ ?_)
        repeat' (first | refine jR ?_ | refine ad F F ?_)
        (refine ai (an (id:=10) [.blk x14 (.cells (List.toArray [I d.tag,S d.name,S d.kind,S d.stand]) tFd (0,0))] (by intro y hy;simp only [List.mem_cons,List.not_mem_nil,or_false] at hy ⊢;simp [hy]) ah ?_);refine jW 7 [0,1,2,3,5] (aa 12 47) ?_;(refine jG (aa 12 111) 6 F (aq F F F) ?_);refine dy [4,7] kR dC ⟨?_,?_,trivial⟩;(focus (refine bY F F ?_;(refine aj F ?_);refine jK (aa 12 127) ?_;refine jA 7 F ?_;(refine jF fun _=>?_);refine jK (aa 12 255) ?_;refine jA 8 F ?_;((refine cQ F F F F F F F F F ?_ fun _ _=>?_;focus omega));refine jK (aa 12 511) ?_;refine jW 1 [9,10] (aa 12 2047) ?_;refine jA 11 F ?_;(refine jD F F F ?_);refine jK (aa 12 4095) ?_;refine jQ ?_));rotate_left 1;(focus (refine bY F F ?_;(refine jF fun _=>?_);refine jK (aa 12 239) ?_;refine jA 4 F ?_;(refine aj F ?_);refine jK (aa 12 255) ?_;refine jA 8 F ?_;((refine cQ F F F F F F F F F ?_ fun _ _=>?_;focus omega));refine jK (aa 12 511) ?_;refine jW 1 [9,10] (aa 12 2047) ?_;refine jA 11 F ?_;(refine jD F F F ?_);refine jK (aa 12 4095) ?_;refine jQ ?_));rotate_left 1)
        all_goals repeat' (first | refine jM ?_ | (refine jo ?_;first | refine aj F ?_ | refine jD F F F ?_ | refine jF fun _=>?_ | refine cQ F F F F F F F F F oM fun _ _=>?_) | refine ad F (aC oM) ?_)
        all_goals
         rename_i _ y1 yc1 _ y2 yc2
         rw [hrow1,hrow2]
         exact aW (fs ++ [(d,w)],bs ++ [wb],some ⟨y1,0,none⟩,yc1,some ⟨y2,0,none⟩,yc2,r3,m - 1,G) ⟨⟨⟨hbl',hfm',hreps'⟩,hgl⟩,⟨(by dsimp only;rw [hit,hst,tA,hnd]),(by dsimp only;omega)⟩,(by dsimp only;omega),(by dsimp only;omega)⟩ (by dsimp only;omega) tU rfl (by rw [hl'];repeat (first | exact List.Sublist.refl _ | apply List.Sublist.cons_cons | apply List.Sublist.cons))
       ·rw [if_neg h44] at hst
        by_cases h125' : e2.toNat = 125
        ·rw [if_pos h125'] at hst
         (refine ai (an (id:=8) _ (fun _ h=>h) ah ?_);refine jT 22 [0,1,2] (aa 25 7) ?_;(try (refine Nx.re (d:=92) (v':=Bo false) F (congrArg Value.bool F) ?_));refine jT 20 [3,5] (aa 25 47) ?_;(refine jG (aa 25 111) 6 F (aq F F F) ?_);(refine jG (aa 25 239) 7 F (bq F F F F) ?_);(refine jA 4 F ?_;(refine ab F F F cx_out F ?_);refine jS (aa 25 255) ?_);(refine jA 8 F ?_;(refine ab F F F cx_sta F ?_);refine jS (aa 25 511) ?_);refine jT 15 [9] (aa 25 1023) ?_;(refine jG (aa 25 2047) 10 F (aH F F F) ?_);refine jT 13 [11] (aa 25 4095) ?_;(try (refine Nx.re (d:=101) (v':=Bo false) F (congrArg Value.bool (aC ‹_›)) ?_));refine jT 11 [12,13] (aa 25 16383) ?_;(refine jG (aa 25 32767) 14 F (aH F F F) ?_);refine jT 9 [15] (aa 25 65535) ?_;(try (refine Nx.re (d:=105) (v':=Bo false) F (congrArg Value.bool F) ?_));refine jW 5 [16,17,18,19] (aa 25 1048575) ?_;(try ((refine Nx.re (d:=109) (v':=Bo true) F (congrArg Value.bool (ay oM)) ?_)));refine jW 2 [20,21,22] (aa 25 8388607) ?_;(refine jG (aa 25 16777215) 23 F (aT F F F) ?_);(refine jG (aa 25 33554431) 24 F (aH F F F) ?_);refine jQ ?_)
         repeat' (first | refine jR ?_ | refine ad F (aC oM) ?_)
         (refine ai (an (id:=10) [.blk x14 (.cells (List.toArray [I d.tag,S d.name,S d.kind,S d.stand]) tFd (0,0))] (by intro y hy;simp only [List.mem_cons,List.not_mem_nil,or_false] at hy ⊢;simp [hy]) ah ?_);refine jW 7 [0,1,2,3,5] (aa 12 47) ?_;(refine jG (aa 12 111) 6 F (aq F F F) ?_);refine dy [4,7] kR dC ⟨?_,?_,trivial⟩;(focus (refine bY F F ?_;(refine aj F ?_);refine jK (aa 12 127) ?_;refine jA 7 F ?_;(refine jF fun _=>?_);refine jK (aa 12 255) ?_;refine jA 8 F ?_;((refine cQ F F F F F F F F F ?_ fun _ _=>?_;focus omega));refine jK (aa 12 511) ?_;refine jW 1 [9,10] (aa 12 2047) ?_;refine jA 11 F ?_;(refine jD F F F ?_);refine jK (aa 12 4095) ?_;refine jQ ?_));rotate_left 1;(focus (refine bY F F ?_;(refine jF fun _=>?_);refine jK (aa 12 239) ?_;refine jA 4 F ?_;(refine aj F ?_);refine jK (aa 12 255) ?_;refine jA 8 F ?_;((refine cQ F F F F F F F F F ?_ fun _ _=>?_;focus omega));refine jK (aa 12 511) ?_;refine jW 1 [9,10] (aa 12 2047) ?_;refine jA 11 F ?_;(refine jD F F F ?_);refine jK (aa 12 4095) ?_;refine jQ ?_));rotate_left 1)
         all_goals repeat' (first | refine jM ?_ | (refine jo ?_;first | refine aj F ?_ | refine jD F F F ?_ | refine jF fun _=>?_ | refine cQ F F F F F F F F F oM fun _ _=>?_) | refine ac F (ay oM) ?_)
         all_goals
          rename_i _ y1 yc1 _ y2 yc2
          rw [hrow1,hrow2]
          refine Nx.sealS (v:=.slice (some ⟨y1,0,none⟩) (fs.length + 1) yc1) fun G2 hG2 hs1=>?_
          refine Nx.sealS (v:=.slice (some ⟨y2,0,none⟩) (fs.length + 1) yc2) fun G3 hG3 hs2=>?_
          refine Nx.sealC (b:=x13) fun G4 hG4 hsg=>?_
          refine jZ (vs:=[_,_,_]) F ⟨F,F,F,trivial⟩ F ⟨(((hgl.trans hG2).trans hG3).trans hG4),F,?_⟩
          rw [aB]
          exact ⟨_,_,_,F,fun _=>⟨.nd 82 [] 0 (lJ (fs ++ [(d,w)])),x13,F,(by rw [hRl,hit,hst,hnd];rfl),.recd k x13 x.2 (fs ++ [(d,w)]) (bs ++ [wb]) (some ⟨y1,0,none⟩) (some ⟨y2,0,none⟩) yc1 yc2 ⟨hrf,hso⟩ (by rw [hl'];exact hsg) (by rw [hl'];exact (hs1.mono hG3).mono hG4) (by rw [hl'];exact hs2.mono hG4) hbl' hfm' (fun i hi=>(hreps' i hi).mono ((hG2.trans hG3).trans hG4))⟩,fun h=>(by cases h)⟩
        ·rw [if_neg h125'] at hst
         (refine ai (an (id:=8) _ (fun _ h=>h) ah ?_);refine jT 22 [0,1,2] (aa 25 7) ?_;(try (refine Nx.re (d:=92) (v':=Bo false) F (congrArg Value.bool F) ?_));refine jT 20 [3,5] (aa 25 47) ?_;(refine jG (aa 25 111) 6 F (aq F F F) ?_);(refine jG (aa 25 239) 7 F (bq F F F F) ?_);(refine jA 4 F ?_;(refine ab F F F cx_out F ?_);refine jS (aa 25 255) ?_);(refine jA 8 F ?_;(refine ab F F F cx_sta F ?_);refine jS (aa 25 511) ?_);refine jT 15 [9] (aa 25 1023) ?_;(refine jG (aa 25 2047) 10 F (aH F F F) ?_);refine jT 13 [11] (aa 25 4095) ?_;(try (refine Nx.re (d:=101) (v':=Bo false) F (congrArg Value.bool (aC ‹_›)) ?_));refine jT 11 [12,13] (aa 25 16383) ?_;(refine jG (aa 25 32767) 14 F (aH F F F) ?_);refine jT 9 [15] (aa 25 65535) ?_;(try (refine Nx.re (d:=105) (v':=Bo false) F (congrArg Value.bool F) ?_));refine jW 5 [16,17,18,19] (aa 25 1048575) ?_;(try ((refine Nx.re (d:=109) (v':=Bo true) F (congrArg Value.bool (ay oM)) ?_)));refine jW 2 [20,21,22] (aa 25 8388607) ?_;(refine jG (aa 25 16777215) 23 F (aT F F F) ?_);(refine jG (aa 25 33554431) 24 F (aH F F F) ?_);refine jQ ?_)
         repeat' (first | refine jR ?_ | refine ac F (ay oM) ?_)
         all_goals refine jZ (vs:=[_,_,_]) F ⟨F,F,F,trivial⟩ F ⟨hgl,F,?_⟩
         all_goals exact hnone hst F
theorem te {ts : List Ty} {f : abL → abL → Option (V × abL)} {t : Ty} {e : UInt8} {s : abL} (h : t.sort = 82 ∧ ¬ e.toNat = 123 ∨ t.sort = 69 ∧ ¬ e.toNat = 35 ∨ t.sort = 85 ∧ ¬ e.toNat = 60) : aY ts f t (e :: s) = none:=by
 unfold aY
 dsimp only
 rcases h with ⟨h1,h2⟩ | ⟨h1,h2⟩ | ⟨h1,h2⟩
 ·rw [if_pos h1,if_neg h2]
 ·rw [if_neg oM,if_pos h1,if_neg h2]
 ·rw [if_neg oM,if_neg oM,if_neg h2]
theorem zw {n : Nat} {u : Value} {vs : List b8} {x : b8} {k s : abL} {e : UInt8} (hu : u.oneCell' = true) (cx_rf : am abK 113 [u,S k] G (· = Tu [Ag [U8 x.2.sort,S x.2.name,gP x],Bo true])) (hso : x.2.sort = 82 ∧ ¬ e.toNat = 123 ∨ x.2.sort = 69 ∧ ¬ e.toNat = 35 ∨ x.2.sort = 85 ∧ ¬ e.toNat = 60) (hs : s.length ≤ 2000000) (hn : n ≤ 1000) :
  bA abK 111 [Ag [u],S (e :: s),S k,I (n + 1 : Nat)] G (cg (ag vs) (aY (ag vs) (rd (ag vs) n) x.2 (e :: s)) k):=by
 have hno:=te (ts:=ag vs) (f:=rd (ag vs) n) (s:=s) hso
 have he0 : bt (e :: s) (Int.toNat 0) = e.toNat:=be e s
 have hel : (e :: s).length = s.length + 1:=rfl
 rcases hso with ⟨h1,h2⟩ | ⟨h1,h2⟩ | ⟨h1,h2⟩
 all_goals
  have h1' : (x.2.sort : Int) = 82 ∨ (x.2.sort : Int) = 69 ∨ (x.2.sort : Int) = 85:=oM
  refine jB [(0,_),(1,_),(2,_),(3,_)] Tryz.func111 Tryz.ntmps111 fun B hok hB hW=>?_
  repeat' (first | refine jM ?_ | (refine jo ?_;first | refine jO fun _=>?_ | refine aj F ?_ | refine jL fun _=>?_ | refine jC F F F ?_ | refine aL F ?_ | refine av F ?_ | refine ab F F F cx_rf F ?_) | refine aD F F (ay oM) ?_ | refine al F F (aC oM) ?_ | (refine ad F (by first | rfl | (refine decide_eq_false ?_;(omega))) ?_))
  all_goals refine jZ (vs:=[_,_,_]) F ⟨F,F,F,trivial⟩ F ⟨Gh.le.refl _,F,?_⟩
  all_goals (rw [aB];exact ⟨_,_,_,F,fun h=>(by cases h),fun _=>hno⟩)
theorem zy {n : Nat} {u : Value} {vs : List b8} {x : b8} {k s : abL} (hR : ju n u vs) (h : SchR G u vs) (hw : SchW (ag vs)) (hx : x ∈ vs) (hrf : aV (ag vs) k = some x.2) (cx_rf : am abK 113 [u,S k] G (· = Tu [Ag [U8 x.2.sort,S x.2.name,gP x],Bo true])) (hso : x.2.sort = 82) (hs : s.length ≤ 1999999) (hn : n ≤ 1000) (hkl : k.length ≤ 1000) :
  bA abK 111 [Ag [u],S (123 :: s),S k,I (n + 1 : Nat)] G (cg (ag vs) (aY (ag vs) (rd (ag vs) n) x.2 (123 :: s)) k):=by
 have cx_rc:=va (s:=s) hR h hw hx hrf hso oM hn hkl
 have he0 : bt (123 :: s) (Int.toNat 0) = 123:=be 123 s
 have hel : (123 :: s).length = s.length + 1:=rfl
 have h1' : (x.2.sort : Int) = 82:=oM
 refine jB [(0,_),(1,_),(2,_),(3,_)] Tryz.func111 Tryz.ntmps111 fun B hok hB hW=>?_
 repeat' (first | refine jM ?_ | (refine jo ?_;first | refine jO fun _=>?_ | refine aj F ?_ | refine jL fun _=>?_ | refine jC F F F ?_ | refine aL F ?_ | refine ab F F F cx_rf F ?_) | refine aD F F (ay ‹_›) ?_ | refine ac F F ?_ | (refine ai (an (id:=3) _ (fun _ h=>h) ah ?_);refine jW 9 [1,2,3,5] (aa 13 46) ?_;(refine jG (aa 13 47) 0 F (bq F F F F) ?_);(refine jG (aa 13 63) 4 F (bq F F F F) ?_);refine jA 6 F ?_;(refine aJ F F F cx_rc F ?_;rintro _ G hle ⟨q1,r1,ok1,rfl,hyes,hno⟩;skip);refine jS (aa 13 127) ?_;refine jT 0 [7,8,9,10,11,12] (aa 13 8191) ?_;refine jQ ?_))
 refine jZ (vs:=[_,_,_]) F ⟨F,F,F,trivial⟩ F ⟨hle,F,?_⟩
 rw [aB]
 exact ⟨_,_,_,F,hyes,hno⟩
theorem zz {n : Nat} {u : Value} {vs : List b8} {x : b8} {k s : abL} (h : SchR G u vs) (hw : SchW (ag vs)) (hx : x ∈ vs) (hrf : aV (ag vs) k = some x.2) (cx_rf : am abK 113 [u,S k] G (· = Tu [Ag [U8 x.2.sort,S x.2.name,gP x],Bo true])) (hso : x.2.sort = 69) (hs : s.length ≤ 1999999) (hn : n ≤ 1000) :
  bA abK 111 [Ag [u],S (35 :: s),S k,I (n + 1 : Nat)] G (cg (ag vs) (aY (ag vs) (rd (ag vs) n) x.2 (35 :: s)) k):=by
 have hxt : x.2 ∈ ag vs:=List.mem_map_of_mem hx
 have hTW:=hw.ty _ hxt
 have hfl:=hTW.len
 have cx_tg:=qe (G:=G) (u:=u) (x:=x) (s:=s) oM h.sl.one (h.fl x hx) oM
 have he0 : bt (35 :: s) (Int.toNat 0) = 35:=be 35 s
 have hel : (35 :: s).length = s.length + 1:=rfl
 have h1' : (x.2.sort : Int) = 69:=oM
 have hRT : aY (ag vs) (rd (ag vs) n) x.2 (35 :: s) = match b9 200 s with
   | none=>none
   | some (n,r)=>if (bJ x.2.fields n).isSome = true then some (.nd 69 [] n [],r) else none:=by
  unfold aY
  dsimp only
  rw [if_neg oM,if_pos hso,if_pos (show (35 : UInt8).toNat = 35 from rfl)]
  cases b9 200 s <;> rfl
 unfold b9 at hRT
 simp only [iA] at cx_tg
 refine jB [(0,_),(1,_),(2,_),(3,_)] Tryz.func111 Tryz.ntmps111 fun B hok hB hW=>?_
 repeat' (first | refine jM ?_ | (refine jo ?_;first | refine jO fun _=>?_ | refine aj F ?_ | refine jL fun _=>?_ | refine jC F F F ?_ | refine aL F ?_ | refine av F ?_ | refine jF fun _=>?_ | refine jV (ao F F) ?_ | refine ab F F F cx_rf F ?_) | refine aD F F (ay ‹_›) ?_ | refine al F F (aC oM) ?_ | refine ac F F ?_ | refine ad F F ?_ | (refine ai (an (id:=5) _ (fun _ h=>h) ah ?_);refine jW 11 [1,2] (aa 13 6) ?_;(refine jG (aa 13 7) 0 F (bq F F F F) ?_);(refine jG (aa 13 15) 3 F (bq F F F F) ?_);refine dy [4,9] kR dC ⟨?_,?_,trivial⟩;(focus (refine bY F F ?_;(refine cn F F F cx_tg F ?_;rintro _ ⟨nt,rfl,hnt⟩);refine jK (aa 13 31) ?_;refine jW 4 [5,6,7,8] (aa 13 511) ?_;refine jA 9 F ?_;(refine jL fun _=>?_);refine jK (aa 13 1023) ?_;refine jA 10 F ?_;(refine jC F F F ?_);refine jK (aa 13 2047) ?_;refine jW 0 [11,12] (aa 13 8191) ?_;refine jQ ?_));rotate_left 1;(focus (refine bY F F ?_;(refine jL fun _=>?_);refine jK (aa 13 527) ?_;refine jA 4 F ?_;(refine cn F F F cx_tg F ?_;rintro _ ⟨nt,rfl,hnt⟩);refine jK (aa 13 543) ?_;refine jW 3 [5,6,7,8] (aa 13 1023) ?_;refine jA 10 F ?_;(refine jC F F F ?_);refine jK (aa 13 2047) ?_;refine jW 0 [11,12] (aa 13 8191) ?_;refine jQ ?_));rotate_left 1))
 all_goals
  rename_i y y8
  refine Nx.sealC (b:=y) fun G2 hG2 hsy=>?_
  refine Nx.sealC (b:=y8) fun G3 hG3 hsg=>?_
  refine jZ (vs:=[_,_,_]) F ⟨F,F,F,trivial⟩ F ⟨(hG2.trans hG3),F,?_⟩
  rw [aB]
  refine ⟨_,_,_,F,fun hb=>?_,fun hb=>?_⟩
  ·simp only [Bool.and_eq_true] at hb
   obtain ⟨hb1,hb2⟩:=hb
   obtain ⟨m0,hm⟩:=Option.isSome_iff_exists.1 hb1
   obtain ⟨d,hd⟩:=Option.isSome_iff_exists.1 hb2
   have hnm:=hnt m0 hm
   subst hnm
   rw [hd] at hsy
   simp only [Option.getD_some] at hsy
   have hdm : d ∈ x.2.fields:=List.mem_of_find?_eq_some hd
   have hdt : d.tag = nt:=by have:=List.find?_some hd;simpa using this
   exact ⟨.nd 69 [] d.tag [],y8,F,by rw [hRT,hm];dsimp only [Option.map_some];rw [hd,hdt];rfl,.enm k y8 y x.2 d ⟨hrf,hso⟩ hdm hsg (hsy.mono hG3)⟩
  ·rw [hRT]
   cases hm : aM (s.takeWhile aU) 200 with
   | none=>rfl
   | some m0 =>
    have hnm:=hnt m0 hm
    subst hnm
    rw [hm] at hb
    dsimp only [Option.map_some]
    rw [if_neg]
    intro h2
    rw [h2] at hb;cases hb
theorem zx {n : Nat} {u : Value} {vs : List b8} {x : b8} {k s : abL} (hR : ju n u vs) (h : SchR G u vs) (hw : SchW (ag vs)) (hx : x ∈ vs) (hrf : aV (ag vs) k = some x.2) (cx_rf : am abK 113 [u,S k] G (· = Tu [Ag [U8 x.2.sort,S x.2.name,gP x],Bo true])) (hso : x.2.sort = 85) (hs : s.length ≤ 1999999) (hn : n ≤ 1000) :
  bA abK 111 [Ag [u],S (60 :: s),S k,I (n + 1 : Nat)] G (cg (ag vs) (aY (ag vs) (rd (ag vs) n) x.2 (60 :: s)) k):=by
 have edn : ((n + 1 : Nat) : Int) - 1 = (n : Nat):=oM
 have hxt : x.2 ∈ ag vs:=List.mem_map_of_mem hx
 have hTW:=hw.ty _ hxt
 have hfl:=hTW.len
 have cx_tg:=qe (G:=G) (u:=u) (x:=x) (s:=s) oM h.sl.one (h.fl x hx) oM
 have he0 : bt (60 :: s) (Int.toNat 0) = 60:=be 60 s
 have hel : (60 :: s).length = s.length + 1:=rfl
 have h1' : (x.2.sort : Int) = 85:=oM
 have hRT : aY (ag vs) (rd (ag vs) n) x.2 (60 :: s) = match aO (rd (ag vs) n) x.2 s with
   | none=>none
   | some ((d,v),r)=>match r with
    | []=>none
    | c' :: r'=>if c'.toNat = 62 then some (.nd 85 [] d.tag [v],r') else none:=by
  unfold aY
  dsimp only
  rw [if_neg oM,if_neg oM,if_pos (show (60 : UInt8).toNat = 60 from rfl)]
  cases aO (rd (ag vs) n) x.2 s <;> rfl
 simp only [iA] at cx_tg
 refine jB [(0,_),(1,_),(2,_),(3,_)] Tryz.func111 Tryz.ntmps111 fun B hok hB hW=>?_
 repeat' (first | refine jM ?_ | (refine jo ?_;first | refine jO fun _=>?_ | refine aj F ?_ | refine jL fun _=>?_ | refine jC F F F ?_ | refine aL F ?_ | refine av F ?_ | refine ab F F F cx_rf F ?_) | refine aD F F (ay ‹_›) ?_ | refine al F F (aC oM) ?_ | refine ac F F ?_ | refine ad F F ?_)
 (refine ai (an (id:=8) _ (fun _ h=>h) ah ?_);refine jW 11 [1,2] (aa 13 6) ?_;(refine jG (aa 13 7) 0 F (bq F F F F) ?_);(refine jG (aa 13 15) 3 F (bq F F F F) ?_);refine dy [4,9] kR dC ⟨?_,?_,trivial⟩;(focus (refine bY F F ?_;(refine cn F F F cx_tg F ?_;rintro _ ⟨nt,rfl,hnt⟩);refine jK (aa 13 31) ?_;refine jW 4 [5,6,7,8] (aa 13 511) ?_;refine jA 9 F ?_;(refine jL fun _=>?_);refine jK (aa 13 1023) ?_;refine jA 10 F ?_;(refine jC F F F ?_);refine jK (aa 13 2047) ?_;refine jW 0 [11,12] (aa 13 8191) ?_;refine jQ ?_));rotate_left 1;(focus (refine bY F F ?_;(refine jL fun _=>?_);refine jK (aa 13 527) ?_;refine jA 4 F ?_;(refine cn F F F cx_tg F ?_;rintro _ ⟨nt,rfl,hnt⟩);refine jK (aa 13 543) ?_;refine jW 3 [5,6,7,8] (aa 13 1023) ?_;refine jA 10 F ?_;(refine jC F F F ?_);refine jK (aa 13 2047) ?_;refine jW 0 [11,12] (aa 13 8191) ?_;refine jQ ?_));rotate_left 1)
 all_goals
  have hnone : ∀ {v : Value} {G' : Gh} {r : abL},aO (rd (ag vs) n) x.2 s = none → v = Tu [.pointer none,S r,Bo false] → cg (ag vs) (aY (ag vs) (rd (ag vs) n) x.2 (60 :: s)) k v G':=fun h1 h2=>⟨_,_,_,h2,fun h=>(by cases h),fun _=>by rw [hRT,h1]⟩
  cases hb16 : (aM (s.takeWhile aU) 200).isSome && (bJ x.2.fields nt).isSome with
  | false =>
   have hno : aO (rd (ag vs) n) x.2 s = none:=by
    cases hm : aM (s.takeWhile aU) 200 with
    | none=>exact eI (.inl hm)
    | some m0 =>
     refine eI (.inr ⟨m0,hm,?_⟩)
     rw [hm] at hb16
     rw [← hnt m0 hm]
     cases hf : bJ x.2.fields nt with
     | none=>rfl
     | some d=>rw [hf] at hb16;cases hb16
   repeat' (first | refine jR ?_ | (refine jo ?_;refine aL F ?_) | refine aD F F F ?_ | refine ac F F ?_)
   all_goals refine jZ (vs:=[_,_,_]) F ⟨F,F,F,trivial⟩ F ⟨Gh.le.refl _,F,?_⟩
   all_goals exact hnone hno F
  | true =>
   simp only [Bool.and_eq_true] at hb16
   obtain ⟨hb1,hb2⟩:=hb16
   obtain ⟨m0,hm⟩:=Option.isSome_iff_exists.1 hb1
   obtain ⟨d,hd⟩:=Option.isSome_iff_exists.1 hb2
   have hnm:=hnt m0 hm
   subst hnm
   rw [hd]
   simp only [Option.getD_some]
   have hdm : d ∈ x.2.fields:=List.mem_of_find?_eq_some hd
   have hwl:=dA aU s
   cases hdw : s.dropWhile aU with
   | nil =>
    have hno : aO (rd (ag vs) n) x.2 s = none:=gk hm (fun s2 h=>by rw [hdw] at h;cases h)
    repeat' (first | refine jR ?_ | (refine jo ?_;first | refine aL F ?_ | refine av F ?_) | refine aD F F F ?_ | refine al F F F ?_ | refine ac F F ?_)
    all_goals refine jZ (vs:=[_,_,_]) F ⟨F,F,F,trivial⟩ F ⟨Gh.le.refl _,F,?_⟩
    all_goals exact hnone hno F
   | cons e r2 =>
    have he20 : bt (e :: r2) (Int.toNat 0) = e.toNat:=be e r2
    have hel2 : (e :: r2).length = r2.length + 1:=rfl
    by_cases h61 : e.toNat = 61
    case neg =>
     have hno : aO (rd (ag vs) n) x.2 s = none:=gk hm (fun s2 h=>by rw [hdw] at h;simp only [List.cons.injEq] at h;exact h61 (by rw [h.1];rfl))
     repeat' (first | refine jM ?_ | (refine jo ?_;refine av F ?_) | refine al F F F ?_ | refine ac F (ay oM) ?_)
     all_goals refine jZ (vs:=[_,_,_]) F ⟨F,F,F,trivial⟩ F ⟨Gh.le.refl _,F,?_⟩
     all_goals exact hnone hno F
    have he61 : e = 61:=UInt8.toNat_inj.1 h61
    have hfs:=kQ (f:=rd (ag vs) n) (t:=x.2) (s:=s) hm hd (by rw [hdw,he61])
    have hdk : aP (ag vs) d.kind = true:=eS hw hxt oM hdm
    rw [hdw,List.length_cons] at hwl
    have cx_rd:=hR G d.kind r2 h hdk oM
    rw [← edn] at cx_rd
    repeat' (first | refine jM ?_ | (refine jo ?_;refine av F ?_) | refine al F F F ?_ | refine ad F (aC oM) ?_)
    (refine ai (an (id:=11) _ (fun _ h=>h) ah ?_);refine jW 10 [1,2,3,5,6] (aa 15 110) ?_;(refine jG (aa 15 111) 0 F (bq F F F F) ?_);(refine jG (aa 15 127) 4 F (aq F F F) ?_);refine jA 7 F ?_;(refine aJ F F F cx_rd F ?_;rintro _ G hle ⟨q1,r1,ok1,rfl,hyes,hno⟩;skip);refine jS (aa 15 255) ?_;refine jT 0 [8,9,10,11,12,13,14] (aa 15 32767) ?_;refine jQ ?_)
    cases ok1 with
    | false =>
     have hno2 : aO (rd (ag vs) n) x.2 s = none:=by rw [hfs,hno rfl];rfl
     repeat' (first | refine jR ?_ | (refine jo ?_;refine aL F ?_) | refine aD F F F ?_ | refine ac F F ?_)
     all_goals refine jZ (vs:=[_,_,_]) F ⟨F,F,F,trivial⟩ F ⟨hle,F,?_⟩
     all_goals exact hnone hno2 F
    | true =>
     obtain ⟨w,wb,rfl,hf,hrep⟩:=hyes rfl
     have hfd : aO (rd (ag vs) n) x.2 s = some ((d,w),r1):=by rw [hfs,hf];rfl
     rw [hfd] at hRT
     dsimp only at hRT
     cases r1 with
     | nil =>
      repeat' (first | refine jR ?_ | (refine jo ?_;first | refine aL F ?_ | refine av F ?_) | refine aD F F F ?_ | refine al F F F ?_ | refine ac F F ?_)
      all_goals refine jZ (vs:=[_,_,_]) F ⟨F,F,F,trivial⟩ F ⟨hle,F,?_⟩
      all_goals (rw [aB];exact ⟨_,_,_,F,fun h=>(by cases h),fun _=>hRT⟩)
     | cons e3 r3 =>
      have he30 : bt (e3 :: r3) (Int.toNat 0) = e3.toNat:=be e3 r3
      have hel3 : (e3 :: r3).length = r3.length + 1:=rfl
      dsimp only at hRT
      by_cases h62 : e3.toNat = 62
      case neg =>
       rw [if_neg h62] at hRT
       repeat' (first | refine jM ?_ | (refine jo ?_;refine av F ?_) | refine al F F F ?_ | refine ac F (ay oM) ?_)
       all_goals refine jZ (vs:=[_,_,_]) F ⟨F,F,F,trivial⟩ F ⟨hle,F,?_⟩
       all_goals (rw [aB];exact ⟨_,_,_,F,fun h=>(by cases h),fun _=>hRT⟩)
      rw [if_pos h62] at hRT
      repeat' (first | refine jM ?_ | (refine jo ?_;refine av F ?_) | refine al F F F ?_ | refine ad F (aC oM) ?_)
      (refine ai (an (id:=14) _ (fun _ h=>h) ah ?_);refine jW 8 [0,1,4,8,9] (aa 13 787) ?_;(refine jG (aa 13 791) 2 F (aq F F F) ?_);refine dy [3,5] kR dC ⟨?_,?_,trivial⟩;(focus (refine bY F F ?_;(refine jF fun _=>?_);refine jS (aa 13 799) ?_;refine jA 5 F ?_;(refine jF fun _=>?_);refine jS (aa 13 831) ?_;(refine jG (aa 13 895) 6 F (ao F F) ?_);refine jA 7 F ?_;(refine jO fun _=>?_);refine jS (aa 13 1023) ?_;refine jW 0 [10,11,12] (aa 13 8191) ?_;refine jQ ?_));rotate_left 1;(focus (refine bY F F ?_;(refine jF fun _=>?_);refine jS (aa 13 823) ?_;refine jA 3 F ?_;(refine jF fun _=>?_);refine jS (aa 13 831) ?_;(refine jG (aa 13 895) 6 F (ao F F) ?_);refine jA 7 F ?_;(refine jO fun _=>?_);refine jS (aa 13 1023) ?_;refine jW 0 [10,11,12] (aa 13 8191) ?_;refine jQ ?_));rotate_left 1)
      all_goals repeat' (refine jR ?_)
      all_goals
       rename_i y1 y2 y8
       refine Nx.sealC (b:=y1) fun G2 hG2 hs1=>?_
       refine Nx.sealC (b:=y2) fun G3 hG3 hs2=>?_
       refine Nx.sealC (b:=y8) fun G4 hG4 hsg=>?_
       refine jZ (vs:=[_,_,_]) F ⟨F,F,F,trivial⟩ F ⟨(((hle.trans hG2).trans hG3).trans hG4),F,?_⟩
       rw [aB]
       first | exact ⟨_,_,_,F,fun _=>⟨.nd 85 [] d.tag [w],y8,F,hRT,.uni k y8 y1 y2 wb 1 x.2 d w (Nat.le_refl _) ⟨hrf,hso⟩ hdm hsg (hs1.mono (hG3.trans hG4)) (hs2.mono hG4) (hrep.mono ((hG2.trans hG3).trans hG4))⟩,fun h=>(by cases h)⟩ | exact ⟨_,_,_,F,fun _=>⟨.nd 85 [] d.tag [w],y8,F,hRT,.uni k y8 y2 y1 wb 1 x.2 d w (Nat.le_refl _) ⟨hrf,hso⟩ hdm hsg (hs2.mono hG4) (hs1.mono (hG3.trans hG4)) (hrep.mono ((hG2.trans hG3).trans hG4))⟩,fun h=>(by cases h)⟩
theorem yA {ts : List Ty} {n : Nat} {k : abL} : rd ts n k [] = none:=by
 cases h : rd ts n k [] with
 | none=>rfl
 | some x=>have:=gv h;simp at this
theorem sP {n : Nat} {u : Value} {vs : List b8} {k s : abL} (hc : s = [] ∨ n = 0) (hn : n ≤ 1000) : bA abK 84 [Ag [u],S s,S k,I (n : Nat)] G (cg (ag vs) (rd (ag vs) n k s) k):=by
 have hno : rd (ag vs) n k s = none:=by
  rcases hc with rfl | rfl
  ·exact yA
  ·rfl
 by_cases hs : s = []
 ·refine jB [(0,_),(1,_),(2,_),(3,_)] Tryz.func84 Tryz.ntmps84 fun B hok hB hW=>?_
  repeat' (first | refine jR ?_ | (refine jo ?_;first | refine jO fun _=>?_ | refine aL F ?_) | refine aD F F (ay ‹_›) ?_ | refine ac F F ?_)
  refine jZ (vs:=[_,_,_]) F ⟨F,F,F,trivial⟩ F ⟨Gh.le.refl _,F,?_⟩
  rw [aB]
  exact ⟨_,_,_,F,fun h=>(by cases h),fun _=>hno⟩
 ·have hn0 : n = 0:=by
   rcases hc with h | h
   ·exact absurd h hs
   ·exact h
  refine jB [(0,_),(1,_),(2,_),(3,_)] Tryz.func84 Tryz.ntmps84 fun B hok hB hW=>?_
  repeat' (first | refine jR ?_ | (refine jo ?_;first | refine jO fun _=>?_ | refine av F ?_) | refine al F F (aC ‹_›) ?_ | refine ac F (ay oM) ?_)
  refine jZ (vs:=[_,_,_]) F ⟨F,F,F,trivial⟩ F ⟨Gh.le.refl _,F,?_⟩
  rw [aB]
  exact ⟨_,_,_,F,fun h=>(by cases h),fun _=>hno⟩
theorem xS {n : Nat} {u : Value} {vs : List b8} {k s : abL} {e : UInt8} (hR : ju n u vs) (h : SchR G u vs) (hk : aP (ag vs) (91 :: k) = true) (hs : s.length ≤ 1999999) (hn : n ≤ 999) :
  bA abK 84 [Ag [u],S (e :: s),S (91 :: k),I (n + 1 : Nat)] G (cg (ag vs) (rd (ag vs) (n + 1) (91 :: k) (e :: s)) (91 :: k)):=by
 have hrd : rd (ag vs) (n + 1) (91 :: k) (e :: s) = er (rd (ag vs) n k) (e :: s):=by rw [rd];exact qt F
 have he0 : bt (e :: s) (Int.toNat 0) = e.toNat:=be e s
 have hel : (e :: s).length = s.length + 1:=rfl
 have hk0 : bt (91 :: k) (Int.toNat 0) = 91:=be 91 k
 have hkl2 : (91 :: k).length = k.length + 1:=rfl
 by_cases h91 : e.toNat = 91
 ·obtain rfl:=bo h91 dC
  have cx_ls:=xV (s:=s) hR h (dP (.inl rfl) hk) oM oM
  refine jB [(0,_),(1,_),(2,_),(3,_)] Tryz.func84 Tryz.ntmps84 fun B hok hB hW=>?_
  repeat' (first | refine jM ?_ | (refine jo ?_;first | refine jO fun _=>?_ | refine av F ?_) | refine al F F F ?_ | refine ac F F ?_ | refine ad F F ?_ | (refine ai (an (id:=7) _ (fun _ h=>h) ah ?_);refine jW 8 [1,2,3,4] (aa 12 30) ?_;(refine jG (aa 12 31) 0 F (bq F F F F) ?_);refine jA 5 F ?_;(refine aJ F F F cx_ls F ?_;rintro _ G hle ⟨q1,r1,ok1,rfl,hyes,hno⟩;skip);refine jS (aa 12 63) ?_;refine jT 0 [6,7,8,9,10,11] (aa 12 4095) ?_;refine jQ ?_))
  refine jZ (vs:=[_,_,_]) F ⟨F,F,F,trivial⟩ F ⟨hle,F,?_⟩
  rw [aB,hrd]
  exact ⟨_,_,_,F,hyes,hno⟩
 ·have hno : er (rd (ag vs) n k) (e :: s) = none:=by unfold er;dsimp only;rw [if_neg h91]
  refine jB [(0,_),(1,_),(2,_),(3,_)] Tryz.func84 Tryz.ntmps84 fun B hok hB hW=>?_
  repeat' (first | refine jM ?_ | (refine jo ?_;first | refine jO fun _=>?_ | refine av F ?_) | refine al F F F ?_ | (refine ac F (by first | rfl | (refine decide_eq_true ?_;(omega))) ?_) | refine ad F F ?_)
  refine jZ (vs:=[_,_,_]) F ⟨F,F,F,trivial⟩ F ⟨Gh.le.refl _,F,?_⟩
  rw [aB,hrd]
  exact ⟨_,_,_,F,fun h=>(by cases h),fun _=>hno⟩
theorem xR {n : Nat} {u : Value} {vs : List b8} {k s : abL} {e : UInt8} (hR : ju n u vs) (h : SchR G u vs) (hk : aP (ag vs) (63 :: k) = true) (hs : s.length ≤ 1999999) (hn : n ≤ 999) :
  bA abK 84 [Ag [u],S (e :: s),S (63 :: k),I (n + 1 : Nat)] G (cg (ag vs) (rd (ag vs) (n + 1) (63 :: k) (e :: s)) (63 :: k)):=by
 have edn : ((n + 1 : Nat) : Int) - 1 = (n : Nat):=oM
 have hrd : rd (ag vs) (n + 1) (63 :: k) (e :: s) = if e.toNat = 45 then some (.nd 63 [] 0 [],s) else if e.toNat = 43 then (rd (ag vs) n k s).map fun x=>(.nd 63 [] 0 [x.1],x.2) else none:=by
  rw [rd];unfold ee
  dsimp only
  rw [if_neg (show ¬ (63 : UInt8).toNat = 91 by decide),if_pos (show (63 : UInt8).toNat = 63 from rfl)]
 have he0 : bt (e :: s) (Int.toNat 0) = e.toNat:=be e s
 have hel : (e :: s).length = s.length + 1:=rfl
 have hk0 : bt (63 :: k) (Int.toNat 0) = 63:=be 63 k
 have hkl2 : (63 :: k).length = k.length + 1:=rfl
 rw [hrd]
 by_cases h45 : e.toNat = 45
 ·rw [if_pos h45]
  refine jB [(0,_),(1,_),(2,_),(3,_)] Tryz.func84 Tryz.ntmps84 fun B hok hB hW=>?_
  repeat' (first | refine jM ?_ | (refine jo ?_;first | refine jO fun _=>?_ | refine av F ?_) | refine al F F F ?_ | (refine ac F (by first | rfl | (refine decide_eq_true ?_;(omega))) ?_) | refine ad F F ?_ | (refine ai (an (id:=10) _ (fun _ h=>h) ah ?_);refine jW 5 [0,3,4] (aa 8 25) ?_;(refine jG (aa 8 27) 1 F (ao F F) ?_);refine jA 2 F ?_;(refine jO fun _=>?_);refine jS (aa 8 31) ?_;refine jT 0 [5,6,7] (aa 8 255) ?_;refine jQ ?_))
  rename_i y
  refine Nx.sealC (b:=y) fun G2 hG2 hsy=>?_
  refine jZ (vs:=[_,_,_]) F ⟨F,F,F,trivial⟩ F ⟨hG2,F,?_⟩
  rw [aB]
  exact ⟨_,_,_,F,fun _=>⟨_,y,F,F,.non k y hsy⟩,fun h=>(by cases h)⟩
 rw [if_neg h45]
 by_cases h43 : e.toNat = 43
 ·rw [if_pos h43]
  have cx_rd:=hR G k s h (dP (.inr rfl) hk) oM
  rw [← edn] at cx_rd
  refine jB [(0,_),(1,_),(2,_),(3,_)] Tryz.func84 Tryz.ntmps84 fun B hok hB hW=>?_
  repeat' (first | refine jM ?_ | (refine jo ?_;first | refine jO fun _=>?_ | refine av F ?_ | refine jV (ao F F) ?_ | refine jF fun _=>?_) | refine al F F F ?_ | refine ac F F ?_ | (refine ad F (by first | rfl | (refine decide_eq_false ?_;(omega))) ?_) | (refine ai (an (id:=13) _ (fun _ h=>h) ah ?_);refine jW 9 [1,2,3,4,5,6] (aa 15 126) ?_;(refine jG (aa 15 127) 0 F (bq F F F F) ?_);refine jA 7 F ?_;(refine aJ F F F cx_rd F ?_;rintro _ G hle ⟨q1,r1,ok1,rfl,hyes,hno⟩;skip);refine jS (aa 15 255) ?_;refine jT 0 [8,9,10,11,12,13,14] (aa 15 32767) ?_;refine jQ ?_))
  rename_i y1 y8
  refine Nx.sealC (b:=y1) fun G2 hG2 hs1=>?_
  refine Nx.sealC (b:=y8) fun G3 hG3 hsg=>?_
  refine jZ (vs:=[_,_,_]) F ⟨F,F,F,trivial⟩ F ⟨((hle.trans hG2).trans hG3),F,?_⟩
  rw [aB]
  refine ⟨_,_,_,F,fun hb=>?_,fun hb=>by rw [hno hb];rfl⟩
  obtain ⟨w,wb,rfl,hf,hrep⟩:=hyes hb
  exact ⟨.nd 63 [] 0 [w],y8,F,by rw [hf];rfl,.opt k y8 y1 wb 1 w (Nat.le_refl _) hsg (hs1.mono hG3) (hrep.mono (hG2.trans hG3))⟩
 ·rw [if_neg h43]
  refine jB [(0,_),(1,_),(2,_),(3,_)] Tryz.func84 Tryz.ntmps84 fun B hok hB hW=>?_
  repeat' (first | refine jM ?_ | (refine jo ?_;first | refine jO fun _=>?_ | refine av F ?_) | refine al F F F ?_ | (refine ac F (by first | rfl | (refine decide_eq_true ?_;(omega))) ?_) | (refine ad F (by first | rfl | (refine decide_eq_false ?_;(omega))) ?_))
  refine jZ (vs:=[_,_,_]) F ⟨F,F,F,trivial⟩ F ⟨Gh.le.refl _,F,?_⟩
  rw [aB]
  exact ⟨_,_,_,F,fun h=>(by cases h),fun _=>rfl⟩
theorem xT {n : Nat} {u : Value} {vs : List b8} {k s : abL} {e : UInt8} {t : Ty} (hR : ju n u vs) (h : SchR G u vs) (hw : SchW (ag vs)) (hk : aP (ag vs) k = true) (hrf : aV (ag vs) k = some t) (hs : s.length ≤ 1999999) (hn : n ≤ 999) :
  bA abK 84 [Ag [u],S (e :: s),S k,I (n + 1 : Nat)] G (cg (ag vs) (rd (ag vs) (n + 1) k (e :: s)) k):=by
 obtain ⟨r,rfl⟩:=fX hrf
 have hkk:=dc (dp hk)
 have hrd : rd (ag vs) (n + 1) (64 :: r) (e :: s) = aY (ag vs) (rd (ag vs) n) t (e :: s):=by
  rw [rd];unfold ee
  dsimp only
  rw [if_neg (show ¬ (64 : UInt8).toNat = 91 by decide),if_neg (show ¬ (64 : UInt8).toNat = 63 by decide),hrf]
 have hvl : vs.length ≤ 8:=by have:=hw.len;unfold ag at this;simpa using this
 have href:=fW vs (64 :: r)
 have cx_rf:=k4 (k:=64 :: r) h oM hkk.1 oM
 rcases hr : eH vs (64 :: r) with _ | x
 ·rw [hr,hrf] at href;cases href
 rw [hr] at href cx_rf
 have htx : x.2 = t:=by rw [hrf] at href;exact Option.some.inj href
 subst htx
 have hx:=fQ hr
 have cx_na : bA abK 111 [Ag [u],S (e :: s),S (64 :: r),I (n + 1 : Nat)] G (cg (ag vs) (aY (ag vs) (rd (ag vs) n) x.2 (e :: s)) (64 :: r)):=by
  have hso:=(hw.ty _ (List.mem_map_of_mem hx)).sort
  by_cases h1 : x.2.sort = 82 ∧ e.toNat = 123
  ·obtain rfl:=bo h1.2 dC
   exact zy hR h hw hx hrf cx_rf h1.1 hs oM oM
  by_cases h2 : x.2.sort = 69 ∧ e.toNat = 35
  ·obtain rfl:=bo h2.2 dC
   exact zz h hw hx hrf cx_rf h2.1 hs oM
  by_cases h3 : x.2.sort = 85 ∧ e.toNat = 60
  ·obtain rfl:=bo h3.2 dC
   exact zx hR h hw hx hrf cx_rf h3.1 hs oM
  refine zw h.sl.one cx_rf ?_ oM oM
  rcases hso with h4 | h4 | h4 <;> omega
 have hel : (e :: s).length = s.length + 1:=rfl
 have hk0 : bt (64 :: r) (Int.toNat 0) = 64:=be 64 r
 have hkl2 : (64 :: r).length = r.length + 1:=rfl
 refine jB [(0,_),(1,_),(2,_),(3,_)] Tryz.func84 Tryz.ntmps84 fun B hok hB hW=>?_
 repeat' (first | refine jM ?_ | (refine jo ?_;first | refine jO fun _=>?_ | refine av F ?_ | refine aG F ?_ | (refine aJ F F F cx_na F ?_;rintro _ G hle ⟨q1,r1,ok1,rfl,hyes,hno⟩;skip)) | refine al F F F ?_ | refine ac F F ?_ | refine ad F F ?_)
 refine jZ (vs:=[_,_,_]) F ⟨F,F,F,trivial⟩ F ⟨hle,F,?_⟩
 rw [aB,hrd]
 exact ⟨_,_,_,F,hyes,hno⟩
theorem xQ {n : Nat} {u : Value} {vs : List b8} {s : abL} {c e : UInt8} (hu : u.oneCell' = true) (hc : c = 110 ∨ c = 116 ∨ c = 102) (hr : aV (ag vs) [c] = none) (hs : s.length ≤ 1999999) (hn : n ≤ 999) :
  bA abK 84 [Ag [u],S (e :: s),S [c],I (n + 1 : Nat)] G (cg (ag vs) (rd (ag vs) (n + 1) [c] (e :: s)) [c]):=by
 have hrd:=ku (ts:=ag vs) (n:=n) (s:=e :: s) hc hr
 have hel : (e :: s).length = s.length + 1:=rfl
 have cx_pl : bA abK 112 [Ag [u],S (e :: s),S [c]] G (cg (ag vs) (rd (ag vs) (n + 1) [c] (e :: s)) [c]):=by
  rw [hrd]
  rcases hc with rfl | rfl | rfl
  ·rw [if_pos rfl];exact wd hu oM
  ·rw [if_neg dC,if_pos rfl];exact wc hu oM (by simp)
  ·rw [if_neg dC,if_neg dC];exact we hu oM
 clear hrd
 rcases hc with rfl | rfl | rfl
 all_goals
  refine jB [(0,_),(1,_),(2,_),(3,_)] Tryz.func84 Tryz.ntmps84 fun B hok hB hW=>?_
  repeat' (first | refine jX ?_ | (refine jo ?_;first | refine jO fun _=>?_ | refine av F ?_ | refine aG F ?_ | (refine aJ F F F cx_pl F ?_;rintro _ G hle ⟨q1,r1,ok1,rfl,hyes,hno⟩;skip)) | refine al F F F ?_ | refine ad F F ?_)
  refine jZ (vs:=[_,_,_]) F ⟨F,F,F,trivial⟩ F ⟨hle,F,?_⟩
  rw [aB]
  exact ⟨_,_,_,F,hyes,hno⟩
theorem pu {u : Value} {vs : List b8} (hw : SchW (ag vs)) : ∀ n,n ≤ 1000 → ju n u vs
 | 0,_=>fun G k s _ _ _=>sP (.inr rfl) oM
 | n + 1,hn=>fun G k s h hk hs=>by
  have hR:=pu (u:=u) (vs:=vs) hw n oM
  match s,hs with
  | [],_=>exact sP (.inl F) hn
  | e :: s,hs =>
   simp only [List.length_cons] at hs
   match k,hk with
   | [],hk=>cases hk
   | c :: k,hk =>
    by_cases h1 : c.toNat = 91
    ·obtain rfl:=bo h1 dC
     exact xS hR h hk oM oM
    by_cases h2 : c.toNat = 63
    ·obtain rfl:=bo h2 dC
     exact xR hR h hk oM oM
    have h91 : ¬ (c.toNat = 91 ∨ c.toNat = 63):=fun h=>by rcases h with h | h <;> omega
    cases hr : aV (ag vs) (c :: k) with
    | some t=>exact xT hR h hw hk hr oM oM
    | none =>
     rcases gL hk h91 hr with e1 | e1 | e1
     all_goals
      simp only [List.cons.injEq] at e1
      obtain ⟨rfl,rfl⟩:=e1
      exact xQ h.sl.one (by simp) hr oM oM
def lh (n : Nat) (u : Value) (vs : List b8) : Prop:=∀ (G : Gh) (k s : abL),SchR G u vs → aP (ag vs) k = true → s.length ≤ 1000 →
 bA abK 83 [Ag [u],S s,S k,I (n : Nat)] G (cg (ag vs) (rb (ag vs) n k s) k)
theorem vj {n : Nat} {u : Value} {ts : List Ty} {k s : abL} (hc : s = [] ∨ n = 0) (hn : n ≤ 1000) : bA abK 83 [Ag [u],S s,S k,I (n : Nat)] G (cg ts (rb ts n k s) k):=by
 have hno : rb ts n k s = none:=by
  rcases hc with rfl | rfl
  ·exact yC
  ·rfl
 by_cases hs : s = []
 ·refine jB [(0,_),(1,_),(2,_),(3,_)] Tryz.func83 Tryz.ntmps83 fun B hok hB hW=>?_
  repeat' (first | refine jR ?_ | (refine jo ?_;first | refine jO fun _=>?_ | refine aL F ?_) | refine aD F F (ay ‹_›) ?_ | refine ac F F ?_)
  refine jZ (vs:=[_,_,_]) F ⟨F,F,F,trivial⟩ F ⟨Gh.le.refl _,F,?_⟩
  rw [aB]
  exact ⟨_,_,_,F,fun h=>(by (cases h;done)),fun _=>hno⟩
 ·have hn0 : n = 0:=by
   rcases hc with h | h
   ·exact absurd h hs
   ·exact h
  refine jB [(0,_),(1,_),(2,_),(3,_)] Tryz.func83 Tryz.ntmps83 fun B hok hB hW=>?_
  repeat' (first | refine jR ?_ | (refine jo ?_;first | refine jO fun _=>?_ | refine av F ?_) | refine al F F (aC ‹_›) ?_ | refine ac F (ay oM) ?_)
  refine jZ (vs:=[_,_,_]) F ⟨F,F,F,trivial⟩ F ⟨Gh.le.refl _,F,?_⟩
  rw [aB]
  exact ⟨_,_,_,F,fun h=>(by (cases h;done)),fun _=>hno⟩
theorem zL {n : Nat} {u : Value} {ts : List Ty} {s : abL} (hu : u.oneCell' = true) (h0 : s ≠ []) (hs : s.length ≤ 1000) (hn : n ≤ 999) : bA abK 83 [Ag [u],S s,S [110],I (n + 1 : Nat)] G (cg ts ((bc s).map fun x=>(.nd 110 (br x.1) 0 [],x.2)) [110]):=by
 have cx_ng0:=dR (G:=G) (s:=s) oM
 cases hg : bc s with
 | none =>
  rw [hg] at cx_ng0
  have cx_ng : am abK 71 [S s] G (· = Tu [I 0,S [],Bo false]):=cx_ng0
  clear cx_ng0
  refine jB [(0,_),(1,_),(2,_),(3,_)] Tryz.func83 Tryz.ntmps83 fun B hok hB hW=>?_
  repeat' (first | refine jX ?_ | (refine jo ?_;first | refine jO fun _=>?_ | refine av F ?_ | refine jV (ao F F) ?_ | refine ab F F F cx_ng F ?_ | refine ab F F F (fz oM) F ?_) | refine al F F (aC ‹_›) ?_ | refine ac F F ?_ | refine ad F F ?_)
  all_goals refine jZ (vs:=[_,_,_]) F ⟨F,F,F,trivial⟩ F ⟨Gh.le.refl _,F,?_⟩
  all_goals (rw [aB];exact ⟨_,_,_,F,fun h=>(by cases h),fun _=>rfl⟩)
 | some z =>
  obtain ⟨m,r⟩:=z
  obtain ⟨h1,h2,_⟩:=cm hg
  have hl:=bx hg
  rw [hg] at cx_ng0
  have cx_ng : am abK 71 [S s] G (· = Tu [I m,S r,Bo true]):=cx_ng0
  clear cx_ng0
  have hdg:=(jj m.toNat (Nat.le_refl _) h1).2
  refine jB [(0,_),(1,_),(2,_),(3,_)] Tryz.func83 Tryz.ntmps83 fun B hok hB hW=>?_
  repeat' (first | refine jX ?_ | (refine jo ?_;first | refine jO fun _=>?_ | refine av F ?_ | refine jV (ao F F) ?_ | refine ab F F F cx_ng F ?_ | refine ab F F F (fz oM) F ?_) | refine al F F (aC ‹_›) ?_ | refine ac F F ?_ | refine ad F F ?_)
  all_goals
   rename_i xr y
   refine Nx.sealC (b:=y) fun G2 hG2 hsy=>?_
   refine jZ (vs:=[_,_,_]) F ⟨F,F,F,trivial⟩ F ⟨hG2,F,?_⟩
   rw [aB]
   exact ⟨_,_,_,F,fun _=>⟨_,y,F,F,.leaf 110 _ _ _ _ hsy (.inl ⟨F,F,F,hdg⟩)⟩,fun h=>(by cases h)⟩
theorem zO {n : Nat} {u : Value} {ts : List Ty} {s : abL} {e : UInt8} (hu : u.oneCell' = true) (hs : s.length ≤ 1000) (hn : n ≤ 999) : bA abK 83 [Ag [u],S (e :: s),S [102],I (n + 1 : Nat)] G (cg ts ((bM (e :: s)).map fun x=>(.nd 102 (if x.1 = true then [121,101,115] else [110,111]) 0 [],x.2)) [102]):=by
 have he0 : bt (e :: s) (Int.toNat 0) = e.toNat:=be e s
 have hel : (e :: s).length = s.length + 1:=rfl
 by_cases h1 : e.toNat = 1
 ·obtain rfl : e = 1:=bo h1 dC
  have he0 : bt (1 :: s) (Int.toNat 0) = 1:=be 1 s
  rw [qv]
  refine jB [(0,_),(1,_),(2,_),(3,_)] Tryz.func83 Tryz.ntmps83 fun B hok hB hW=>?_
  repeat' (first | refine jX ?_ | (refine jo ?_;first | refine jO fun _=>?_ | refine av F ?_) | refine al F F F ?_ | refine ac F F ?_ | refine ad F F ?_ | (refine ai (an (id:=14) _ (fun _ h=>h) ah ?_);refine jW 8 [0,2,3,8,9] (aa 13 781) ?_;refine jA 1 F ?_;(refine jF fun _=>?_);refine jS (aa 13 783) ?_;(refine jG (aa 13 799) 4 F (ax F F oM) ?_);(refine jG (aa 13 831) 5 F (aq F F F) ?_);(refine jG (aa 13 895) 6 F (ao F F) ?_);refine jA 7 F ?_;(refine jO fun _=>?_);refine jS (aa 13 1023) ?_;refine jT 0 [10,11,12] (aa 13 8191) ?_;refine jQ ?_))
  all_goals
   rename_i y
   refine Nx.sealC (b:=y) fun G2 hG2 hsy=>?_
   refine jZ (vs:=[_,_,_]) F ⟨F,F,F,trivial⟩ F ⟨hG2,F,?_⟩
   rw [aB]
   exact ⟨_,_,_,F,fun _=>⟨.nd 102 [121,101,115] 0 [],y,F,F,.leaf 102 _ _ _ _ hsy (.inr (.inr ⟨F,F,F,.inl F⟩))⟩,fun h=>(by cases h)⟩
 ·by_cases h0 : e.toNat = 0
  ·obtain rfl : e = 0:=bo h0 dC
   have he0 : bt (0 :: s) (Int.toNat 0) = 0:=be 0 s
   rw [qx]
   refine jB [(0,_),(1,_),(2,_),(3,_)] Tryz.func83 Tryz.ntmps83 fun B hok hB hW=>?_
   repeat' (first | refine jX ?_ | (refine jo ?_;first | refine jO fun _=>?_ | refine av F ?_) | refine al F F F ?_ | refine ac F F ?_ | refine ad F F ?_ | (refine ai (an (id:=14) _ (fun _ h=>h) ah ?_);refine jW 8 [0,2,3,8,9] (aa 13 781) ?_;refine jA 1 F ?_;(refine jF fun _=>?_);refine jS (aa 13 783) ?_;(refine jG (aa 13 799) 4 F (ax F F oM) ?_);(refine jG (aa 13 831) 5 F (aq F F F) ?_);(refine jG (aa 13 895) 6 F (ao F F) ?_);refine jA 7 F ?_;(refine jO fun _=>?_);refine jS (aa 13 1023) ?_;refine jT 0 [10,11,12] (aa 13 8191) ?_;refine jQ ?_))
   all_goals
    rename_i y
    refine Nx.sealC (b:=y) fun G2 hG2 hsy=>?_
    refine jZ (vs:=[_,_,_]) F ⟨F,F,F,trivial⟩ F ⟨hG2,F,?_⟩
    rw [aB]
    exact ⟨_,_,_,F,fun _=>⟨.nd 102 [110,111] 0 [],y,F,F,.leaf 102 _ _ _ _ hsy (.inr (.inr ⟨F,F,F,.inr F⟩))⟩,fun h=>(by cases h)⟩
  ·have e1 : bM (e :: s) = none:=lG h0 h1
   rw [e1]
   have h2 : ¬ ((e.toNat : Nat) : Int) < 2:=oM
   refine jB [(0,_),(1,_),(2,_),(3,_)] Tryz.func83 Tryz.ntmps83 fun B hok hB hW=>?_
   repeat' (first | refine jX ?_ | (refine jo ?_;first | refine jO fun _=>?_ | refine av F ?_) | refine al F F F ?_ | (refine ac F (by first | rfl | (refine decide_eq_true ?_;(omega))) ?_) | refine ad F F ?_)
   all_goals refine jZ (vs:=[_,_,_]) F ⟨F,F,F,trivial⟩ F ⟨Gh.le.refl _,F,?_⟩
   all_goals (rw [aB];exact ⟨_,_,_,F,fun h=>(by cases h),fun _=>rfl⟩)
theorem zI {n : Nat} {u : Value} {ts : List Ty} {s : abL} (hu : u.oneCell' = true) (h0 : s ≠ []) (hs : s.length ≤ 1000) (hn : n ≤ 999) : bA abK 83 [Ag [u], S s, S [116], I (n + 1 : Nat)] G (cg ts (match bL s with
      | none=>none
      | some (p,r)=>if cW (39 :: (p ++ [39])) = true then some (.nd 116 p 0 [],r) else none) [116]):=by
  have cx_tk0:=iU (G:=G) (s:=s) oM
  cases hg : bL s with
  | none =>
    rw [hg] at cx_tk0
    have cx_tk : am abK 38 [S s] G (· = Tu [S [],S [],Bo false]):=cx_tk0
    clear cx_tk0
    refine jB [(0,_),(1,_),(2,_),(3,_)] Tryz.func83 Tryz.ntmps83 fun B hok hB hW=>?_
    repeat' (first | refine jX ?_ | (refine jo ?_;first | refine jO fun _=>?_ | refine av F ?_ | refine jV (ao F F) ?_ | refine ab F F F cx_tk F ?_) | (refine al F F (by first | rfl | (refine decide_eq_false ?_;(assumption))) ?_) | refine ac F F ?_ | refine ad F F ?_)
    all_goals refine jZ (vs:=[_,_,_]) F ⟨F,F,F,trivial⟩ F ⟨Gh.le.refl _,F,?_⟩
    all_goals (rw [aB];exact ⟨_,_,_,F,fun h=>(by cases h),fun _=>rfl⟩)
  | some z =>
    obtain ⟨p,r⟩:=z
    have hl:=dz hg
    rw [hg] at cx_tk0
    have cx_tk : am abK 38 [S s] G (· = Tu [S p,S r,Bo true]):=cx_tk0
    clear cx_tk0
    have htx : [39] ++ p ++ [39] = 39 :: (p ++ [39]):=by simp
    have cx_tx:=eJ (G:=G) (s:=[39] ++ p ++ [39]) (by simp only [List.length_append,List.length_cons,List.length_nil];omega)
    dsimp only
    refine jB [(0,_),(1,_),(2,_),(3,_)] Tryz.func83 Tryz.ntmps83 fun B hok hB hW=>?_
    repeat' (first | refine jX ?_ | (refine jo ?_;first | refine jO fun _=>?_ | refine aL F ?_ | refine av F ?_ | refine jV (ao F F) ?_ | refine ab F F F cx_tk F ?_ | (refine ab F F F (eJ ?_) F ?_;(focus ((simp;omega);done)))) | refine aD F F F ?_ | refine al F F (aC ‹_›) ?_ | refine ac F F ?_ | refine ad F F ?_)
    all_goals
      rename_i y
      refine Nx.sealC (b:=y) fun G2 hG2 hsy=>?_
      refine jZ (vs:=[_,_,_]) F ⟨F,F,F,trivial⟩ F ⟨hG2,F,?_⟩
      rw [aB,htx]
      rw [htx] at hsy
      refine ⟨_,_,_,F,fun h=>?_,fun h=>?_⟩
      · exact ⟨_,y,F,by rw [if_pos h],.leaf 116 _ _ _ _ hsy (.inr (.inl ⟨F,F,F⟩))⟩
      · rw [if_neg (by rw [h];decide)]
theorem zK {n : Nat} {u : Value} {vs : List b8} {k s : abL} {e : UInt8} (hR : lh n u vs) (h : SchR G u vs) (hk : aP (ag vs) (63 :: k) = true) (hs : s.length ≤ 999) (hn : n ≤ 999) :
  bA abK 83 [Ag [u],S (e :: s),S (63 :: k),I (n + 1 : Nat)] G (cg (ag vs) (rb (ag vs) (n + 1) (63 :: k) (e :: s)) (63 :: k)):=by
 have edn : ((n + 1 : Nat) : Int) - 1 = (n : Nat):=oM
 have he0 : bt (e :: s) (Int.toNat 0) = e.toNat:=be e s
 have hel : (e :: s).length = s.length + 1:=rfl
 have hk0 : bt (63 :: k) (Int.toNat 0) = 63:=be 63 k
 have hkl2 : (63 :: k).length = k.length + 1:=rfl
 rw [ut]
 by_cases h1 : e.toNat = 1
 ·have e1 : bM (e :: s) = some (true,s):=by rw [bM,if_neg oM,if_pos h1]
  rw [e1]
  dsimp only
  have cx_gt:=hR G k s h (dP (.inr rfl) hk) oM
  rw [← edn] at cx_gt
  refine jB [(0,_),(1,_),(2,_),(3,_)] Tryz.func83 Tryz.ntmps83 fun B hok hB hW=>?_
  repeat' (first | refine jM ?_ | (refine jo ?_;first | refine jO fun _=>?_ | refine av F ?_ | refine jV (ao F F) ?_ | refine jF fun _=>?_) | refine al F F F ?_ | refine ac F F ?_ | (refine ad F (by first | rfl | (refine decide_eq_false ?_;(omega))) ?_) | (refine ai (an (id:=25) _ (fun _ h=>h) ah ?_);refine jW 9 [1,2,3,4,5,6] (aa 15 126) ?_;(refine jG (aa 15 127) 0 F (bq F F F F) ?_);refine jA 7 F ?_;(refine aJ F F F cx_gt F ?_;rintro _ G hle ⟨q1,r1,ok1,rfl,hyes,hno⟩;skip);refine jS (aa 15 255) ?_;refine jT 0 [8,9,10,11,12,13,14] (aa 15 32767) ?_;refine jQ ?_))
  all_goals
   rename_i y1 y8
   refine Nx.sealC (b:=y1) fun G2 hG2 hs1=>?_
   refine Nx.sealC (b:=y8) fun G3 hG3 hsg=>?_
   refine jZ (vs:=[_,_,_]) F ⟨F,F,F,trivial⟩ F ⟨((hle.trans hG2).trans hG3),F,?_⟩
   rw [aB]
   refine ⟨_,_,_,F,fun hb=>?_,fun hb=>by rw [hno hb];rfl⟩
   obtain ⟨w,wb,rfl,hf,hrep⟩:=hyes hb
   exact ⟨.nd 63 [] 0 [w],y8,F,by rw [hf];rfl,.opt k y8 y1 wb 1 w (Nat.le_refl _) hsg (hs1.mono hG3) (hrep.mono (hG2.trans hG3))⟩
 ·by_cases h0 : e.toNat = 0
  ·have e1 : bM (e :: s) = some (false,s):=by rw [bM,if_pos h0]
   rw [e1]
   refine jB [(0,_),(1,_),(2,_),(3,_)] Tryz.func83 Tryz.ntmps83 fun B hok hB hW=>?_
   repeat' (first | refine jM ?_ | (refine jo ?_;first | refine jO fun _=>?_ | refine av F ?_) | refine al F F F ?_ | (refine ac F (by first | rfl | (refine decide_eq_true ?_;(omega))) ?_) | refine ad F F ?_ | (refine ai (an (id:=22) _ (fun _ h=>h) ah ?_);refine jW 5 [0,3,4] (aa 8 25) ?_;(refine jG (aa 8 27) 1 F (ao F F) ?_);refine jA 2 F ?_;(refine jO fun _=>?_);refine jS (aa 8 31) ?_;refine jT 0 [5,6,7] (aa 8 255) ?_;refine jQ ?_))
   all_goals
    rename_i y
    refine Nx.sealC (b:=y) fun G2 hG2 hsy=>?_
    refine jZ (vs:=[_,_,_]) F ⟨F,F,F,trivial⟩ F ⟨hG2,F,?_⟩
    rw [aB]
    exact ⟨_,_,_,F,fun _=>⟨_,y,F,F,.non k y hsy⟩,fun h=>(by cases h)⟩
  ·rw [lG h0 h1]
   refine jB [(0,_),(1,_),(2,_),(3,_)] Tryz.func83 Tryz.ntmps83 fun B hok hB hW=>?_
   repeat' (first | refine jM ?_ | (refine jo ?_;first | refine jO fun _=>?_ | refine av F ?_) | refine al F F F ?_ | (refine ac F (by first | rfl | (refine decide_eq_true ?_;(omega))) ?_) | (refine ad F (by first | rfl | (refine decide_eq_false ?_;(omega))) ?_))
   all_goals refine jZ (vs:=[_,_,_]) F ⟨F,F,F,trivial⟩ F ⟨Gh.le.refl _,F,?_⟩
   all_goals (rw [aB];exact ⟨_,_,_,F,fun h=>(by cases h),fun _=>rfl⟩)
theorem jg {t : Ty} (hw : TyW t) : bJ t.fields 0 = none:=by
 cases h : bJ t.fields 0 with
 | none=>rfl
 | some d =>
  obtain ⟨j,hj,_,hjt,_⟩:=d6 h
  have:=(hw.fld _ (bT hj)).tag
  omega
theorem sE {ts : List Ty} {k : abL} {v : Value} {G' : Gh} (h : cg ts none k v G') : ∃ q1 r1,v = Tu [.pointer q1,S r1,Bo false]:=by
 obtain ⟨q,r,ok,rfl,h1,h2⟩:=h
 cases ok with
 | false=>exact ⟨q,r,F⟩
 | true=>obtain ⟨w,b,_,h3,_⟩:=h1 rfl;cases h3
theorem pb {ts : List Ty} {k r : abL} {x : V} {v : Value} {G' : Gh} (h : cg ts (some (x,r)) k v G') : ∃ wb,v = Tu [Pt wb 0,S r,Bo true] ∧ RepR G' ts x k wb:=by
 obtain ⟨q,r,ok,rfl,h1,h2⟩:=h
 cases ok with
 | false=>cases h2 rfl
 | true =>
  obtain ⟨w,b,rfl,h3,h4⟩:=h1 rfl
  cases h3
  exact ⟨b,F,h4⟩
theorem fu {ts : List Ty} {k : abL} {q : Option Addr} {r : abL} {G' : Gh} {f : Option (V × abL)} (h : f = none) : cg ts f k (Tu [.pointer q,S r,Bo false]) G':=⟨_,_,_,rfl,fun h=>(by cases h),fun _=>h⟩
theorem oo {ts : List Ty} {k : abL} {b : Nat} {r : abL} {G' : Gh} {f : Option (V × abL)} {w : V} (h : f = some (w,r)) (hr : RepR G' ts w k b) : cg ts f k (Tu [Pt b 0,S r,Bo true]) G':=⟨_,_,_,rfl,fun _=>⟨w,b,rfl,h,hr⟩,fun h=>(by cases h)⟩
theorem nz {n : Nat} {u : Value} {vs : List b8} {k s : abL} (hR : lh n u vs) (h : SchR G u vs) (hk : aP (ag vs) k = true) (hs : s.length ≤ 1000) (hn : n ≤ 1000) (hf : cG (rb (ag vs) n) k s = none) :
  bA abK 52 [Ag [u],S s,S k,I (n : Nat)] G (fun v _=>∃ q,v = Tu [.pointer q,Bo false]):=by
 have hkk:=dc (dp hk)
 have hop:=hR G k s h hk hs
 cases hg : rb (ag vs) n k s with
 | none =>
  rw [hg] at hop
  have cx_gt0 : bA abK 83 [Ag [u],S s,S k,I (n : Nat)] G (fun v _=>∃ q1 r1,v = Tu [.pointer q1,S r1,Bo false]):=hop.mono fun v G' L' h=>⟨h.1,h.2.1,sE h.2.2⟩
  clear hop
  refine jB [(0,_),(1,_),(2,_),(3,_)] Tryz.func52 Tryz.ntmps52 fun B hok hB hW=>?_
  repeat' (first | refine jR ?_ | (refine jo ?_;first | refine jO fun _=>?_ | refine aG F ?_ | refine av F ?_ | (refine aJ F F F cx_gt0 F ?_;rintro _ G hle ⟨q1,r1,rfl⟩;skip)) | refine al F F F ?_)
  all_goals refine jZ (vs:=[_,_]) F ⟨F,F,trivial⟩ F ⟨hle,F,?_⟩
  all_goals exact ⟨_,F⟩
 | some x =>
  obtain ⟨w,r⟩:=x
  rw [hg] at hop
  have cx_gt1 : bA abK 83 [Ag [u],S s,S k,I (n : Nat)] G (fun v G'=>∃ wb,v = Tu [Pt wb 0,S r,Bo true] ∧ RepR G' (ag vs) w k wb):=hop.mono fun v G' L' h=>⟨h.1,h.2.1,pb h.2.2⟩
  clear hop
  cases r with
  | nil=>rw [fR hg] at hf;cases hf
  | cons e r =>
   refine jB [(0,_),(1,_),(2,_),(3,_)] Tryz.func52 Tryz.ntmps52 fun B hok hB hW=>?_
   repeat' (first | refine jR ?_ | (refine jo ?_;first | refine jO fun _=>?_ | refine aG F ?_ | refine aL F ?_ | (refine aJ F F F cx_gt1 F ?_;rintro _ G hle ⟨wb,rfl,hrep⟩;skip)) | refine aD F F F ?_)
   all_goals refine jZ (vs:=[_,_]) F ⟨F,F,trivial⟩ F ⟨hle,F,?_⟩
   all_goals exact ⟨_,F⟩
theorem kZ {n : Nat} {u : Value} {vs : List b8} {k s : abL} {w : V} (hR : lh n u vs) (h : SchR G u vs) (hk : aP (ag vs) k = true) (hs : s.length ≤ 1000) (hn : n ≤ 1000) (hf : cG (rb (ag vs) n) k s = some w) :
  bA abK 52 [Ag [u],S s,S k,I (n : Nat)] G (fun v G'=>∃ wb,v = Tu [Pt wb 0,Bo true] ∧ RepR G' (ag vs) w k wb):=by
 have hop:=hR G k s h hk hs
 rw [cE hf] at hop
 have cx_gt1 : bA abK 83 [Ag [u],S s,S k,I (n : Nat)] G (fun v G'=>∃ wb,v = Tu [Pt wb 0,S [],Bo true] ∧ RepR G' (ag vs) w k wb):=hop.mono fun v G' L' h=>⟨h.1,h.2.1,pb h.2.2⟩
 clear hop
 refine jB [(0,_),(1,_),(2,_),(3,_)] Tryz.func52 Tryz.ntmps52 fun B hok hB hW=>?_
 repeat' (first | refine jR ?_ | (refine jo ?_;first | refine jO fun _=>?_ | refine aG F ?_ | refine aL F ?_ | (refine aJ F F F cx_gt1 F ?_;rintro _ G hle ⟨wb,rfl,hrep⟩;skip)) | refine aD F F F ?_)
 all_goals refine jZ (vs:=[_,_]) F ⟨F,F,trivial⟩ F ⟨hle,F,?_⟩
 all_goals exact ⟨_,F,hrep⟩
theorem lb {p : Nat} {t : Ty} {m : Int} (hT : gY G p t) (hw : TyW t) (hm : 0 ≤ m ∧ m ≤ 999999) : am abK 126 [Pt p 0,I m] G (fun v=>∃ q,v = .pointer q):=by
 have hfl:=hw.len
 cases hft : bJ t.fields m with
 | none =>
  obtain ⟨fv,ln,h1,h2⟩:=hT
  exact (dQ h1 h2 oM hft).mono fun v G' L' h=>⟨h.1,h.2.1,_,h.2.2⟩
 | some f =>
  obtain ⟨fv,ln,h1,h2⟩:=hT
  obtain ⟨j,hj,hjn,hjt,hjd⟩:=d6 hft
  obtain ⟨bf,of,cf,rfl,hsf⟩:=h2.expl oM
  exact (eF h1 hsf oM hj hjn hjt).mono fun v G' L' h=>⟨h.1,h.2.1,_,h.2.2⟩
theorem aaL {n r sc p : Nat} {qs : List cx} {t : Ty} {x s : abL} {d : Int} (hd : d = 12 - (n : Int)) (hn : n ≤ 12) (hS : ScI G sc qs) (hkv : lk (ge qs) x = some (Pt p 0)) (hT : gY G p t) (hw : TyW t) (hso : t.sort = 69) (hs : s.length ≤ 1000) :
  dh abK 93 [Pt r 0,Ag [S [],S [64],S x]] G [bD r sc s false none 0 0 d] (jt (bP (ak qs) (rb (ak qs) n) t) r sc s false d):=by
 obtain ⟨u,m,g1,g2,g3⟩:=hS.at'
 obtain ⟨fv,ln,h1,h2⟩:=hT
 have hfl:=hw.len
 have hso' : (t.sort : Int) = 69:=oM
 have cx_sign:=@dn G [64] x
 have hrd : bP (ak qs) (rb (ak qs) n) t s = match bc s with
   | none=>none
   | some (m,r)=>match bJ t.fields m with
    | none=>none
    | some d=>some (.nd 69 [] d.tag [],r):=by
  unfold bP
  rw [if_neg oM]
  rcases bc s with _ | ⟨m,r⟩
  ·rfl
  ·dsimp only
   rcases bJ t.fields m with _ | d
   ·rfl
   ·dsimp only;rw [if_pos hso]
 cases hg : bc s with
 | none =>
  rw [hg] at hrd
  have cx_nb:=fy (G:=G) (r:=r) (sc:=sc) (m:=0) (c:=0) (b:=false) (a:=none) (d:=d + 1) hg hs
  have cx_fld:=dQ h1 h2 oM (jg hw)
  refine ch [(0,_),(1,_)] Tryz.func93 kR Tryz.ntmps93 F F tU fun B hok hB hW=>?_
  repeat' (first | refine jM ?_ | (refine jo ?_;first | refine jO fun _=>?_ | refine jL fun _=>?_ | refine aj F ?_ | refine jD F F F ?_ | refine jV (c6 F F) ?_))
  rename_i x2 x3 x4
  refine jo ?_
  refine ci (fi:=[]) (ca:=[Pt x2 0]) (az:=[]) F F ?_
  repeat' (first | refine jR ?_ | (refine jo ?_;first | refine jL fun _=>?_ | refine aj F ?_ | refine aG F ?_ | refine jV (aI F F aS F F) ?_ | refine jD F F F ?_ | refine jC F F F ?_ | refine jV (ao F F) ?_ | refine jV (cp F F) ?_ | refine ab F F F cx_sign F ?_ | (refine af F F F cx_nb F ?_;rintro _ _ ⟨rfl,rfl⟩;dsimp only [zA,fA]) | refine ab F F F cx_fld F ?_) | (refine ac F (by first | rfl | (refine decide_eq_true ?_;(assumption))) ?_) | (refine ad F (by first | rfl | (refine decide_eq_false ?_;(omega))) ?_) | (refine ai (an (id:=34) _ (fun _ h=>h) ah ?_);refine jT 10 [7] (aa 11 128) ?_;(refine jG (aa 11 129) 0 F (aq F F F) ?_);refine jT 7 [1,2] (aa 11 135) ?_;(refine jG (aa 11 143) 3 F (aq F F F) ?_);refine jT 4 [4,5] (aa 11 191) ?_;(refine jG (aa 11 255) 6 F (aI F F aS F F) ?_);(refine jG (aa 11 511) 8 F (aq F F F) ?_);((refine jG (aa 11 1023) 9 F (cz F F (em aS) aS F) ?_));refine jT 0 [10] (aa 11 2047) ?_;refine jQ ?_))
  all_goals
   refine cV (.inl F) F (cC (x0:=x2) (r:=r) (sc:=sc) (s:=[]) (b:=true) (a:=none) (n:=0) (c:=0) (d:=d + 1) oM) F ?_
   rintro v G' L' ⟨rfl,rfl⟩
   dsimp only [zA,fA]
   exact ⟨[_],[bD r sc [] true none 0 0 (d + 1 - 1)],⟨aE F F F F,trivial⟩,sB,Gh.le.refl _,cA (c:=⟨69,[],0,none,0,0⟩) (bj dC dC) oM (fun _=>⟨F,F,F⟩) ⟨by simp,fun h=>(by cases h),fun _=>.inr hrd⟩⟩
 | some z =>
  obtain ⟨m,q⟩:=z
  obtain ⟨hm0,hm1,_⟩:=cm hg
  have hl:=bx hg
  rw [hg] at hrd
  dsimp only at hrd
  have cx_nb:=dZ (G:=G) (r:=r) (sc:=sc) (m:=0) (c:=0) (b:=false) (a:=none) (d:=d + 1) hg hs
  cases hft : bJ t.fields m with
  | none =>
   rw [hft] at hrd
   have cx_fld:=dQ h1 h2 oM hft
   refine ch [(0,_),(1,_)] Tryz.func93 kR Tryz.ntmps93 F F tU fun B hok hB hW=>?_
   repeat' (first | refine jM ?_ | (refine jo ?_;first | refine jO fun _=>?_ | refine jL fun _=>?_ | refine aj F ?_ | refine jD F F F ?_ | refine jV (c6 F F) ?_))
   rename_i x2 x3 x4
   refine jo ?_
   refine ci (fi:=[]) (ca:=[Pt x2 0]) (az:=[]) F F ?_
   repeat' (first | refine jR ?_ | (refine jo ?_;first | refine jL fun _=>?_ | refine aj F ?_ | refine aG F ?_ | refine jV (aI F F aS F F) ?_ | refine jD F F F ?_ | refine jC F F F ?_ | refine jV (ao F F) ?_ | refine jV (cp F F) ?_ | refine ab F F F cx_sign F ?_ | (refine af F F F cx_nb F ?_;rintro _ _ ⟨rfl,rfl⟩;dsimp only [zA,fA]) | refine ab F F F cx_fld F ?_) | (refine ac F (by first | rfl | (refine decide_eq_true ?_;(assumption))) ?_) | (refine ad F (by first | rfl | (refine decide_eq_false ?_;(omega))) ?_) | (refine ai (an (id:=34) _ (fun _ h=>h) ah ?_);refine jT 10 [7] (aa 11 128) ?_;(refine jG (aa 11 129) 0 F (aq F F F) ?_);refine jT 7 [1,2] (aa 11 135) ?_;(refine jG (aa 11 143) 3 F (aq F F F) ?_);refine jT 4 [4,5] (aa 11 191) ?_;(refine jG (aa 11 255) 6 F (aI F F aS F F) ?_);(refine jG (aa 11 511) 8 F (aq F F F) ?_);((refine jG (aa 11 1023) 9 F (cz F F (em aS) aS F) ?_));refine jT 0 [10] (aa 11 2047) ?_;refine jQ ?_))
   all_goals
    refine cV (.inl F) F (cC (x0:=x2) (r:=r) (sc:=sc) (s:=q) (b:=true) (a:=none) (n:=0) (c:=0) (d:=d + 1) oM) F ?_
    rintro v G' L' ⟨rfl,rfl⟩
    dsimp only [zA,fA]
    exact ⟨[_],[bD r sc q true none 0 0 (d + 1 - 1)],⟨aE F F F F,trivial⟩,sB,Gh.le.refl _,cA (c:=⟨69,[],m,none,0,0⟩) (bj dC oM) oM (fun _=>⟨F,F,F⟩) ⟨oM,fun h=>(by cases h),fun _=>.inr hrd⟩⟩
  | some f =>
   rw [hft] at hrd
   obtain ⟨j,hj,hjn,hjt,hjd⟩:=d6 hft
   obtain ⟨bf,of,cf,rfl,hsf⟩:=h2.expl oM
   have cx_fld:=eF h1 hsf oM hj hjn hjt
   have hft2 : f.tag = m:=by rw [← hjd];exact hjt
   dsimp only at hrd
   rw [hft2] at hrd
   refine ch [(0,_),(1,_)] Tryz.func93 kR Tryz.ntmps93 F F tU fun B hok hB hW=>?_
   repeat' (first | refine jM ?_ | (refine jo ?_;first | refine jO fun _=>?_ | refine jL fun _=>?_ | refine aj F ?_ | refine jD F F F ?_ | refine jV (c6 F F) ?_))
   rename_i x2 x3 x4
   refine jo ?_
   refine ci (fi:=[]) (ca:=[Pt x2 0]) (az:=[]) F F ?_
   repeat' (first | refine jR ?_ | (refine jo ?_;first | refine jL fun _=>?_ | refine aj F ?_ | refine aG F ?_ | refine jV (aI F F aS F F) ?_ | refine jC F F F ?_ | refine jV (ao F F) ?_ | refine jV (cp F F) ?_ | refine ab F F F cx_sign F ?_ | (refine af F F F cx_nb F ?_;rintro _ _ ⟨rfl,rfl⟩;dsimp only [zA,fA]) | refine ab F F F cx_fld F ?_) | refine ac F (ay ‹_›) ?_ | (refine ad F (by first | rfl | (refine decide_eq_false ?_;(omega))) ?_) | (refine ai (an (id:=34) _ (fun _ h=>h) ah ?_);refine jT 10 [7] (aa 11 128) ?_;(refine jG (aa 11 129) 0 F (aq F F F) ?_);refine jT 7 [1,2] (aa 11 135) ?_;(refine jG (aa 11 143) 3 F (aq F F F) ?_);refine jT 4 [4,5] (aa 11 191) ?_;(refine jG (aa 11 255) 6 F (aI F F aS F F) ?_);(refine jG (aa 11 511) 8 F (aq F F F) ?_);((refine jG (aa 11 1023) 9 F (cz F F (em aS) aS F) ?_));refine jT 0 [10] (aa 11 2047) ?_;refine jQ ?_))
   all_goals
    refine cV (.inl F) F (cC (x0:=x2) (r:=r) (sc:=sc) (s:=q) (b:=false) (a:=none) (n:=0) (c:=0) (d:=d + 1) oM) F ?_
    rintro v G' L' ⟨rfl,rfl⟩
    dsimp only [zA,fA]
    exact ⟨[_],[bD r sc q false none 0 0 (d + 1 - 1)],⟨aE F F F F,trivial⟩,sB,Gh.le.refl _,cA (c:=⟨69,[],m,none,0,0⟩) (bj dC oM) oM (fun _=>⟨F,F,F⟩) ⟨oM,fun _=>⟨F,hrd⟩,fun h=>(by cases h)⟩⟩
end Go.E
