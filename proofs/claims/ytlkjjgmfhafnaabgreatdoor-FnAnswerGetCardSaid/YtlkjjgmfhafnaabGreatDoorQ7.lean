/- Contracts and plain laws that the statement rests on, part 7. Conditions: as each says. -/
import Derived.Test.YtlkjjgmfhafnaabGreatDoorQ6
set_option linter.unusedVariables false
set_option linter.unusedSimpArgs false
namespace Go.E
set_option maxRecDepth 20000
set_option maxHeartbeats 2000000
open Go.Proofs
variable {G : Gh}
abbrev tBr : TypeId:=65
abbrev bI (r sc : Nat) (s : ac8) (b : Bool) (a : Option Addr) (n c : Nat) (d : Int) : Own:=.blk r (.cells (List.toArray [Pt sc 0,S s,Bo b,.slice a n c,I d]) tBr (0,0))
theorem jr {r sc m n c : Nat} {s : ac8} {a : Option Addr} {d : Int} (h : m ≤ s.length ∧ s.length ≤ 1000000) : bM ac7 42 [Pt r 0,I (m : Nat)] G [bI r sc s false a n c d] (fun v L'=>v = S (s.take m) ∧ L' = [bI r sc (s.drop m) false a n c d]):=by
 refine jH [(0,_),(1,_)] Tryz.func42 Tryz.ntmps42 fun B hB hW=>?_
 repeat' (first | refine jM ?_ | (refine jo ?_;first | refine ah F ?_ | refine ar F ?_ | refine jD F F F ?_) | refine ak F F F ?_ | refine ad F (aC oM) ?_)
 exact aP (vs:=[_]) F ⟨F,trivial⟩ F (List.Sublist.refl _) ⟨F,F,F⟩
theorem fJ {r sc m n c : Nat} {s : ac8} {b : Bool} {a : Option Addr} {d : Int} (h : b = true ∨ s.length < m) (hs : s.length ≤ 1000000 ∧ m ≤ 1000000) : bM ac7 42 [Pt r 0,I (m : Nat)] G [bI r sc s b a n c d] (fun v L'=>v = S [] ∧ L' = [bI r sc s true a n c d]):=by
 rcases h with rfl | h
 ·refine jH [(0,_),(1,_)] Tryz.func42 Tryz.ntmps42 fun B hB hW=>?_
  repeat' (first | refine jR ?_ | (refine jo ?_;first | refine ah F ?_ | refine aG F ?_ | refine jD F F F ?_) | refine ax F F F ?_ | refine ac F F ?_)
  all_goals exact aP (vs:=[_]) F ⟨F,trivial⟩ F (List.Sublist.refl _) ⟨F,F,F⟩
 ·cases b
  ·refine jH [(0,_),(1,_)] Tryz.func42 Tryz.ntmps42 fun B hB hW=>?_
   repeat' (first | refine jR ?_ | (refine jo ?_;first | refine ah F ?_ | refine ar F ?_ | refine jD F F F ?_) | refine ak F F F ?_ | refine ac F (ay oM) ?_)
   all_goals exact aP (vs:=[_]) F ⟨F,trivial⟩ F (List.Sublist.refl _) ⟨F,F,F⟩
  ·refine jH [(0,_),(1,_)] Tryz.func42 Tryz.ntmps42 fun B hB hW=>?_
   repeat' (first | refine jR ?_ | (refine jo ?_;first | refine ah F ?_ | refine aG F ?_ | refine jD F F F ?_) | refine ax F F F ?_ | refine ac F F ?_)
   all_goals exact aP (vs:=[_]) F ⟨F,trivial⟩ F (List.Sublist.refl _) ⟨F,F,F⟩
theorem sE {r sc n c : Nat} {s q : ac8} {x : Bool} {a : Option Addr} {d : Int} (h : bX s = some (x,q)) (hs : s.length ≤ 1000000) : bM ac7 45 [Pt r 0] G [bI r sc s false a n c d] (fun v L'=>v = Bo x ∧ L' = [bI r sc q false a n c d]):=by
 have e:=dA h
 subst e
 have hl : ((if x = true then 1 else 0) :: q).length = q.length + 1:=rfl
 have cx_tkb:=jr (G:=G) (r:=r) (sc:=sc) (m:=1) (n:=n) (c:=c) (s:=(if x = true then 1 else 0) :: q) (a:=a) (d:=d) ⟨oM,hs⟩
 cases x
 ·have cx_tkb : bM ac7 42 [Pt r 0,I 1] G [bI r sc (0 :: q) false a n c d] (fun v L'=>v = S [0] ∧ L' = [bI r sc q false a n c d]):=cx_tkb
  refine jH [(0,_)] Tryz.func45 Tryz.ntmps45 fun B hB hW=>?_
  repeat' (first | refine jR ?_ | (refine jo ?_;(refine af F F F cx_tkb F ?_;rintro _ _ ⟨rfl,rfl⟩;dsimp only [zA,fA])) | refine ad F F ?_)
  all_goals exact aP (vs:=[_]) F ⟨F,trivial⟩ F (List.Sublist.refl _) ⟨F,F,F⟩
 ·have cx_tkb : bM ac7 42 [Pt r 0,I 1] G [bI r sc (1 :: q) false a n c d] (fun v L'=>v = S [1] ∧ L' = [bI r sc q false a n c d]):=cx_tkb
  refine jH [(0,_)] Tryz.func45 Tryz.ntmps45 fun B hB hW=>?_
  repeat' (first | refine jR ?_ | (refine jo ?_;(refine af F F F cx_tkb F ?_;rintro _ _ ⟨rfl,rfl⟩;dsimp only [zA,fA])) | refine ad F F ?_)
  all_goals exact aP (vs:=[_]) F ⟨F,trivial⟩ F (List.Sublist.refl _) ⟨F,F,F⟩
theorem sF {r sc n c : Nat} {s : ac8} {b : Bool} {a : Option Addr} {d : Int} (h : b = true ∨ bX s = none) (hs : s.length ≤ 1000000) : bM ac7 45 [Pt r 0] G [bI r sc s b a n c d] (fun v L'=>∃ q,(v = Bo false ∧ q.length ≤ s.length) ∧ L' = [bI r sc q true a n c d]):=by
 by_cases h1 : b = true ∨ s.length < 1
 ·have cx_tkb:=fJ (G:=G) (r:=r) (sc:=sc) (m:=1) (n:=n) (c:=c) (s:=s) (b:=b) (a:=a) (d:=d) h1 ⟨hs,oM⟩
  have cx_tkb : bM ac7 42 [Pt r 0,I 1] G [bI r sc s b a n c d] (fun v L'=>v = S [] ∧ L' = [bI r sc s true a n c d]):=cx_tkb
  refine jH [(0,_)] Tryz.func45 Tryz.ntmps45 fun B hB hW=>?_
  repeat' (first | refine jR ?_ | (refine jo ?_;(refine af F F F cx_tkb F ?_;rintro _ _ ⟨rfl,rfl⟩;dsimp only [zA,fA])) | refine ad F F ?_)
  all_goals exact aP (vs:=[_]) F ⟨F,trivial⟩ F (List.Sublist.refl _) ⟨F,s,⟨F,Nat.le_refl _⟩,F⟩
 ·obtain rfl : b = false:=by cases b;rfl;exact absurd (.inl F) h1
  match s,h,hs,h1 with
  | [],_,_,h1=>exact absurd (.inr (by simp)) h1
  | e :: q,h,hs,_ =>
   have he : e.toNat ≠ 0 ∧ e.toNat ≠ 1:=by
    rcases h with h | h
    ·cases h
    ·unfold bX at h
     dsimp only at h
     split at h
     ·cases h
     ·split at h
      ·cases h
      ·exact ⟨by assumption,by assumption⟩
   have hl : (e :: q).length = q.length + 1:=rfl
   have cx_tkb:=jr (G:=G) (r:=r) (sc:=sc) (m:=1) (n:=n) (c:=c) (s:=e :: q) (a:=a) (d:=d) ⟨oM,hs⟩
   have cx_tkb : bM ac7 42 [Pt r 0,I 1] G [bI r sc (e :: q) false a n c d] (fun v L'=>v = S [e] ∧ L' = [bI r sc q false a n c d]):=cx_tkb
   have hne : ¬ [e] = [1]:=fun h=>by simp only [List.cons.injEq,and_true] at h;subst h;exact he.2 F
   have hbl : Op.bytesLess [e] [1] = false:=by
    cases hb : Op.bytesLess [e] [1] with
    | false=>rfl
    | true =>
     exfalso
     unfold Op.bytesLess at hb
     have h9 : ¬ e.toNat < (1 : UInt8).toNat:=by show ¬ e.toNat < 1;omega
     simp_all
   have hc : (!(Op.bytesLess [e] [1] || decide ([e] = [1]))) = true:=by rw [hbl,decide_eq_false hne];rfl
   refine jH [(0,_)] Tryz.func45 Tryz.ntmps45 fun B hB hW=>?_
   repeat' (first | refine jR ?_ | (refine jo ?_;first | refine jD F F F ?_ | (refine af F F F cx_tkb F ?_;rintro _ _ ⟨rfl,rfl⟩;dsimp only [zA,fA])) | refine ac F ‹_› ?_)
   all_goals exact aP (vs:=[_]) F ⟨F,trivial⟩ F (List.Sublist.refl _) ⟨F,q,⟨by rw [decide_eq_false hne];all_goals rfl,oM⟩,rfl⟩
theorem eo {r sc m c : Nat} {s q : ac8} {b : Bool} {a : Option Addr} {d n : Int} (h : bj s = some (n,q)) (hs : s.length ≤ 1000) : bM ac7 41 [Pt r 0] G [bI r sc s b a m c d] (fun v L'=>v = I n ∧ L' = [bI r sc q b a m c d]):=by
 have cx_ng0:=ku (G:=G) (s:=s) oM
 rw [h] at cx_ng0
 have cx_ngi : an ac7 76 [S s] G (· = Tu [I n,S q,Bo true]):=cx_ng0
 refine jH [(0,_)] Tryz.func41 Tryz.ntmps41 fun B hB hW=>?_
 repeat' (first | refine jR ?_ | (refine jo ?_;first | refine ah F ?_ | refine jD F F F ?_ | refine ab F F F cx_ngi F ?_) | refine ad F F ?_)
 all_goals exact aP (vs:=[_]) F ⟨F,trivial⟩ F (List.Sublist.refl _) ⟨F,F,F⟩
theorem fU {r sc m c : Nat} {s : ac8} {b : Bool} {a : Option Addr} {d : Int} (h : bj s = none) (hs : s.length ≤ 1000) : bM ac7 41 [Pt r 0] G [bI r sc s b a m c d] (fun v L'=>v = I 0 ∧ L' = [bI r sc [] true a m c d]):=by
 have cx_ng0:=ku (G:=G) (s:=s) oM
 rw [h] at cx_ng0
 have cx_ngi : an ac7 76 [S s] G (· = Tu [I 0,S [],Bo false]):=cx_ng0
 refine jH [(0,_)] Tryz.func41 Tryz.ntmps41 fun B hB hW=>?_
 repeat' (first | refine jR ?_ | (refine jo ?_;first | refine ah F ?_ | refine jD F F F ?_ | refine ab F F F cx_ngi F ?_) | refine ac F F ?_)
 all_goals exact aP (vs:=[_]) F ⟨F,trivial⟩ F (List.Sublist.refl _) ⟨F,F,F⟩
abbrev fB : TypeId:=62
abbrev l5 : TypeId:=83
abbrev rm : TypeId:=77
theorem dc {P : Program} {n : Nat} {E : bo} {B : Base} {G : Gh} {L R1 R : List Own} {e : Exit} {f : FuncId} {fi ca az xs : List Value} {b1 b2 : Nat} {c1 c2 : List Value} {T1 T2 : TypeId} {PostD : Value → Gh → List Own → Prop} {fn : Func} {rs : List ResultVar} {Post : Value → Gh → List Own → Prop}
  [h1 : DelB L b1 c1 T1 R1] [h2 : DelB R1 b2 c2 T2 R] (he : e = .ret ∨ e = .normal) (hv : fi ++ az ++ ca = xs) (hc : FnD P f xs G [.blk b1 (.cells c1.toArray T1 (0,0)),.blk b2 (.cells c2.toArray T2 (0,0))] PostD)
  (hr : fn.results = rs.toArray) (k : ∀ v G' L',PostD v G' L' → ∃ vs L'',iJ P (St B G' (L' ++ R)) E rs vs ∧ L''.Sublist (L' ++ R) ∧ Post (eM vs) G' L'') :
  Nx n [sh f fi ca az] E B G L (cu P (.exit e) [] (wE P fn (dB B Post))):=abI he hv hc (h1.del.perm.trans (h2.del.perm.cons _)) hr k
theorem cK {x0 r sc n c : Nat} {s : ac8} {b : Bool} {a : Option Addr} {d : Int} (hd : -1000 ≤ d ∧ d ≤ 1000) : FnD ac7 136 [Pt x0 0] G [.blk x0 (.cells (List.toArray [Pt r 0]) fB (0,0)),bI r sc s b a n c d]
  (fun _ G' L'=>G' = G ∧ L' = [.blk x0 (.cells (List.toArray [Pt r 0]) fB (0,0)),bI r sc s b a n c (d - 1)]):=by
 refine y6 [(0,_)] Tryz.func136 kR Tryz.ntmps136 F F tU fun B hok hB hW=>?_
 repeat' (first | refine jM ?_ | (refine jo ?_;first | refine ah F ?_ | refine jD F F F ?_))
 all_goals exact nX (vs:=[]) F trivial F (List.Sublist.refl _) ⟨F,F⟩
def sW (f : ac8 → Option (V × ac8)) (s : ac8) (b : Bool) (u : V) (s' : ac8) (b' : Bool) : Prop :=
 s'.length ≤ s.length ∧ (b' = false → b = false ∧ f s = some (u,s')) ∧ (b' = true → b = true ∨ f s = none)
def kv (f : ac8 → Option (V × ac8)) (r sc : Nat) (s : ac8) (b : Bool) (d : Int) (v : Value) (G' : Gh) (L' : List Own) : Prop :=
 ∃ u c s' b' a n k,v = Ag (ck c) ∧ V.rep G' u c ∧ L' = [bI r sc s' b' a n k d] ∧ (d ≠ 0 → a = none ∧ n = 0 ∧ k = 0) ∧ sW f s b u s' b'
def qV (n sc : Nat) (qs : List cF) : Prop:=∀ (G : Gh) (r : Nat) (k s : ac8) (b : Bool),ScI G sc qs → aO (ao qs) k = true → s.length ≤ 1000 →
 dq ac7 96 [Pt r 0,Ag (ew k)] G [bI r sc s b none 0 0 (13 - (n : Int))] (kv (rb (ao qs) n k) r sc s b (13 - (n : Int)))
theorem cJ {f : ac8 → Option (V × ac8)} {r sc n k : Nat} {s s' : ac8} {b b' : Bool} {d d' : Int} {u : V} {c : VC} {a : Option Addr} {G' : Gh} (hr : V.rep G' u c) (hd : d' = d) (hk : d ≠ 0 → a = none ∧ n = 0 ∧ k = 0) (h : sW f s b u s' b') : kv f r sc s b d (Ag (ck c)) G' [bI r sc s' b' a n k d']:=by
 subst hd;exact ⟨u,c,s',b',a,n,k,F,hr,F,hk,h⟩
theorem wJ {f : ac8 → Option (V × ac8)} {r sc : Nat} {k q : ac8} {d e : Int} (h : e = d) (h0 : d ≠ 0) (hc : dq ac7 96 [Pt r 0,Ag (ew k)] G [bI r sc q false none 0 0 e] (kv f r sc q false e)) : dq ac7 96 [Pt r 0,Ag [S (sg k),S (bs k),S (nm k)]] G [bI r sc q false none 0 0 d] (fun v G' L'=>∃ u c s' b',v = Ag (ck c) ∧ V.rep G' u c ∧ L' = [bI r sc s' b' none 0 0 d] ∧ sW f q false u s' b'):=by
 subst h
 refine hc.mono ?_
 rintro v G' L' ⟨h1,u,c,s',b',a,n,kk,rfl,h2,rfl,h3,h4⟩
 obtain ⟨rfl,rfl,rfl⟩:=h3 h0
 exact ⟨h1,u,c,s',b',F,h2,F,h4⟩
theorem kL {ts : List Ty} {n : Nat} {k q t1 : ac8} {u : V} {b1 : Bool} (h : sW (rb ts n k) q false u t1 b1) : t1.length ≤ q.length ∧ (b1 = false → rb ts n k q = some (u,t1) ∧ u.tot + 100 * t1.length ≤ 100 * q.length ∧ t1.length < q.length) ∧ (b1 = true → rb ts n k q = none):=by
 obtain ⟨h1,h2,h3⟩:=h
 refine ⟨h1,fun h=>?_,fun h=>?_⟩
 ·obtain ⟨_,h4⟩:=h2 h
  exact ⟨h4,je _ _ _ _ _ h4,oQ _ _ _ _ _ h4⟩
 ·rcases h3 h with h4 | h4
  ·cases h4
  ·exact h4
theorem tX {r sc n : Nat} {qs : List cF} {k s : ac8} {b : Bool} (h : b = true ∨ n = 0) (hs : s.length ≤ 1000) (hn : n ≤ 13) :
  dq ac7 96 [Pt r 0,Ag [S (sg k),S (bs k),S (nm k)]] G [bI r sc s b none 0 0 (13 - (n : Int))] (kv (rb (ao qs) n k) r sc s b (13 - (n : Int))):=by
 have hno : b = true ∨ rb (ao qs) n k s = none:=by
  rcases h with h | rfl
  ·exact .inl h
  ·exact .inr F
 rcases h with rfl | rfl
 ·
  refine cy [(0,_),(1,_)] Tryz.func96 kR Tryz.ntmps96 F F tU fun B hok hB hW=>?_
  repeat' (first | refine jM ?_ | (refine jo ?_;first | refine jO fun _=>?_ | refine jL fun _=>?_ | refine ah F ?_ | refine jD F F F ?_ | refine jV (dk F F) ?_))
  rename_i x2 x3 x4
  refine jo ?_
  refine cz (fi:=[]) (ca:=[Pt x2 0]) (az:=[]) F F ?_
  repeat' (first | refine jR ?_ | (refine jo ?_;first | refine ah F ?_ | refine jD F F F ?_ | refine jC F F F ?_ | refine jV (al F F) ?_) | refine ac F F ?_ | refine cB F (fun _=>?_) (fun _=>?_))
  all_goals
   refine dc (.inl F) F (cK (x0:=x2) (r:=r) (sc:=sc) (s:=s) (b:=true) (a:=none) (n:=0) (c:=0) (d:=13 - (n : Int) + 1) oM) F ?_
   rintro v G' L' ⟨rfl,rfl⟩
   dsimp only [zA,fA]
   exact ⟨[_],[bI r sc s true none 0 0 (13 - (n : Int) + 1 - 1)],⟨aF F F F F,trivial⟩,sB,Gh.le.refl _,cJ (c:=⟨0,[],0,none,0,0⟩) fC oM (fun _=>⟨F,F,F⟩) ⟨Nat.le_refl _,fun h=>(by cases h),fun _=>hno⟩⟩
 ·
  refine cy [(0,_),(1,_)] Tryz.func96 kR Tryz.ntmps96 F F tU fun B hok hB hW=>?_
  repeat' (first | refine jM ?_ | (refine jo ?_;first | refine jO fun _=>?_ | refine jL fun _=>?_ | refine ah F ?_ | refine jD F F F ?_ | refine jV (dk F F) ?_))
  rename_i x2 x3 x4
  refine jo ?_
  refine cz (fi:=[]) (ca:=[Pt x2 0]) (az:=[]) F F ?_
  repeat' (first | refine jR ?_ | (refine jo ?_;first | refine ah F ?_ | refine jD F F F ?_ | refine jC F F F ?_ | refine jV (al F F) ?_) | refine ac F F ?_)
  all_goals
   refine dc (.inl F) F (cK (x0:=x2) (r:=r) (sc:=sc) (s:=s) (b:=true) (a:=none) (n:=0) (c:=0) (d:=13 - ((0 : Nat) : Int) + 1) oM) F ?_
   rintro v G' L' ⟨rfl,rfl⟩
   dsimp only [zA,fA]
   exact ⟨[_],[bI r sc s true none 0 0 (13 - ((0 : Nat) : Int) + 1 - 1)],⟨aF F F F F,trivial⟩,sB,Gh.le.refl _,cJ (c:=⟨0,[],0,none,0,0⟩) fC oM (fun _=>⟨F,F,F⟩) ⟨Nat.le_refl _,fun h=>(by cases h),fun _=>hno⟩⟩
theorem t5 {n r sc m c : Nat} {qs : List cF} {k p s : ac8} {d : Int} {a : Option Addr} (hd : d = 13 - (n : Int)) (hn : n ≤ 12) (hU : qV n sc qs) (hS : ScI G sc qs) (hk : aO (ao qs) k = true) (hs : p.length ≤ 1000) :
  dq ac7 138 [Pt r 0,Ag [S (sg k),S (bs k),S (nm k)],S p] G [bI r sc s false a m c d] (fun v G' L'=>∃ u cc b',v = Ag (ck cc) ∧ V.rep G' u cc ∧ L' = [bI r sc s b' a m c d] ∧ (b' = false → cQ (rb (ao qs) n) k p = some u ∧ u.tot ≤ 100 * p.length) ∧ (b' = true → cQ (rb (ao qs) n) k p = none)):=by
 have cx_vl : ∀ y,dq ac7 96 [Pt y 0,Ag [S (sg k),S (bs k),S (nm k)]] G [bI y sc p false none 0 0 d] (fun v G' L'=>∃ u c s' b',v = Ag (ck c) ∧ V.rep G' u c ∧ L' = [bI y sc s' b' none 0 0 d] ∧ sW (rb (ao qs) n k) p false u s' b'):=fun y=>wJ hd.symm oM (hU G y k p false hS hk hs)
 refine bL [(0,_),(1,_),(2,_)] Tryz.func138 kR Tryz.ntmps138 F F tU fun B hB hW=>?_
 repeat' (first | refine jR ?_ | (refine jo ?_;first | refine jO fun _=>?_ | refine jL fun _=>?_ | refine aB F ?_) | (refine aj (am (id:=1) _ (fun _ h=>h) ai ?_);refine jT 5 [0,1,2,4,5,6,7] (aa 12 247) ?_;(refine jG (aa 12 255) 3 F (aq F F F) ?_);(refine jG (aa 12 511) 8 F (aq F F F) ?_);(refine jG (aa 12 1023) 9 F (al F F) ?_);refine jA 10 F ?_;(refine jO fun _=>?_);refine jS (aa 12 2047) ?_;refine jT 0 [11] (aa 12 4095) ?_;refine jQ ?_))
 rename_i y
 refine jo ?_
 refine cI F F F (cx_vl y) F ?_
 rintro _ G1 _ hle ⟨u1,c1,t1,b1,rfl,hrep,rfl,hP⟩
 dsimp only [zA,fA]
 obtain ⟨hQ1,hQ2,hQ3⟩:=kL hP
 cases b1 with
 | true =>
  have hno : cQ (rb (ao qs) n) k p = none:=by unfold cQ;rw [hQ3 rfl]
  repeat' (first | refine jR ?_ | (refine jo ?_;first | refine jL fun _=>?_ | refine ah F ?_ | refine aB F ?_ | refine jD F F F ?_ | refine jC F F F ?_ | refine aG F ?_) | refine ax F F F ?_ | refine ac F F ?_)
  all_goals refine aP (vs:=[_]) F ⟨aF F F F F,trivial⟩ F sB ⟨hle,u1,c1,true,F,hrep,F,fun h=>(by cases h),fun _=>hno⟩
 | false =>
  obtain ⟨h1,h2,h3⟩:=hQ2 rfl
  cases t1 with
  | nil =>
   have hyes : cQ (rb (ao qs) n) k p = some u1:=gf h1
   repeat' (first | refine jR ?_ | (refine jo ?_;first | refine jL fun _=>?_ | refine ah F ?_ | refine aB F ?_ | refine jC F F F ?_ | refine ar F ?_) | refine ak F F F ?_ | refine ad F F ?_)
   all_goals refine aP (vs:=[_]) F ⟨aF F F F F,trivial⟩ F sB ⟨hle,u1,c1,false,F,hrep,F,fun _=>⟨hyes,by simpa using h2⟩,fun h=>(by cases h)⟩
  | cons e t1 =>
   have hno : cQ (rb (ao qs) n) k p = none:=by unfold cQ;rw [h1]
   repeat' (first | refine jR ?_ | (refine jo ?_;first | refine jL fun _=>?_ | refine ah F ?_ | refine aB F ?_ | refine jD F F F ?_ | refine jC F F F ?_ | refine ar F ?_) | refine ak F F F ?_ | refine ac F F ?_)
   all_goals refine aP (vs:=[_]) F ⟨aF F F F F,trivial⟩ F sB ⟨hle,u1,c1,true,F,hrep,F,fun h=>(by cases h),fun _=>hno⟩
abbrev c9 (r : Nat) (s : ac8) (b : Bool) (a : Option Addr) (n c : Nat) (d : Int) : Own:=.blk r (.cells (List.toArray [.pointer none,S s,Bo b,.slice a n c,I d]) tBr (0,0))
theorem oi {r m n c : Nat} {s : ac8} {a : Option Addr} {d : Int} (h : m ≤ s.length ∧ s.length ≤ 1000000) : bM ac7 42 [Pt r 0,I (m : Nat)] G [c9 r s false a n c d] (fun v L'=>v = S (s.take m) ∧ L' = [c9 r (s.drop m) false a n c d]):=by
 refine jH [(0,_),(1,_)] Tryz.func42 Tryz.ntmps42 fun B hB hW=>?_
 repeat' (first | refine jM ?_ | (refine jo ?_;first | refine ah F ?_ | refine ar F ?_ | refine jD F F F ?_) | refine ak F F F ?_ | refine ad F (aC oM) ?_)
 exact aP (vs:=[_]) F ⟨F,trivial⟩ F (List.Sublist.refl _) ⟨F,F,F⟩
theorem lH {r m n c : Nat} {s : ac8} {b : Bool} {a : Option Addr} {d : Int} (h : b = true ∨ s.length < m) (hs : s.length ≤ 1000000 ∧ m ≤ 1000000) : bM ac7 42 [Pt r 0,I (m : Nat)] G [c9 r s b a n c d] (fun v L'=>v = S [] ∧ L' = [c9 r s true a n c d]):=by
 rcases h with rfl | h
 ·refine jH [(0,_),(1,_)] Tryz.func42 Tryz.ntmps42 fun B hB hW=>?_
  repeat' (first | refine jR ?_ | (refine jo ?_;first | refine ah F ?_ | refine aG F ?_ | refine jD F F F ?_) | refine ax F F F ?_ | refine ac F F ?_)
  all_goals exact aP (vs:=[_]) F ⟨F,trivial⟩ F (List.Sublist.refl _) ⟨F,F,F⟩
 ·cases b
  ·refine jH [(0,_),(1,_)] Tryz.func42 Tryz.ntmps42 fun B hB hW=>?_
   repeat' (first | refine jR ?_ | (refine jo ?_;first | refine ah F ?_ | refine ar F ?_ | refine jD F F F ?_) | refine ak F F F ?_ | refine ac F (ay oM) ?_)
   all_goals exact aP (vs:=[_]) F ⟨F,trivial⟩ F (List.Sublist.refl _) ⟨F,F,F⟩
  ·refine jH [(0,_),(1,_)] Tryz.func42 Tryz.ntmps42 fun B hB hW=>?_
   repeat' (first | refine jR ?_ | (refine jo ?_;first | refine ah F ?_ | refine aG F ?_ | refine jD F F F ?_) | refine ax F F F ?_ | refine ac F F ?_)
   all_goals exact aP (vs:=[_]) F ⟨F,trivial⟩ F (List.Sublist.refl _) ⟨F,F,F⟩
theorem xq {r n c : Nat} {s q : ac8} {x : Bool} {a : Option Addr} {d : Int} (h : bX s = some (x,q)) (hs : s.length ≤ 1000000) : bM ac7 45 [Pt r 0] G [c9 r s false a n c d] (fun v L'=>v = Bo x ∧ L' = [c9 r q false a n c d]):=by
 have e:=dA h
 subst e
 have hl : ((if x = true then 1 else 0) :: q).length = q.length + 1:=rfl
 have cx_tkb:=oi (G:=G) (r:=r) (m:=1) (n:=n) (c:=c) (s:=(if x = true then 1 else 0) :: q) (a:=a) (d:=d) ⟨oM,hs⟩
 cases x
 ·have cx_tkb : bM ac7 42 [Pt r 0,I 1] G [c9 r (0 :: q) false a n c d] (fun v L'=>v = S [0] ∧ L' = [c9 r q false a n c d]):=cx_tkb
  refine jH [(0,_)] Tryz.func45 Tryz.ntmps45 fun B hB hW=>?_
  repeat' (first | refine jR ?_ | (refine jo ?_;(refine af F F F cx_tkb F ?_;rintro _ _ ⟨rfl,rfl⟩;dsimp only [zA,fA])) | refine ad F F ?_)
  all_goals exact aP (vs:=[_]) F ⟨F,trivial⟩ F (List.Sublist.refl _) ⟨F,F,F⟩
 ·have cx_tkb : bM ac7 42 [Pt r 0,I 1] G [c9 r (1 :: q) false a n c d] (fun v L'=>v = S [1] ∧ L' = [c9 r q false a n c d]):=cx_tkb
  refine jH [(0,_)] Tryz.func45 Tryz.ntmps45 fun B hB hW=>?_
  repeat' (first | refine jR ?_ | (refine jo ?_;(refine af F F F cx_tkb F ?_;rintro _ _ ⟨rfl,rfl⟩;dsimp only [zA,fA])) | refine ad F F ?_)
  all_goals exact aP (vs:=[_]) F ⟨F,trivial⟩ F (List.Sublist.refl _) ⟨F,F,F⟩
theorem sD {r n c : Nat} {s : ac8} {b : Bool} {a : Option Addr} {d : Int} (h : b = true ∨ bX s = none) (hs : s.length ≤ 1000000) : bM ac7 45 [Pt r 0] G [c9 r s b a n c d] (fun v L'=>∃ q,(v = Bo false ∧ q.length ≤ s.length) ∧ L' = [c9 r q true a n c d]):=by
 by_cases h1 : b = true ∨ s.length < 1
 ·have cx_tkb:=lH (G:=G) (r:=r) (m:=1) (n:=n) (c:=c) (s:=s) (b:=b) (a:=a) (d:=d) h1 ⟨hs,oM⟩
  have cx_tkb : bM ac7 42 [Pt r 0,I 1] G [c9 r s b a n c d] (fun v L'=>v = S [] ∧ L' = [c9 r s true a n c d]):=cx_tkb
  refine jH [(0,_)] Tryz.func45 Tryz.ntmps45 fun B hB hW=>?_
  repeat' (first | refine jR ?_ | (refine jo ?_;(refine af F F F cx_tkb F ?_;rintro _ _ ⟨rfl,rfl⟩;dsimp only [zA,fA])) | refine ad F F ?_)
  all_goals exact aP (vs:=[_]) F ⟨F,trivial⟩ F (List.Sublist.refl _) ⟨F,s,⟨F,Nat.le_refl _⟩,F⟩
 ·obtain rfl : b = false:=by cases b;rfl;exact absurd (.inl F) h1
  match s,h,hs,h1 with
  | [],_,_,h1=>exact absurd (.inr (by simp)) h1
  | e :: q,h,hs,_ =>
   have he : e.toNat ≠ 0 ∧ e.toNat ≠ 1:=by
    rcases h with h | h
    ·cases h
    ·unfold bX at h
     dsimp only at h
     split at h
     ·cases h
     ·split at h
      ·cases h
      ·exact ⟨by assumption,by assumption⟩
   have hl : (e :: q).length = q.length + 1:=rfl
   have cx_tkb:=oi (G:=G) (r:=r) (m:=1) (n:=n) (c:=c) (s:=e :: q) (a:=a) (d:=d) ⟨oM,hs⟩
   have cx_tkb : bM ac7 42 [Pt r 0,I 1] G [c9 r (e :: q) false a n c d] (fun v L'=>v = S [e] ∧ L' = [c9 r q false a n c d]):=cx_tkb
   have hne : ¬ [e] = [1]:=fun h=>by simp only [List.cons.injEq,and_true] at h;subst h;exact he.2 F
   have hbl : Op.bytesLess [e] [1] = false:=by
    cases hb : Op.bytesLess [e] [1] with
    | false=>rfl
    | true =>
     exfalso
     unfold Op.bytesLess at hb
     have h9 : ¬ e.toNat < (1 : UInt8).toNat:=by show ¬ e.toNat < 1;omega
     simp_all
   have hc : (!(Op.bytesLess [e] [1] || decide ([e] = [1]))) = true:=by rw [hbl,decide_eq_false hne];rfl
   refine jH [(0,_)] Tryz.func45 Tryz.ntmps45 fun B hB hW=>?_
   repeat' (first | refine jR ?_ | (refine jo ?_;first | refine jD F F F ?_ | (refine af F F F cx_tkb F ?_;rintro _ _ ⟨rfl,rfl⟩;dsimp only [zA,fA])) | refine ac F ‹_› ?_)
   all_goals exact aP (vs:=[_]) F ⟨F,trivial⟩ F (List.Sublist.refl _) ⟨F,q,⟨by rw [decide_eq_false hne];all_goals rfl,oM⟩,rfl⟩
theorem i2 {r m c : Nat} {s q : ac8} {b : Bool} {a : Option Addr} {d n : Int} (h : bj s = some (n,q)) (hs : s.length ≤ 1000) : bM ac7 41 [Pt r 0] G [c9 r s b a m c d] (fun v L'=>v = I n ∧ L' = [c9 r q b a m c d]):=by
 have cx_ng0:=ku (G:=G) (s:=s) oM
 rw [h] at cx_ng0
 have cx_ngi : an ac7 76 [S s] G (· = Tu [I n,S q,Bo true]):=cx_ng0
 refine jH [(0,_)] Tryz.func41 Tryz.ntmps41 fun B hB hW=>?_
 repeat' (first | refine jR ?_ | (refine jo ?_;first | refine ah F ?_ | refine jD F F F ?_ | refine ab F F F cx_ngi F ?_) | refine ad F F ?_)
 all_goals exact aP (vs:=[_]) F ⟨F,trivial⟩ F (List.Sublist.refl _) ⟨F,F,F⟩
theorem nf {r m c : Nat} {s : ac8} {b : Bool} {a : Option Addr} {d : Int} (h : bj s = none) (hs : s.length ≤ 1000) : bM ac7 41 [Pt r 0] G [c9 r s b a m c d] (fun v L'=>v = I 0 ∧ L' = [c9 r [] true a m c d]):=by
 have cx_ng0:=ku (G:=G) (s:=s) oM
 rw [h] at cx_ng0
 have cx_ngi : an ac7 76 [S s] G (· = Tu [I 0,S [],Bo false]):=cx_ng0
 refine jH [(0,_)] Tryz.func41 Tryz.ntmps41 fun B hB hW=>?_
 repeat' (first | refine jR ?_ | (refine jo ?_;first | refine ah F ?_ | refine jD F F F ?_ | refine ab F F F cx_ngi F ?_) | refine ac F F ?_)
 all_goals exact aP (vs:=[_]) F ⟨F,trivial⟩ F (List.Sublist.refl _) ⟨F,F,F⟩
theorem abw (x : ac8) : df (39 :: (x ++ [39])) = mv x:=by
 cases x with
 | nil=>simp [df,yi,mv,bt]
 | cons c x =>
  have h:=tI (s:=39 :: (c :: x ++ [39]))
  have hne : (39 :: (c :: x ++ [39]) : ac8) ≠ [39,39]:=fun e=>by simpa using congrArg List.length e
  have hl : (39 :: (c :: x ++ [39]) : ac8).length = x.length + 3:=by simp
  have e0 : bt (39 :: (c :: x ++ [39]) : ac8) 0 = 39:=rfl
  have e1 : bt (39 :: (c :: x ++ [39]) : ac8) (x.length + 3 - 1) = 39:=by
   rw [show x.length + 3 - 1 = (x.length + 1) + 1 by omega,dW,show x.length + 1 = (c :: x).length from rfl]
   simp [bt,List.getD]
  have e2 : ((39 :: (c :: x ++ [39]) : ac8).take (x.length + 3 - 1)).drop 1 = c :: x:=by
   rw [show x.length + 3 - 1 = (c :: x).length + 1 by simp,List.take_succ_cons,List.take_left];rfl
  rw [hl,e0,e1,e2,decide_eq_true hne,Bool.and_true] at h
  rw [h,decide_eq_true oM]
  simp
theorem ab3 {n r sc : Nat} {qs : List cF} {s : ac8} {d : Int} (hd : d = 12 - (n : Int)) (hn : n ≤ 12) (hr : a7 (ao qs) [110] = none) (hs : s.length ≤ 1000) :
  dq ac7 96 [Pt r 0,Ag (ew [110])] G [bI r sc s false none 0 0 d] (kv (rb (ao qs) (n + 1) [110]) r sc s false d):=by
 have cx_sign:=@dD G [110] []
 have hrd:=aad (ts:=ao qs) (n:=n) (s:=s) hr
 show dq ac7 96 [Pt r 0,Ag [S [],S [110],S []]] G [bI r sc s false none 0 0 d] _
 cases hg : bj s with
 | none =>
  rw [hg] at hrd
  have cx_nb:=fU (G:=G) (r:=r) (sc:=sc) (m:=0) (c:=0) (b:=false) (a:=none) (d:=d + 1) hg hs
  refine cy [(0,_),(1,_)] Tryz.func96 kR Tryz.ntmps96 F F tU fun B hok hB hW=>?_
  repeat' (first | refine jM ?_ | (refine jo ?_;first | refine jO fun _=>?_ | refine jL fun _=>?_ | refine ah F ?_ | refine jD F F F ?_ | refine jV (dk F F) ?_))
  rename_i x2 x3 x4
  refine jo ?_
  refine cz (fi:=[]) (ca:=[Pt x2 0]) (az:=[]) F F ?_
  repeat' (first | refine jR ?_ | (refine jo ?_;first | refine ah F ?_ | refine aB F ?_ | refine jC F F F ?_ | refine jV (al F F) ?_ | refine ab F F F cx_sign F ?_ | (refine af F F F cx_nb F ?_;rintro _ _ ⟨rfl,rfl⟩;dsimp only [zA,fA]) | refine ab F F F (fV oM) F ?_) | refine ac F F ?_ | (refine ad F (by first | rfl | (refine decide_eq_false ?_;(omega))) ?_))
  all_goals
   refine dc (.inl F) F (cK (x0:=x2) (r:=r) (sc:=sc) (s:=[]) (b:=true) (a:=none) (n:=0) (c:=0) (d:=d + 1) oM) F ?_
   rintro v G' L' ⟨rfl,rfl⟩
   dsimp only [zA,fA]
   exact ⟨[_],[bI r sc [] true none 0 0 (d + 1 - 1)],⟨aF F F F F,trivial⟩,sB,Gh.le.refl _,cJ (c:=⟨110,bz 0,0,none,0,0⟩) (bq dC dC) oM (fun _=>⟨F,F,F⟩) ⟨by simp,fun h=>(by cases h),fun _=>.inr hrd⟩⟩
 | some z =>
  obtain ⟨m,q⟩:=z
  obtain ⟨h1,h2,_⟩:=cn hg
  have hl:=bE hg
  rw [hg] at hrd
  have cx_nb:=eo (G:=G) (r:=r) (sc:=sc) (m:=0) (c:=0) (b:=false) (a:=none) (d:=d + 1) hg hs
  refine cy [(0,_),(1,_)] Tryz.func96 kR Tryz.ntmps96 F F tU fun B hok hB hW=>?_
  repeat' (first | refine jM ?_ | (refine jo ?_;first | refine jO fun _=>?_ | refine jL fun _=>?_ | refine ah F ?_ | refine jD F F F ?_ | refine jV (dk F F) ?_))
  rename_i x2 x3 x4
  refine jo ?_
  refine cz (fi:=[]) (ca:=[Pt x2 0]) (az:=[]) F F ?_
  repeat' (first | refine jR ?_ | (refine jo ?_;first | refine ah F ?_ | refine aB F ?_ | refine jC F F F ?_ | refine jV (al F F) ?_ | refine ab F F F cx_sign F ?_ | (refine af F F F cx_nb F ?_;rintro _ _ ⟨rfl,rfl⟩;dsimp only [zA,fA]) | refine ab F F F (fV oM) F ?_) | refine ac F F ?_ | (refine ad F (by first | rfl | (refine decide_eq_false ?_;(omega))) ?_))
  all_goals
   refine dc (.inl F) F (cK (x0:=x2) (r:=r) (sc:=sc) (s:=q) (b:=false) (a:=none) (n:=0) (c:=0) (d:=d + 1) oM) F ?_
   rintro v G' L' ⟨rfl,rfl⟩
   dsimp only [zA,fA]
   exact ⟨[_],[bI r sc q false none 0 0 (d + 1 - 1)],⟨aF F F F F,trivial⟩,sB,Gh.le.refl _,cJ (c:=⟨110,bz m,0,none,0,0⟩) (bq dC dC) oM (fun _=>⟨F,F,F⟩) ⟨oM,fun _=>⟨F,hrd⟩,fun h=>(by cases h)⟩⟩
theorem ab5 {n r sc : Nat} {qs : List cF} {s : ac8} {d : Int} (hd : d = 12 - (n : Int)) (hn : n ≤ 12) (hr : a7 (ao qs) [102] = none) (hs : s.length ≤ 1000) :
  dq ac7 96 [Pt r 0,Ag (ew [102])] G [bI r sc s false none 0 0 d] (kv (rb (ao qs) (n + 1) [102]) r sc s false d):=by
 have cx_sign:=@dD G [102] []
 have hrd:=aae (ts:=ao qs) (n:=n) (s:=s) hr
 show dq ac7 96 [Pt r 0,Ag [S [],S [102],S []]] G [bI r sc s false none 0 0 d] _
 cases hf : bX s with
 | none =>
  rw [hf] at hrd
  have cx_fl:=sF (G:=G) (r:=r) (sc:=sc) (n:=0) (c:=0) (s:=s) (b:=false) (a:=none) (d:=d + 1) (.inr hf) oM
  refine cy [(0,_),(1,_)] Tryz.func96 kR Tryz.ntmps96 F F tU fun B hok hB hW=>?_
  repeat' (first | refine jM ?_ | (refine jo ?_;first | refine jO fun _=>?_ | refine jL fun _=>?_ | refine ah F ?_ | refine jD F F F ?_ | refine jV (dk F F) ?_))
  rename_i x2 x3 x4
  refine jo ?_
  refine cz (fi:=[]) (ca:=[Pt x2 0]) (az:=[]) F F ?_
  repeat' (first | refine jR ?_ | (refine jo ?_;first | refine ah F ?_ | refine aB F ?_ | refine jC F F F ?_ | refine jV (al F F) ?_ | refine ab F F F cx_sign F ?_ | (refine af F F F cx_fl F ?_;rintro _ _ ⟨q1,⟨rfl,hql⟩,rfl⟩;dsimp only [zA,fA])) | refine ac F F ?_ | (refine ad F (by first | rfl | (refine decide_eq_false ?_;(omega))) ?_))
  all_goals
   refine dc (.inl F) F (cK (x0:=x2) (r:=r) (sc:=sc) (s:=q1) (b:=true) (a:=none) (n:=0) (c:=0) (d:=d + 1) oM) F ?_
   rintro v G' L' ⟨rfl,rfl⟩
   dsimp only [zA,fA]
   exact ⟨[_],[bI r sc q1 true none 0 0 (d + 1 - 1)],⟨aF F F F F,trivial⟩,sB,Gh.le.refl _,cJ (c:=⟨102,[110,111],0,none,0,0⟩) (bq dC dC) oM (fun _=>⟨F,F,F⟩) ⟨hql,fun h=>(by cases h),fun _=>.inr hrd⟩⟩
 | some y =>
  obtain ⟨x,q⟩:=y
  rw [hf] at hrd
  have hin:=dA hf
  have hl : s.length = q.length + 1:=by rw [hin];rfl
  have cx_fl:=sE (G:=G) (r:=r) (sc:=sc) (n:=0) (c:=0) (s:=s) (q:=q) (x:=x) (a:=none) (d:=d + 1) hf oM
  cases x with
  | false =>
   refine cy [(0,_),(1,_)] Tryz.func96 kR Tryz.ntmps96 F F tU fun B hok hB hW=>?_
   repeat' (first | refine jM ?_ | (refine jo ?_;first | refine jO fun _=>?_ | refine jL fun _=>?_ | refine ah F ?_ | refine jD F F F ?_ | refine jV (dk F F) ?_))
   rename_i x2 x3 x4
   refine jo ?_
   refine cz (fi:=[]) (ca:=[Pt x2 0]) (az:=[]) F F ?_
   repeat' (first | refine jR ?_ | (refine jo ?_;first | refine ah F ?_ | refine aB F ?_ | refine jC F F F ?_ | refine jV (al F F) ?_ | refine ab F F F cx_sign F ?_ | (refine af F F F cx_fl F ?_;rintro _ _ ⟨rfl,rfl⟩;dsimp only [zA,fA])) | refine ac F F ?_ | (refine ad F (by first | rfl | (refine decide_eq_false ?_;(omega))) ?_))
   all_goals
    refine dc (.inl F) F (cK (x0:=x2) (r:=r) (sc:=sc) (s:=q) (b:=false) (a:=none) (n:=0) (c:=0) (d:=d + 1) oM) F ?_
    rintro v G' L' ⟨rfl,rfl⟩
    dsimp only [zA,fA]
    exact ⟨[_],[bI r sc q false none 0 0 (d + 1 - 1)],⟨aF F F F F,trivial⟩,sB,Gh.le.refl _,cJ (c:=⟨102,[110,111],0,none,0,0⟩) (bq dC dC) oM (fun _=>⟨F,F,F⟩) ⟨oM,fun _=>⟨F,hrd⟩,fun h=>(by cases h)⟩⟩
  | true =>
   refine cy [(0,_),(1,_)] Tryz.func96 kR Tryz.ntmps96 F F tU fun B hok hB hW=>?_
   repeat' (first | refine jM ?_ | (refine jo ?_;first | refine jO fun _=>?_ | refine jL fun _=>?_ | refine ah F ?_ | refine jD F F F ?_ | refine jV (dk F F) ?_))
   rename_i x2 x3 x4
   refine jo ?_
   refine cz (fi:=[]) (ca:=[Pt x2 0]) (az:=[]) F F ?_
   repeat' (first | refine jR ?_ | (refine jo ?_;first | refine ah F ?_ | refine aB F ?_ | refine jC F F F ?_ | refine jV (al F F) ?_ | refine ab F F F cx_sign F ?_ | (refine af F F F cx_fl F ?_;rintro _ _ ⟨rfl,rfl⟩;dsimp only [zA,fA])) | refine ac F F ?_ | (refine ad F (by first | rfl | (refine decide_eq_false ?_;(omega))) ?_))
   all_goals
    refine dc (.inl F) F (cK (x0:=x2) (r:=r) (sc:=sc) (s:=q) (b:=false) (a:=none) (n:=0) (c:=0) (d:=d + 1) oM) F ?_
    rintro v G' L' ⟨rfl,rfl⟩
    dsimp only [zA,fA]
    exact ⟨[_],[bI r sc q false none 0 0 (d + 1 - 1)],⟨aF F F F F,trivial⟩,sB,Gh.le.refl _,cJ (c:=⟨102,[121,101,115],0,none,0,0⟩) (bq dC dC) oM (fun _=>⟨F,F,F⟩) ⟨oM,fun _=>⟨F,hrd⟩,fun h=>(by cases h)⟩⟩
theorem fD {s : ac8} : (bj s = none ∧ b5 s = none) ∨ ∃ (m : Nat) (q : ac8),bj s = some ((m : Int),q) ∧ m ≤ 999999 ∧ ((q.length < m ∧ b5 s = none) ∨ (m ≤ q.length ∧ b5 s = some (q.take m,q.drop m))):=by
 cases h : bj s with
 | none=>exact .inl ⟨F,by unfold b5;rw [h]⟩
 | some z =>
  obtain ⟨n,q⟩:=z
  obtain ⟨h0,h1,_⟩:=cn h
  obtain ⟨m,rfl⟩ : ∃ m : Nat,n = (m : Int):=⟨n.toNat,oM⟩
  refine .inr ⟨m,q,F,oM,?_⟩
  by_cases hl : m ≤ q.length
  ·exact .inr ⟨hl,by unfold b5;rw [h];dsimp only;rw [Int.toNat_natCast,if_pos hl]⟩
  ·exact .inl ⟨oM,by unfold b5;rw [h];dsimp only;rw [Int.toNat_natCast,if_neg hl]⟩
theorem ab0 {n r sc : Nat} {qs : List cF} {s : ac8} {d : Int} (hd : d = 12 - (n : Int)) (hn : n ≤ 12) (hr : a7 (ao qs) [116] = none) (hs : s.length ≤ 1000) :
  dq ac7 96 [Pt r 0,Ag (ew [116])] G [bI r sc s false none 0 0 d] (kv (rb (ao qs) (n + 1) [116]) r sc s false d):=by
 have cx_sign:=@dD G [116] []
 have hrd:=aab (ts:=ao qs) (n:=n) (s:=s) hr
 show dq ac7 96 [Pt r 0,Ag [S [],S [116],S []]] G [bI r sc s false none 0 0 d] _
 rcases fD (s:=s) with ⟨hg,ht⟩ | ⟨m,q,hg,hm,⟨hl,ht⟩ | ⟨hl,ht⟩⟩
 ·rw [ht] at hrd
  dsimp only at hrd
  have cx_nb:=fU (G:=G) (r:=r) (sc:=sc) (m:=0) (c:=0) (b:=false) (a:=none) (d:=d + 1) hg hs
  have cx_tkb:=fJ (G:=G) (r:=r) (sc:=sc) (m:=0) (n:=0) (c:=0) (s:=[]) (b:=true) (a:=none) (d:=d + 1) (.inl rfl) ⟨by simp,oM⟩
  have cx_tkb : bM ac7 42 [Pt r 0,I 0] G [bI r sc [] true none 0 0 (d + 1)] (fun v L'=>v = S [] ∧ L' = [bI r sc [] true none 0 0 (d + 1)]):=cx_tkb
  refine cy [(0,_),(1,_)] Tryz.func96 kR Tryz.ntmps96 F F tU fun B hok hB hW=>?_
  repeat' (first | refine jM ?_ | (refine jo ?_;first | refine jO fun _=>?_ | refine jL fun _=>?_ | refine ah F ?_ | refine jD F F F ?_ | refine jV (dk F F) ?_))
  rename_i x2 x3 x4
  refine jo ?_
  refine cz (fi:=[]) (ca:=[Pt x2 0]) (az:=[]) F F ?_
  repeat' (first | refine jR ?_ | (refine jo ?_;first | refine ah F ?_ | refine aB F ?_ | refine ab F F F cx_sign F ?_) | refine ac F F ?_ | (refine ad F (by first | rfl | (refine decide_eq_false ?_;(omega))) ?_))
  (refine aj (am (id:=26) [.blk x2 (.cells (List.toArray [Pt r 0]) fB (0,0))] (by intro y hy;simp only [List.mem_cons,List.not_mem_nil,or_false] at hy ⊢;simp [hy]) ai ?_);(refine jG (aa 5 1) 0 F (aq F F F) ?_);(refine jG (aa 5 3) 1 F (aq F F F) ?_);refine jA 2 F ?_;(refine af F F F cx_nb F ?_;rintro _ _ ⟨rfl,rfl⟩;dsimp only [zA,fA]);refine jK (aa 5 7) ?_;refine jA 3 F ?_;(refine af F F F cx_tkb F ?_;rintro _ _ ⟨rfl,rfl⟩;dsimp only [zA,fA]);refine jK (aa 5 15) ?_;refine jW 0 [4] (aa 5 31) ?_;refine jQ ?_)
  all_goals repeat' (first | refine jR ?_ | (refine jo ?_;first | refine jC F F F ?_ | refine jV (al F F) ?_ | (refine ab F F F (ju ?_) F ?_;(focus ((simp;done);done)))) | refine ad F F ?_)
  all_goals
   refine dc (.inl F) F (cK (x0:=x2) (r:=r) (sc:=sc) (s:=[]) (b:=true) (a:=none) (n:=0) (c:=0) (d:=d + 1) oM) F ?_
   rintro v G' L' ⟨rfl,rfl⟩
   dsimp only [zA,fA]
   exact ⟨[_],[bI r sc [] true none 0 0 (d + 1 - 1)],⟨aF F F F F,trivial⟩,sB,Gh.le.refl _,cJ (c:=⟨116,[],0,none,0,0⟩) (bq dC dC) oM (fun _=>⟨F,F,F⟩) ⟨by simp,fun h=>(by cases h),fun _=>.inr hrd⟩⟩
 ·rw [ht] at hrd
  dsimp only at hrd
  have hql:=bE hg
  have cx_nb:=eo (G:=G) (r:=r) (sc:=sc) (m:=0) (c:=0) (b:=false) (a:=none) (d:=d + 1) hg hs
  have cx_tkb:=fJ (G:=G) (r:=r) (sc:=sc) (m:=m) (n:=0) (c:=0) (s:=q) (b:=false) (a:=none) (d:=d + 1) (.inr hl) ⟨oM,oM⟩
  refine cy [(0,_),(1,_)] Tryz.func96 kR Tryz.ntmps96 F F tU fun B hok hB hW=>?_
  repeat' (first | refine jM ?_ | (refine jo ?_;first | refine jO fun _=>?_ | refine jL fun _=>?_ | refine ah F ?_ | refine jD F F F ?_ | refine jV (dk F F) ?_))
  rename_i x2 x3 x4
  refine jo ?_
  refine cz (fi:=[]) (ca:=[Pt x2 0]) (az:=[]) F F ?_
  repeat' (first | refine jR ?_ | (refine jo ?_;first | refine ah F ?_ | refine aB F ?_ | refine ab F F F cx_sign F ?_) | refine ac F F ?_ | (refine ad F (by first | rfl | (refine decide_eq_false ?_;(omega))) ?_))
  (refine aj (am (id:=26) [.blk x2 (.cells (List.toArray [Pt r 0]) fB (0,0))] (by intro y hy;simp only [List.mem_cons,List.not_mem_nil,or_false] at hy ⊢;simp [hy]) ai ?_);(refine jG (aa 5 1) 0 F (aq F F F) ?_);(refine jG (aa 5 3) 1 F (aq F F F) ?_);refine jA 2 F ?_;(refine af F F F cx_nb F ?_;rintro _ _ ⟨rfl,rfl⟩;dsimp only [zA,fA]);refine jK (aa 5 7) ?_;refine jA 3 F ?_;(refine af F F F cx_tkb F ?_;rintro _ _ ⟨rfl,rfl⟩;dsimp only [zA,fA]);refine jK (aa 5 15) ?_;refine jW 0 [4] (aa 5 31) ?_;refine jQ ?_)
  all_goals repeat' (first | refine jR ?_ | (refine jo ?_;first | refine jC F F F ?_ | refine jV (al F F) ?_ | (refine ab F F F (ju ?_) F ?_;(focus ((simp;done);done)))) | refine ad F F ?_)
  all_goals
   refine dc (.inl F) F (cK (x0:=x2) (r:=r) (sc:=sc) (s:=q) (b:=true) (a:=none) (n:=0) (c:=0) (d:=d + 1) oM) F ?_
   rintro v G' L' ⟨rfl,rfl⟩
   dsimp only [zA,fA]
   exact ⟨[_],[bI r sc q true none 0 0 (d + 1 - 1)],⟨aF F F F F,trivial⟩,sB,Gh.le.refl _,cJ (c:=⟨116,[],0,none,0,0⟩) (bq dC dC) oM (fun _=>⟨F,F,F⟩) ⟨oM,fun h=>(by cases h),fun _=>.inr hrd⟩⟩
 ·rw [ht] at hrd
  dsimp only at hrd
  rw [abw] at hrd
  have hql:=bE hg
  have hdl : (q.drop m).length = q.length - m:=List.length_drop
  have htl : (q.take m).length ≤ 1000:=by rw [List.length_take];omega
  have cx_nb:=eo (G:=G) (r:=r) (sc:=sc) (m:=0) (c:=0) (b:=false) (a:=none) (d:=d + 1) hg hs
  have cx_tkb:=jr (G:=G) (r:=r) (sc:=sc) (m:=m) (n:=0) (c:=0) (s:=q) (a:=none) (d:=d + 1) ⟨hl,oM⟩
  cases hti : mv (q.take m) with
  | true =>
   rw [hti] at hrd
   rw [if_pos rfl] at hrd
   refine cy [(0,_),(1,_)] Tryz.func96 kR Tryz.ntmps96 F F tU fun B hok hB hW=>?_
   repeat' (first | refine jM ?_ | (refine jo ?_;first | refine jO fun _=>?_ | refine jL fun _=>?_ | refine ah F ?_ | refine jD F F F ?_ | refine jV (dk F F) ?_))
   rename_i x2 x3 x4
   refine jo ?_
   refine cz (fi:=[]) (ca:=[Pt x2 0]) (az:=[]) F F ?_
   repeat' (first | refine jR ?_ | (refine jo ?_;first | refine ah F ?_ | refine aB F ?_ | refine ab F F F cx_sign F ?_) | refine ac F F ?_ | (refine ad F (by first | rfl | (refine decide_eq_false ?_;(omega))) ?_))
   (refine aj (am (id:=26) [.blk x2 (.cells (List.toArray [Pt r 0]) fB (0,0))] (by intro y hy;simp only [List.mem_cons,List.not_mem_nil,or_false] at hy ⊢;simp [hy]) ai ?_);(refine jG (aa 5 1) 0 F (aq F F F) ?_);(refine jG (aa 5 3) 1 F (aq F F F) ?_);refine jA 2 F ?_;(refine af F F F cx_nb F ?_;rintro _ _ ⟨rfl,rfl⟩;dsimp only [zA,fA]);refine jK (aa 5 7) ?_;refine jA 3 F ?_;(refine af F F F cx_tkb F ?_;rintro _ _ ⟨rfl,rfl⟩;dsimp only [zA,fA]);refine jK (aa 5 15) ?_;refine jW 0 [4] (aa 5 31) ?_;refine jQ ?_)
   all_goals repeat' (first | refine jR ?_ | (refine jo ?_;first | refine jC F F F ?_ | refine jV (al F F) ?_ | refine ab F F F (ju oM) F ?_) | (refine ad F ?_ ?_;(focus ((simp [*];done);done))))
   all_goals
    refine dc (.inl F) F (cK (x0:=x2) (r:=r) (sc:=sc) (s:=(q.drop m)) (b:=false) (a:=none) (n:=0) (c:=0) (d:=d + 1) oM) F ?_
    rintro v G' L' ⟨rfl,rfl⟩
    dsimp only [zA,fA]
    exact ⟨[_],[bI r sc (q.drop m) false none 0 0 (d + 1 - 1)],⟨aF F F F F,trivial⟩,sB,Gh.le.refl _,cJ (c:=⟨116,q.take m,0,none,0,0⟩) (bq dC dC) oM (fun _=>⟨F,F,F⟩) ⟨oM,fun _=>⟨F,hrd⟩,fun h=>(by cases h)⟩⟩
  | false =>
   rw [hti] at hrd
   rw [if_neg (by simp)] at hrd
   refine cy [(0,_),(1,_)] Tryz.func96 kR Tryz.ntmps96 F F tU fun B hok hB hW=>?_
   repeat' (first | refine jM ?_ | (refine jo ?_;first | refine jO fun _=>?_ | refine jL fun _=>?_ | refine ah F ?_ | refine jD F F F ?_ | refine jV (dk F F) ?_))
   rename_i x2 x3 x4
   refine jo ?_
   refine cz (fi:=[]) (ca:=[Pt x2 0]) (az:=[]) F F ?_
   repeat' (first | refine jR ?_ | (refine jo ?_;first | refine ah F ?_ | refine aB F ?_ | refine ab F F F cx_sign F ?_) | refine ac F F ?_ | (refine ad F (by first | rfl | (refine decide_eq_false ?_;(omega))) ?_))
   (refine aj (am (id:=26) [.blk x2 (.cells (List.toArray [Pt r 0]) fB (0,0))] (by intro y hy;simp only [List.mem_cons,List.not_mem_nil,or_false] at hy ⊢;simp [hy]) ai ?_);(refine jG (aa 5 1) 0 F (aq F F F) ?_);(refine jG (aa 5 3) 1 F (aq F F F) ?_);refine jA 2 F ?_;(refine af F F F cx_nb F ?_;rintro _ _ ⟨rfl,rfl⟩;dsimp only [zA,fA]);refine jK (aa 5 7) ?_;refine jA 3 F ?_;(refine af F F F cx_tkb F ?_;rintro _ _ ⟨rfl,rfl⟩;dsimp only [zA,fA]);refine jK (aa 5 15) ?_;refine jW 0 [4] (aa 5 31) ?_;refine jQ ?_)
   all_goals repeat' (first | refine jR ?_ | (refine jo ?_;first | refine ah F ?_ | refine jD F F F ?_ | refine jC F F F ?_ | refine jV (al F F) ?_ | refine ab F F F (ju oM) F ?_) | (refine ac F ?_ ?_;(focus ((simp [*];done);done))))
   all_goals
    refine dc (.inl F) F (cK (x0:=x2) (r:=r) (sc:=sc) (s:=(q.drop m)) (b:=true) (a:=none) (n:=0) (c:=0) (d:=d + 1) oM) F ?_
    rintro v G' L' ⟨rfl,rfl⟩
    dsimp only [zA,fA]
    exact ⟨[_],[bI r sc (q.drop m) true none 0 0 (d + 1 - 1)],⟨aF F F F F,trivial⟩,sB,Gh.le.refl _,cJ (c:=⟨116,q.take m,0,none,0,0⟩) (bq dC dC) oM (fun _=>⟨F,F,F⟩) ⟨oM,fun h=>(by cases h),fun _=>.inr hrd⟩⟩
theorem lN {p : Nat} {t : Ty} {m : Int} (hT : iD G p t) (hw : TyW t) (hm : 0 ≤ m ∧ m ≤ 999999) : an ac7 130 [Pt p 0,I m] G (fun v=>∃ q,v = .pointer q):=by
 have hfl:=hw.len
 cases hft : bR t.fields m with
 | none =>
  obtain ⟨fv,ln,h1,h2⟩:=hT
  exact (d6 h1 h2 oM hft).mono fun v G' L' h=>⟨h.1,h.2.1,_,h.2.2⟩
 | some f =>
  obtain ⟨fv,ln,h1,h2⟩:=hT
  obtain ⟨j,hj,hjn,hjt,hjd⟩:=eA hft
  obtain ⟨bf,of,cf,rfl,hsf⟩:=h2.expl oM
  exact (eW h1 hsf oM hj hjn hjt).mono fun v G' L' h=>⟨h.1,h.2.1,_,h.2.2⟩
theorem ab6 {n r sc p : Nat} {qs : List cF} {t : Ty} {x s : ac8} {d : Int} (hd : d = 12 - (n : Int)) (hn : n ≤ 12) (hS : ScI G sc qs) (hkv : lW (gB qs) x = some (Pt p 0)) (hT : iD G p t) (hw : TyW t) (hso : t.sort = 69) (hs : s.length ≤ 1000) :
  dq ac7 96 [Pt r 0,Ag [S [],S [64],S x]] G [bI r sc s false none 0 0 d] (kv (bZ (ao qs) (rb (ao qs) n) t) r sc s false d):=by
 obtain ⟨u,m,g1,g2,g3⟩:=hS.at'
 obtain ⟨fv,ln,h1,h2⟩:=hT
 have hfl:=hw.len
 have hso' : (t.sort : Int) = 69:=oM
 have cx_sign:=@dD G [64] x
 have hrd : bZ (ao qs) (rb (ao qs) n) t s = match bj s with
   | none=>none
   | some (m,r)=>match bR t.fields m with
    | none=>none
    | some d=>some (.nd 69 [] d.tag [],r):=by
  unfold bZ
  rw [if_neg oM]
  rcases bj s with _ | ⟨m,r⟩
  ·rfl
  ·dsimp only
   rcases bR t.fields m with _ | d
   ·rfl
   ·dsimp only;rw [if_pos hso]
 cases hg : bj s with
 | none =>
  rw [hg] at hrd
  have cx_nb:=fU (G:=G) (r:=r) (sc:=sc) (m:=0) (c:=0) (b:=false) (a:=none) (d:=d + 1) hg hs
  have cx_fld:=d6 h1 h2 oM (kg hw)
  refine cy [(0,_),(1,_)] Tryz.func96 kR Tryz.ntmps96 F F tU fun B hok hB hW=>?_
  repeat' (first | refine jM ?_ | (refine jo ?_;first | refine jO fun _=>?_ | refine jL fun _=>?_ | refine ah F ?_ | refine jD F F F ?_ | refine jV (dk F F) ?_))
  rename_i x2 x3 x4
  refine jo ?_
  refine cz (fi:=[]) (ca:=[Pt x2 0]) (az:=[]) F F ?_
  repeat' (first | refine jR ?_ | (refine jo ?_;first | refine jL fun _=>?_ | refine ah F ?_ | refine aB F ?_ | refine jV (aL F F aS F F) ?_ | refine jD F F F ?_ | refine jC F F F ?_ | refine jV (al F F) ?_ | refine jV (cC F F) ?_ | refine ab F F F cx_sign F ?_ | (refine af F F F cx_nb F ?_;rintro _ _ ⟨rfl,rfl⟩;dsimp only [zA,fA]) | refine ab F F F cx_fld F ?_) | (refine ac F (by first | rfl | (refine decide_eq_true ?_;(assumption))) ?_) | (refine ad F (by first | rfl | (refine decide_eq_false ?_;(omega))) ?_) | (refine aj (am (id:=34) _ (fun _ h=>h) ai ?_);refine jT 10 [7] (aa 11 128) ?_;(refine jG (aa 11 129) 0 F (aq F F F) ?_);refine jT 7 [1,2] (aa 11 135) ?_;(refine jG (aa 11 143) 3 F (aq F F F) ?_);refine jT 4 [4,5] (aa 11 191) ?_;(refine jG (aa 11 255) 6 F (aL F F aS F F) ?_);(refine jG (aa 11 511) 8 F (aq F F F) ?_);((refine jG (aa 11 1023) 9 F (cG F F (eN aS) aS F) ?_));refine jT 0 [10] (aa 11 2047) ?_;refine jQ ?_))
  all_goals
   refine dc (.inl F) F (cK (x0:=x2) (r:=r) (sc:=sc) (s:=[]) (b:=true) (a:=none) (n:=0) (c:=0) (d:=d + 1) oM) F ?_
   rintro v G' L' ⟨rfl,rfl⟩
   dsimp only [zA,fA]
   exact ⟨[_],[bI r sc [] true none 0 0 (d + 1 - 1)],⟨aF F F F F,trivial⟩,sB,Gh.le.refl _,cJ (c:=⟨69,[],0,none,0,0⟩) (bq dC dC) oM (fun _=>⟨F,F,F⟩) ⟨by simp,fun h=>(by cases h),fun _=>.inr hrd⟩⟩
 | some z =>
  obtain ⟨m,q⟩:=z
  obtain ⟨hm0,hm1,_⟩:=cn hg
  have hl:=bE hg
  rw [hg] at hrd
  dsimp only at hrd
  have cx_nb:=eo (G:=G) (r:=r) (sc:=sc) (m:=0) (c:=0) (b:=false) (a:=none) (d:=d + 1) hg hs
  cases hft : bR t.fields m with
  | none =>
   rw [hft] at hrd
   have cx_fld:=d6 h1 h2 oM hft
   refine cy [(0,_),(1,_)] Tryz.func96 kR Tryz.ntmps96 F F tU fun B hok hB hW=>?_
   repeat' (first | refine jM ?_ | (refine jo ?_;first | refine jO fun _=>?_ | refine jL fun _=>?_ | refine ah F ?_ | refine jD F F F ?_ | refine jV (dk F F) ?_))
   rename_i x2 x3 x4
   refine jo ?_
   refine cz (fi:=[]) (ca:=[Pt x2 0]) (az:=[]) F F ?_
   repeat' (first | refine jR ?_ | (refine jo ?_;first | refine jL fun _=>?_ | refine ah F ?_ | refine aB F ?_ | refine jV (aL F F aS F F) ?_ | refine jD F F F ?_ | refine jC F F F ?_ | refine jV (al F F) ?_ | refine jV (cC F F) ?_ | refine ab F F F cx_sign F ?_ | (refine af F F F cx_nb F ?_;rintro _ _ ⟨rfl,rfl⟩;dsimp only [zA,fA]) | refine ab F F F cx_fld F ?_) | (refine ac F (by first | rfl | (refine decide_eq_true ?_;(assumption))) ?_) | (refine ad F (by first | rfl | (refine decide_eq_false ?_;(omega))) ?_) | (refine aj (am (id:=34) _ (fun _ h=>h) ai ?_);refine jT 10 [7] (aa 11 128) ?_;(refine jG (aa 11 129) 0 F (aq F F F) ?_);refine jT 7 [1,2] (aa 11 135) ?_;(refine jG (aa 11 143) 3 F (aq F F F) ?_);refine jT 4 [4,5] (aa 11 191) ?_;(refine jG (aa 11 255) 6 F (aL F F aS F F) ?_);(refine jG (aa 11 511) 8 F (aq F F F) ?_);((refine jG (aa 11 1023) 9 F (cG F F (eN aS) aS F) ?_));refine jT 0 [10] (aa 11 2047) ?_;refine jQ ?_))
   all_goals
    refine dc (.inl F) F (cK (x0:=x2) (r:=r) (sc:=sc) (s:=q) (b:=true) (a:=none) (n:=0) (c:=0) (d:=d + 1) oM) F ?_
    rintro v G' L' ⟨rfl,rfl⟩
    dsimp only [zA,fA]
    exact ⟨[_],[bI r sc q true none 0 0 (d + 1 - 1)],⟨aF F F F F,trivial⟩,sB,Gh.le.refl _,cJ (c:=⟨69,[],m,none,0,0⟩) (bq dC oM) oM (fun _=>⟨F,F,F⟩) ⟨oM,fun h=>(by cases h),fun _=>.inr hrd⟩⟩
  | some f =>
   rw [hft] at hrd
   obtain ⟨j,hj,hjn,hjt,hjd⟩:=eA hft
   obtain ⟨bf,of,cf,rfl,hsf⟩:=h2.expl oM
   have cx_fld:=eW h1 hsf oM hj hjn hjt
   have hft2 : f.tag = m:=by rw [← hjd];exact hjt
   dsimp only at hrd
   rw [hft2] at hrd
   refine cy [(0,_),(1,_)] Tryz.func96 kR Tryz.ntmps96 F F tU fun B hok hB hW=>?_
   repeat' (first | refine jM ?_ | (refine jo ?_;first | refine jO fun _=>?_ | refine jL fun _=>?_ | refine ah F ?_ | refine jD F F F ?_ | refine jV (dk F F) ?_))
   rename_i x2 x3 x4
   refine jo ?_
   refine cz (fi:=[]) (ca:=[Pt x2 0]) (az:=[]) F F ?_
   repeat' (first | refine jR ?_ | (refine jo ?_;first | refine jL fun _=>?_ | refine ah F ?_ | refine aB F ?_ | refine jV (aL F F aS F F) ?_ | refine jC F F F ?_ | refine jV (al F F) ?_ | refine jV (cC F F) ?_ | refine ab F F F cx_sign F ?_ | (refine af F F F cx_nb F ?_;rintro _ _ ⟨rfl,rfl⟩;dsimp only [zA,fA]) | refine ab F F F cx_fld F ?_) | refine ac F (ay ‹_›) ?_ | (refine ad F (by first | rfl | (refine decide_eq_false ?_;(omega))) ?_) | (refine aj (am (id:=34) _ (fun _ h=>h) ai ?_);refine jT 10 [7] (aa 11 128) ?_;(refine jG (aa 11 129) 0 F (aq F F F) ?_);refine jT 7 [1,2] (aa 11 135) ?_;(refine jG (aa 11 143) 3 F (aq F F F) ?_);refine jT 4 [4,5] (aa 11 191) ?_;(refine jG (aa 11 255) 6 F (aL F F aS F F) ?_);(refine jG (aa 11 511) 8 F (aq F F F) ?_);((refine jG (aa 11 1023) 9 F (cG F F (eN aS) aS F) ?_));refine jT 0 [10] (aa 11 2047) ?_;refine jQ ?_))
   all_goals
    refine dc (.inl F) F (cK (x0:=x2) (r:=r) (sc:=sc) (s:=q) (b:=false) (a:=none) (n:=0) (c:=0) (d:=d + 1) oM) F ?_
    rintro v G' L' ⟨rfl,rfl⟩
    dsimp only [zA,fA]
    exact ⟨[_],[bI r sc q false none 0 0 (d + 1 - 1)],⟨aF F F F F,trivial⟩,sB,Gh.le.refl _,cJ (c:=⟨69,[],m,none,0,0⟩) (bq dC oM) oM (fun _=>⟨F,F,F⟩) ⟨oM,fun _=>⟨F,hrd⟩,fun h=>(by cases h)⟩⟩
theorem v5 {n r sc p : Nat} {qs : List cF} {t : Ty} {x s q : ac8} {m : Int} {d : Int} (hd : d = 12 - (n : Int)) (hn : n ≤ 12) (hS : ScI G sc qs) (hkv : lW (gB qs) x = some (Pt p 0)) (hT : iD G p t) (hw : TyW t) (hso : t.sort = 85) (hs : s.length ≤ 1000) (hg : bj s = some (m,q)) (ht : b5 q = none) (hrd : bZ (ao qs) (rb (ao qs) n) t s = none) :
  dq ac7 96 [Pt r 0,Ag [S [],S [64],S x]] G [bI r sc s false none 0 0 d] (kv (bZ (ao qs) (rb (ao qs) n) t) r sc s false d):=by
 obtain ⟨u,m2,g1,g2,g3⟩:=hS.at'
 have hso' : (t.sort : Int) = 85:=oM
 have cx_sign:=@dD G [64] x
 obtain ⟨hm0,hm1,_⟩:=cn hg
 have hl:=bE hg
 have cx_nb:=eo (G:=G) (r:=r) (sc:=sc) (m:=0) (c:=0) (b:=false) (a:=none) (d:=d + 1) hg hs
 have cx_fldg:=lN hT hw ⟨hm0,hm1⟩
 obtain ⟨fv,ln,h1,h2⟩:=hT
 rcases fD (s:=q) with ⟨hg2,ht2⟩ | ⟨m3,q2,hg2,hm,⟨hl3,ht2⟩ | ⟨hl3,ht2⟩⟩
 ·have cx_nb2:=fU (G:=G) (r:=r) (sc:=sc) (m:=0) (c:=0) (b:=false) (a:=none) (d:=d + 1) hg2 oM
  have cx_tkb:=fJ (G:=G) (r:=r) (sc:=sc) (m:=0) (n:=0) (c:=0) (s:=[]) (b:=true) (a:=none) (d:=d + 1) (.inl rfl) ⟨by simp,oM⟩
  have cx_tkb : bM ac7 42 [Pt r 0,I 0] G [bI r sc [] true none 0 0 (d + 1)] (fun v L'=>v = S [] ∧ L' = [bI r sc [] true none 0 0 (d + 1)]):=cx_tkb
  refine cy [(0,_),(1,_)] Tryz.func96 kR Tryz.ntmps96 F F tU fun B hok hB hW=>?_
  repeat' (first | refine jM ?_ | (refine jo ?_;first | refine jO fun _=>?_ | refine jL fun _=>?_ | refine ah F ?_ | refine jD F F F ?_ | refine jV (dk F F) ?_))
  rename_i x2 x3 x4
  refine jo ?_
  refine cz (fi:=[]) (ca:=[Pt x2 0]) (az:=[]) F F ?_
  repeat' (first | refine jR ?_ | (refine jo ?_;first | refine ah F ?_ | refine aB F ?_ | refine ab F F F cx_sign F ?_) | (refine ad F (by first | rfl | (refine decide_eq_false ?_;(omega))) ?_))
  (refine aj (am (id:=34) _ (fun _ h=>h) ai ?_);refine jT 10 [7] (aa 11 128) ?_;(refine jG (aa 11 129) 0 F (aq F F F) ?_);refine jT 7 [1,2] (aa 11 135) ?_;(refine jG (aa 11 143) 3 F (aq F F F) ?_);refine jT 4 [4,5] (aa 11 191) ?_;(refine jG (aa 11 255) 6 F (aL F F aS F F) ?_);(refine jG (aa 11 511) 8 F (aq F F F) ?_);((refine jG (aa 11 1023) 9 F (cG F F (eN aS) aS F) ?_));refine jT 0 [10] (aa 11 2047) ?_;refine jQ ?_)
  all_goals repeat' (first | refine jR ?_ | (refine jo ?_;first | refine ah F ?_ | refine jV (aL F F aS F F) ?_ | (refine af F F F cx_nb F ?_;rintro _ _ ⟨rfl,rfl⟩;dsimp only [zA,fA])) | refine ac F (ay ‹_›) ?_ | refine ad F (aC oM) ?_)
  (refine aj (am (id:=43) [.blk x2 (.cells (List.toArray [Pt r 0]) fB (0,0))] (by intro y hy;simp only [List.mem_cons,List.not_mem_nil,or_false] at hy ⊢;simp [hy]) ai ?_);(refine jG (aa 5 1) 0 F (aq F F F) ?_);(refine jG (aa 5 3) 1 F (aq F F F) ?_);refine jA 2 F ?_;(refine af F F F cx_nb2 F ?_;rintro _ _ ⟨rfl,rfl⟩;dsimp only [zA,fA]);refine jK (aa 5 7) ?_;refine jA 3 F ?_;(refine af F F F cx_tkb F ?_;rintro _ _ ⟨rfl,rfl⟩;dsimp only [zA,fA]);refine jK (aa 5 15) ?_;refine jW 0 [4] (aa 5 31) ?_;refine jQ ?_)
  repeat' (refine jR ?_)
  refine jo ?_
  refine cN F F F cx_fldg F ?_
  rintro _ ⟨q9,rfl⟩
  cases q9
  all_goals repeat' (first | refine jR ?_ | (refine jo ?_;first | refine ah F ?_ | refine jD F F F ?_ | refine jC F F F ?_ | refine jV (al F F) ?_ | refine aG F ?_ | refine ar F ?_ | refine jV (cC F F) ?_) | refine ax F F F ?_ | refine ak F F F ?_ | refine ac F F ?_)
  all_goals
   refine dc (.inl F) F (cK (x0:=x2) (r:=r) (sc:=sc) (s:=[]) (b:=true) (a:=none) (n:=0) (c:=0) (d:=d + 1) oM) F ?_
   rintro v G' L' ⟨rfl,rfl⟩
   dsimp only [zA,fA]
   exact ⟨[_],[bI r sc [] true none 0 0 (d + 1 - 1)],⟨aF F F F F,trivial⟩,sB,Gh.le.refl _,cJ (c:=⟨0,[],0,none,0,0⟩) fC oM (fun _=>⟨F,F,F⟩) ⟨by simp,fun h=>(by cases h),fun _=>.inr hrd⟩⟩
 ·have hl4:=bE hg2
  have cx_nb2:=eo (G:=G) (r:=r) (sc:=sc) (m:=0) (c:=0) (b:=false) (a:=none) (d:=d + 1) hg2 oM
  have cx_tkb:=fJ (G:=G) (r:=r) (sc:=sc) (m:=m3) (n:=0) (c:=0) (s:=q2) (b:=false) (a:=none) (d:=d + 1) (.inr hl3) ⟨oM,oM⟩
  refine cy [(0,_),(1,_)] Tryz.func96 kR Tryz.ntmps96 F F tU fun B hok hB hW=>?_
  repeat' (first | refine jM ?_ | (refine jo ?_;first | refine jO fun _=>?_ | refine jL fun _=>?_ | refine ah F ?_ | refine jD F F F ?_ | refine jV (dk F F) ?_))
  rename_i x2 x3 x4
  refine jo ?_
  refine cz (fi:=[]) (ca:=[Pt x2 0]) (az:=[]) F F ?_
  repeat' (first | refine jR ?_ | (refine jo ?_;first | refine ah F ?_ | refine aB F ?_ | refine ab F F F cx_sign F ?_) | (refine ad F (by first | rfl | (refine decide_eq_false ?_;(omega))) ?_))
  (refine aj (am (id:=34) _ (fun _ h=>h) ai ?_);refine jT 10 [7] (aa 11 128) ?_;(refine jG (aa 11 129) 0 F (aq F F F) ?_);refine jT 7 [1,2] (aa 11 135) ?_;(refine jG (aa 11 143) 3 F (aq F F F) ?_);refine jT 4 [4,5] (aa 11 191) ?_;(refine jG (aa 11 255) 6 F (aL F F aS F F) ?_);(refine jG (aa 11 511) 8 F (aq F F F) ?_);((refine jG (aa 11 1023) 9 F (cG F F (eN aS) aS F) ?_));refine jT 0 [10] (aa 11 2047) ?_;refine jQ ?_)
  all_goals repeat' (first | refine jR ?_ | (refine jo ?_;first | refine ah F ?_ | refine jV (aL F F aS F F) ?_ | (refine af F F F cx_nb F ?_;rintro _ _ ⟨rfl,rfl⟩;dsimp only [zA,fA])) | refine ac F (ay ‹_›) ?_ | refine ad F (aC oM) ?_)
  (refine aj (am (id:=43) [.blk x2 (.cells (List.toArray [Pt r 0]) fB (0,0))] (by intro y hy;simp only [List.mem_cons,List.not_mem_nil,or_false] at hy ⊢;simp [hy]) ai ?_);(refine jG (aa 5 1) 0 F (aq F F F) ?_);(refine jG (aa 5 3) 1 F (aq F F F) ?_);refine jA 2 F ?_;(refine af F F F cx_nb2 F ?_;rintro _ _ ⟨rfl,rfl⟩;dsimp only [zA,fA]);refine jK (aa 5 7) ?_;refine jA 3 F ?_;(refine af F F F cx_tkb F ?_;rintro _ _ ⟨rfl,rfl⟩;dsimp only [zA,fA]);refine jK (aa 5 15) ?_;refine jW 0 [4] (aa 5 31) ?_;refine jQ ?_)
  repeat' (refine jR ?_)
  refine jo ?_
  refine cN F F F cx_fldg F ?_
  rintro _ ⟨q9,rfl⟩
  cases q9
  all_goals repeat' (first | refine jR ?_ | (refine jo ?_;first | refine ah F ?_ | refine jD F F F ?_ | refine jC F F F ?_ | refine jV (al F F) ?_ | refine aG F ?_ | refine ar F ?_ | refine jV (cC F F) ?_) | refine ax F F F ?_ | refine ak F F F ?_ | refine ac F F ?_)
  all_goals
   refine dc (.inl F) F (cK (x0:=x2) (r:=r) (sc:=sc) (s:=q2) (b:=true) (a:=none) (n:=0) (c:=0) (d:=d + 1) oM) F ?_
   rintro v G' L' ⟨rfl,rfl⟩
   dsimp only [zA,fA]
   exact ⟨[_],[bI r sc q2 true none 0 0 (d + 1 - 1)],⟨aF F F F F,trivial⟩,sB,Gh.le.refl _,cJ (c:=⟨0,[],0,none,0,0⟩) fC oM (fun _=>⟨F,F,F⟩) ⟨oM,fun h=>(by cases h),fun _=>.inr hrd⟩⟩
 ·rw [ht] at ht2;cases ht2
theorem abZ {n r sc p : Nat} {qs : List cF} {t : Ty} {x s : ac8} {d : Int} (hd : d = 12 - (n : Int)) (hn : n ≤ 12) (hU : qV n sc qs) (hS : ScI G sc qs) (hkv : lW (gB qs) x = some (Pt p 0)) (hT : iD G p t) (hw : TyW t) (hkf : ∀ d ∈ t.fields,aO (ao qs) d.kind = true) (hso : t.sort = 85) (hs : s.length ≤ 1000) :
  dq ac7 96 [Pt r 0,Ag [S [],S [64],S x]] G [bI r sc s false none 0 0 d] (kv (bZ (ao qs) (rb (ao qs) n) t) r sc s false d):=by
 obtain ⟨u,m2,g1,g2,g3⟩:=hS.at'
 have hT2:=hT
 obtain ⟨fv,ln,h1,h2⟩:=hT
 have hfl:=hw.len
 have hso' : (t.sort : Int) = 85:=oM
 have cx_sign:=@dD G [64] x
 have hrd : bZ (ao qs) (rb (ao qs) n) t s = match bj s with
   | none=>none
   | some (m,r)=>match bR t.fields m with
    | none=>none
    | some d=>match b5 r with
     | none=>none
     | some (p,r')=>(cQ (rb (ao qs) n) d.kind p).map fun v=>(.nd 85 [] d.tag [v],r'):=by
  unfold bZ
  rw [if_neg oM]
  rcases bj s with _ | ⟨m,r⟩
  ·rfl
  ·dsimp only
   rcases bR t.fields m with _ | d
   ·rfl
   ·dsimp only;rw [if_neg oM]
    all_goals (rcases b5 r with _ | ⟨p,r'⟩ <;> rfl)
 cases hg : bj s with
 | none =>
  rw [hg] at hrd
  have cx_nb:=fU (G:=G) (r:=r) (sc:=sc) (m:=0) (c:=0) (b:=false) (a:=none) (d:=d + 1) hg hs
  have cx_nb2:=fU (G:=G) (r:=r) (sc:=sc) (m:=0) (c:=0) (s:=[]) (b:=true) (a:=none) (d:=d + 1) rfl (by simp)
  have cx_tkb:=fJ (G:=G) (r:=r) (sc:=sc) (m:=0) (n:=0) (c:=0) (s:=[]) (b:=true) (a:=none) (d:=d + 1) (.inl rfl) ⟨by simp,oM⟩
  have cx_tkb : bM ac7 42 [Pt r 0,I 0] G [bI r sc [] true none 0 0 (d + 1)] (fun v L'=>v = S [] ∧ L' = [bI r sc [] true none 0 0 (d + 1)]):=cx_tkb
  have cx_fld:=d6 h1 h2 oM (kg hw)
  refine cy [(0,_),(1,_)] Tryz.func96 kR Tryz.ntmps96 F F tU fun B hok hB hW=>?_
  repeat' (first | refine jM ?_ | (refine jo ?_;first | refine jO fun _=>?_ | refine jL fun _=>?_ | refine ah F ?_ | refine jD F F F ?_ | refine jV (dk F F) ?_))
  rename_i x2 x3 x4
  refine jo ?_
  refine cz (fi:=[]) (ca:=[Pt x2 0]) (az:=[]) F F ?_
  repeat' (first | refine jR ?_ | (refine jo ?_;first | refine ah F ?_ | refine aB F ?_ | refine ab F F F cx_sign F ?_) | (refine ad F (by first | rfl | (refine decide_eq_false ?_;(omega))) ?_))
  (refine aj (am (id:=34) _ (fun _ h=>h) ai ?_);refine jT 10 [7] (aa 11 128) ?_;(refine jG (aa 11 129) 0 F (aq F F F) ?_);refine jT 7 [1,2] (aa 11 135) ?_;(refine jG (aa 11 143) 3 F (aq F F F) ?_);refine jT 4 [4,5] (aa 11 191) ?_;(refine jG (aa 11 255) 6 F (aL F F aS F F) ?_);(refine jG (aa 11 511) 8 F (aq F F F) ?_);((refine jG (aa 11 1023) 9 F (cG F F (eN aS) aS F) ?_));refine jT 0 [10] (aa 11 2047) ?_;refine jQ ?_)
  all_goals repeat' (first | refine jR ?_ | (refine jo ?_;first | refine ah F ?_ | refine jV (aL F F aS F F) ?_ | (refine af F F F cx_nb F ?_;rintro _ _ ⟨rfl,rfl⟩;dsimp only [zA,fA])) | refine ac F (ay ‹_›) ?_ | refine ad F (aC oM) ?_)
  (refine aj (am (id:=43) [.blk x2 (.cells (List.toArray [Pt r 0]) fB (0,0))] (by intro y hy;simp only [List.mem_cons,List.not_mem_nil,or_false] at hy ⊢;simp [hy]) ai ?_);(refine jG (aa 5 1) 0 F (aq F F F) ?_);(refine jG (aa 5 3) 1 F (aq F F F) ?_);refine jA 2 F ?_;(refine af F F F cx_nb2 F ?_;rintro _ _ ⟨rfl,rfl⟩;dsimp only [zA,fA]);refine jK (aa 5 7) ?_;refine jA 3 F ?_;(refine af F F F cx_tkb F ?_;rintro _ _ ⟨rfl,rfl⟩;dsimp only [zA,fA]);refine jK (aa 5 15) ?_;refine jW 0 [4] (aa 5 31) ?_;refine jQ ?_)
  all_goals repeat' (first | refine jR ?_ | (refine jo ?_;first | refine ah F ?_ | refine jD F F F ?_ | refine jC F F F ?_ | refine jV (al F F) ?_ | refine aG F ?_ | refine jV (cC F F) ?_ | refine ab F F F cx_fld F ?_) | refine ax F F F ?_ | refine ac F F ?_)
  all_goals
   refine dc (.inl F) F (cK (x0:=x2) (r:=r) (sc:=sc) (s:=[]) (b:=true) (a:=none) (n:=0) (c:=0) (d:=d + 1) oM) F ?_
   rintro v G' L' ⟨rfl,rfl⟩
   dsimp only [zA,fA]
   exact ⟨[_],[bI r sc [] true none 0 0 (d + 1 - 1)],⟨aF F F F F,trivial⟩,sB,Gh.le.refl _,cJ (c:=⟨0,[],0,none,0,0⟩) fC oM (fun _=>⟨F,F,F⟩) ⟨by simp,fun h=>(by cases h),fun _=>.inr hrd⟩⟩
 | some z =>
  obtain ⟨m,q⟩:=z
  obtain ⟨hm0,hm1,_⟩:=cn hg
  have hl:=bE hg
  rw [hg] at hrd
  dsimp only at hrd
  rcases fD (s:=q) with ⟨hg2,ht⟩ | ⟨m3,q2,hg2,hm,⟨hl3,ht⟩ | ⟨hl3,ht⟩⟩
  ·refine v5 hd hn hS hkv hT2 hw hso hs hg ht ?_
   rw [hrd,ht]
   cases bR t.fields m <;> rfl
  ·refine v5 hd hn hS hkv hT2 hw hso hs hg ht ?_
   rw [hrd,ht]
   cases bR t.fields m <;> rfl
  have hl4:=bE hg2
  have hdl : (q2.drop m3).length = q2.length - m3:=List.length_drop
  have htl : (q2.take m3).length ≤ 1000:=by rw [List.length_take];omega
  have cx_nb:=eo (G:=G) (r:=r) (sc:=sc) (m:=0) (c:=0) (b:=false) (a:=none) (d:=d + 1) hg hs
  have cx_nb2:=eo (G:=G) (r:=r) (sc:=sc) (m:=0) (c:=0) (b:=false) (a:=none) (d:=d + 1) hg2 oM
  have cx_tkb:=jr (G:=G) (r:=r) (sc:=sc) (m:=m3) (n:=0) (c:=0) (s:=q2) (a:=none) (d:=d + 1) ⟨hl3,oM⟩
  cases hft : bR t.fields m with
  | none =>
   rw [hft] at hrd
   have cx_fld:=d6 h1 h2 oM hft
   refine cy [(0,_),(1,_)] Tryz.func96 kR Tryz.ntmps96 F F tU fun B hok hB hW=>?_
   repeat' (first | refine jM ?_ | (refine jo ?_;first | refine jO fun _=>?_ | refine jL fun _=>?_ | refine ah F ?_ | refine jD F F F ?_ | refine jV (dk F F) ?_))
   rename_i x2 x3 x4
   refine jo ?_
   refine cz (fi:=[]) (ca:=[Pt x2 0]) (az:=[]) F F ?_
   repeat' (first | refine jR ?_ | (refine jo ?_;first | refine ah F ?_ | refine aB F ?_ | refine ab F F F cx_sign F ?_) | (refine ad F (by first | rfl | (refine decide_eq_false ?_;(omega))) ?_))
   (refine aj (am (id:=34) _ (fun _ h=>h) ai ?_);refine jT 10 [7] (aa 11 128) ?_;(refine jG (aa 11 129) 0 F (aq F F F) ?_);refine jT 7 [1,2] (aa 11 135) ?_;(refine jG (aa 11 143) 3 F (aq F F F) ?_);refine jT 4 [4,5] (aa 11 191) ?_;(refine jG (aa 11 255) 6 F (aL F F aS F F) ?_);(refine jG (aa 11 511) 8 F (aq F F F) ?_);((refine jG (aa 11 1023) 9 F (cG F F (eN aS) aS F) ?_));refine jT 0 [10] (aa 11 2047) ?_;refine jQ ?_)
   all_goals repeat' (first | refine jR ?_ | (refine jo ?_;first | refine ah F ?_ | refine jV (aL F F aS F F) ?_ | (refine af F F F cx_nb F ?_;rintro _ _ ⟨rfl,rfl⟩;dsimp only [zA,fA])) | refine ac F (ay ‹_›) ?_ | refine ad F (aC oM) ?_)
   (refine aj (am (id:=43) [.blk x2 (.cells (List.toArray [Pt r 0]) fB (0,0))] (by intro y hy;simp only [List.mem_cons,List.not_mem_nil,or_false] at hy ⊢;simp [hy]) ai ?_);(refine jG (aa 5 1) 0 F (aq F F F) ?_);(refine jG (aa 5 3) 1 F (aq F F F) ?_);refine jA 2 F ?_;(refine af F F F cx_nb2 F ?_;rintro _ _ ⟨rfl,rfl⟩;dsimp only [zA,fA]);refine jK (aa 5 7) ?_;refine jA 3 F ?_;(refine af F F F cx_tkb F ?_;rintro _ _ ⟨rfl,rfl⟩;dsimp only [zA,fA]);refine jK (aa 5 15) ?_;refine jW 0 [4] (aa 5 31) ?_;refine jQ ?_)
   all_goals repeat' (first | refine jR ?_ | (refine jo ?_;first | refine ah F ?_ | refine jD F F F ?_ | refine jC F F F ?_ | refine jV (al F F) ?_ | refine aG F ?_ | refine jV (cC F F) ?_ | refine ab F F F cx_fld F ?_) | refine ax F F F ?_ | refine ac F F ?_)
   all_goals
    refine dc (.inl F) F (cK (x0:=x2) (r:=r) (sc:=sc) (s:=(q2.drop m3)) (b:=true) (a:=none) (n:=0) (c:=0) (d:=d + 1) oM) F ?_
    rintro v G' L' ⟨rfl,rfl⟩
    dsimp only [zA,fA]
    exact ⟨[_],[bI r sc (q2.drop m3) true none 0 0 (d + 1 - 1)],⟨aF F F F F,trivial⟩,sB,Gh.le.refl _,cJ (c:=⟨0,[],0,none,0,0⟩) fC oM (fun _=>⟨F,F,F⟩) ⟨oM,fun h=>(by cases h),fun _=>.inr hrd⟩⟩
  | some f =>
   rw [hft] at hrd
   obtain ⟨j,hj,hjn,hjt,hjd⟩:=eA hft
   obtain ⟨bf,of,cf,rfl,hsf⟩:=h2.expl oM
   have cx_fld:=eW h1 hsf oM hj hjn hjt
   have hft2 : f.tag = m:=by rw [← hjd];exact hjt
   dsimp only at hrd
   rw [ht,hft2] at hrd
   dsimp only at hrd
   subst hjd
   have cx_prt:=t5 (G:=G) (r:=r) (sc:=sc) (m:=0) (c:=0) (a:=none) (s:=q2.drop m3) (k:=(ae t.fields j).kind) (p:=q2.take m3) (d:=d + 1) oM oM hU hS (hkf _ (bP hj)) htl
   refine cy [(0,_),(1,_)] Tryz.func96 kR Tryz.ntmps96 F F tU fun B hok hB hW=>?_
   repeat' (first | refine jM ?_ | (refine jo ?_;first | refine jO fun _=>?_ | refine jL fun _=>?_ | refine ah F ?_ | refine jD F F F ?_ | refine jV (dk F F) ?_))
   rename_i x2 x3 x4
   refine jo ?_
   refine cz (fi:=[]) (ca:=[Pt x2 0]) (az:=[]) F F ?_
   repeat' (first | refine jR ?_ | (refine jo ?_;first | refine ah F ?_ | refine aB F ?_ | refine ab F F F cx_sign F ?_) | (refine ad F (by first | rfl | (refine decide_eq_false ?_;(omega))) ?_))
   (refine aj (am (id:=34) _ (fun _ h=>h) ai ?_);refine jT 10 [7] (aa 11 128) ?_;(refine jG (aa 11 129) 0 F (aq F F F) ?_);refine jT 7 [1,2] (aa 11 135) ?_;(refine jG (aa 11 143) 3 F (aq F F F) ?_);refine jT 4 [4,5] (aa 11 191) ?_;(refine jG (aa 11 255) 6 F (aL F F aS F F) ?_);(refine jG (aa 11 511) 8 F (aq F F F) ?_);((refine jG (aa 11 1023) 9 F (cG F F (eN aS) aS F) ?_));refine jT 0 [10] (aa 11 2047) ?_;refine jQ ?_)
   all_goals repeat' (first | refine jR ?_ | (refine jo ?_;first | refine ah F ?_ | refine jV (aL F F aS F F) ?_ | (refine af F F F cx_nb F ?_;rintro _ _ ⟨rfl,rfl⟩;dsimp only [zA,fA])) | refine ac F (ay ‹_›) ?_ | refine ad F (aC oM) ?_)
   (refine aj (am (id:=43) [.blk x2 (.cells (List.toArray [Pt r 0]) fB (0,0))] (by intro y hy;simp only [List.mem_cons,List.not_mem_nil,or_false] at hy ⊢;simp [hy]) ai ?_);(refine jG (aa 5 1) 0 F (aq F F F) ?_);(refine jG (aa 5 3) 1 F (aq F F F) ?_);refine jA 2 F ?_;(refine af F F F cx_nb2 F ?_;rintro _ _ ⟨rfl,rfl⟩;dsimp only [zA,fA]);refine jK (aa 5 7) ?_;refine jA 3 F ?_;(refine af F F F cx_tkb F ?_;rintro _ _ ⟨rfl,rfl⟩;dsimp only [zA,fA]);refine jK (aa 5 15) ?_;refine jW 0 [4] (aa 5 31) ?_;refine jQ ?_)
   all_goals repeat' (first | refine jR ?_ | (refine jo ?_;first | refine ah F ?_ | refine ar F ?_ | refine jV (cC F F) ?_ | refine ab F F F cx_fld F ?_) | refine ak F F F ?_ | refine ad F F ?_)
   (refine aj (am (id:=48) [.blk x2 (.cells (List.toArray [Pt r 0]) fB (0,0))] (by intro y hy;simp only [List.mem_cons,List.not_mem_nil,or_false] at hy ⊢;simp [hy]) ai ?_);refine jW 11 [0,2,3,4,6] (aa 16 93) ?_;(refine jG (aa 16 95) 1 F (aq F F F) ?_);((refine jG (aa 16 127) 5 F (iu F F aS ?_ F F) ?_;focus omega));refine jA 7 F ?_;(refine cI F F F cx_prt F ?_;rintro _ G1 _ hle ⟨u1,c1,b1,rfl,hrep,rfl,hQ2,hQ3⟩;dsimp only [zA,fA];skip);refine jK (aa 16 255) ?_;refine bA [8,9] kR dC ⟨?_,?_,trivial⟩;(focus (refine aM F F ?_;(refine jF fun _=>?_);refine jK (aa 16 511) ?_;refine jA 9 F ?_;(refine jC F F F ?_);refine jK (aa 16 1023) ?_;refine jW 5 [10] (aa 16 2047) ?_;refine jA 11 F ?_;(refine jD F F F ?_);refine jK (aa 16 4095) ?_;refine jW 3 [12] (aa 16 8191) ?_;refine jA 13 F ?_;(refine jD F F F ?_);refine jK (aa 16 16383) ?_;refine jW 1 [14] (aa 16 32767) ?_;refine jA 15 F ?_;(refine jD F F F ?_);refine jK (aa 16 65535) ?_;refine jQ ?_));rotate_left 1;(focus (refine aM F F ?_;(refine jC F F F ?_);refine jK (aa 16 767) ?_;refine jW 6 [10] (aa 16 1791) ?_;refine bA [8,11] kR dC ⟨?_,?_,trivial⟩;(focus (refine aM F F ?_;(refine jF fun _=>?_);refine jK (aa 16 2047) ?_;refine jA 11 F ?_;(refine jD F F F ?_);refine jK (aa 16 4095) ?_;refine jW 3 [12] (aa 16 8191) ?_;refine jA 13 F ?_;(refine jD F F F ?_);refine jK (aa 16 16383) ?_;refine jW 1 [14] (aa 16 32767) ?_;refine jA 15 F ?_;(refine jD F F F ?_);refine jK (aa 16 65535) ?_;refine jQ ?_));rotate_left 1;(focus (refine aM F F ?_;(refine jD F F F ?_);refine jK (aa 16 3839) ?_;refine jW 4 [12] (aa 16 7935) ?_;refine bA [8,13] kR dC ⟨?_,?_,trivial⟩;(focus (refine aM F F ?_;(refine jF fun _=>?_);refine jK (aa 16 8191) ?_;refine jA 13 F ?_;(refine jD F F F ?_);refine jK (aa 16 16383) ?_;refine jW 1 [14] (aa 16 32767) ?_;refine jA 15 F ?_;(refine jD F F F ?_);refine jK (aa 16 65535) ?_;refine jQ ?_));rotate_left 1;(focus (refine aM F F ?_;(refine jD F F F ?_);refine jK (aa 16 16127) ?_;refine jA 8 F ?_;(refine jF fun _=>?_);refine jK (aa 16 16383) ?_;refine jW 1 [14] (aa 16 32767) ?_;refine jA 15 F ?_;(refine jD F F F ?_);refine jK (aa 16 65535) ?_;refine jQ ?_));rotate_left 1));rotate_left 2));rotate_left 3)
   all_goals repeat' (refine jR ?_)
   all_goals
    rename_i y
    refine Nx.sealC (b:=y) fun G2 hG2 hsy=>?_
    have hsl : be G2 (.slice (some ⟨y,0,none⟩) 1 1) 4 ([c1] : List VC).length (aE ck [c1]):=⟨rfl,.inr ⟨y,0,1,rfl,Nat.le_refl _,hsy⟩⟩
    refine dc (.inl F) F (cK (x0:=x2) (r:=r) (sc:=sc) (s:=(q2.drop m3)) (b:=b1) (a:=none) (n:=0) (c:=0) (d:=d + 1) oM) F ?_
    rintro v G' L' ⟨rfl,rfl⟩
    dsimp only [zA,fA]
    exact ⟨[_],[bI r sc (q2.drop m3) b1 none 0 0 (d + 1 - 1)],⟨aF F F F F,trivial⟩,sB,(hle.trans hG2),cJ (c:=⟨85,[],m,some ⟨y,0,none⟩,1,1⟩) (c0 (ks:=[u1]) dC oM (fun _=>rfl) F hsl ⟨_,[],F,ge hG2 hrep,F⟩) oM (fun _=>⟨F,F,F⟩) ⟨oM,fun h=>⟨F,by rw [hrd,(hQ2 h).1];rfl⟩,fun h=>.inr (by rw [hrd,hQ3 h];rfl)⟩⟩
abbrev uq : TypeId:=83
abbrev xG : TypeId:=3
theorem aa0 {n r sc p : Nat} {qs : List cF} {t : Ty} {s : ac8} {d : Int} (hd : d = 13 - (n : Int)) (hn : n ≤ 12) (hU : qV n sc qs) (hS : ScI G sc qs) (hW0 : SchW (ao qs)) (hT : iD G p t) (hw : TyW t) (hkf : ∀ d ∈ t.fields,aO (ao qs) d.kind = true) (hs : s.length ≤ 1000) :
  dq ac7 139 [Pt r 0,Pt p 0] G [bI r sc s false none 0 0 d] (fun v G' L'=>∃ u c s' b' a m k,v = Ag (ck c) ∧ V.rep G' u c ∧ L' = [bI r sc s' b' a m k d] ∧ (d ≠ 1 → a = none ∧ m = 0 ∧ k = 0) ∧ sW (fun s=>(bN (ao qs) (rb (ao qs) n) t (s.length + 1) 0 s []).map fun x=>(.nd 82 [] 0 x.1,x.2)) s false u s' b'):=by
 have hT2:=hT
 obtain ⟨fv,ln,h1',h2⟩:=hT
 have hfl:=hw.len
 refine bL [(0,_),(1,_)] Tryz.func139 kR Tryz.ntmps139 F F tU fun B hB hW=>?_
 repeat' (first | refine jR ?_ | (refine jo ?_;first | refine jL fun _=>?_ | refine jV (al F F) ?_ | refine jC F F F ?_))
 rename_i x4 x5
 refine Nx.addNil uq 4 (Nx.addNil xG 1 (Nx.perm (List.perm_append_comm (l₁:=[_,_,_,_]) (l₂:=[_])) ?_))
 dsimp only [zA,fA]
 refine aT (ι:=List V × List VC × Option Addr × Nat × List Int × Option Addr × Nat × ac8 × Bool × Nat × Int × Gh) (fun y=>(V.reps y.2.2.2.2.2.2.2.2.2.2.2 y.1 y.2.1 ∧ Gh.le G y.2.2.2.2.2.2.2.2.2.2.2) ∧ (y.2.2.2.2.2.2.2.2.1 = false → bN (ao qs) (rb (ao qs) n) t (s.length + 1) 0 s [] = bN (ao qs) (rb (ao qs) n) t y.2.2.2.2.2.2.2.2.2.1 y.2.2.2.2.2.2.2.2.2.2.1 y.2.2.2.2.2.2.2.1 y.1 ∧ y.2.2.2.2.2.2.2.1.length < y.2.2.2.2.2.2.2.2.2.1) ∧ (y.2.2.2.2.2.2.2.2.1 = true → bN (ao qs) (rb (ao qs) n) t (s.length + 1) 0 s [] = none) ∧ (y.1.length + y.2.2.2.2.1.length + y.2.2.2.2.2.2.2.1.length ≤ s.length ∧ 0 ≤ y.2.2.2.2.2.2.2.2.2.2.1 ∧ y.2.2.2.2.2.2.2.2.2.2.1 ≤ 999999) ∧ (d ≠ 1 → y.2.2.2.2.1 = [] ∧ y.2.2.2.2.2.1 = none ∧ y.2.2.2.2.2.2.1 = 0)) (fun y=>[(0,Pt r 0),(1,Pt p 0),(4,Pt x4 0),(5,Pt x5 0),(6,I y.2.2.2.2.2.2.2.2.2.2.1)]) (fun y=>y.2.2.2.2.2.2.2.2.2.2.2) (fun y=>[bI r sc y.2.2.2.2.2.2.2.1 y.2.2.2.2.2.2.2.2.1 y.2.2.2.2.2.1 y.2.2.2.2.1.length y.2.2.2.2.2.2.1 d,.acc (.slice y.2.2.2.2.2.1 y.2.2.2.2.1.length y.2.2.2.2.2.2.1) xG 1 y.2.2.2.2.1.length (aE gu y.2.2.2.2.1),.acc (.slice y.2.2.1 y.1.length y.2.2.2.1) uq 4 y.1.length (aE ck y.2.1),.blk x5 (.cells (List.toArray [U8 82,S [],I 0,.slice y.2.2.1 y.1.length y.2.2.2.1]) uq (0,0)),.blk x4 (.cells (List.toArray [U8 (0 : Nat),S [],I 0,aI]) uq (0,0))]) (fun y=>y.2.2.2.2.2.2.2.1.length) ([],[],none,0,[],none,0,s,false,s.length + 1,0,G) ?_ tU F aZ (fun y Hy=>?_)
 ·exact ⟨⟨F,Gh.le.refl _⟩,fun _=>⟨F,Nat.lt_succ_self _⟩,fun h=>(by cases h),⟨by simp,Int.le_refl 0,by show (0 : Int) ≤ 999999;omega⟩,fun _=>⟨rfl,rfl,rfl⟩⟩
 obtain ⟨vs,cs,a,cap,sk,sa,scap,t',b,m',last,Gq⟩:=y
 dsimp only at Hy ⊢
 obtain ⟨⟨hreps,hgq⟩,hI0,hI1,⟨hlen,hla0,hla1⟩,hsk⟩:=Hy
 have hcl:=gS hreps
 have hskF : d ≠ 1 → sa = none ∧ sk.length = 0 ∧ scap = 0:=fun h=>by obtain ⟨h1,h2,h3⟩:=hsk h;subst h1;exact ⟨h2,F,h3⟩
 cases b with
 | true =>
  have hno:=hI1 rfl
  repeat' (first | refine jR ?_ | (refine jo ?_;first | refine jC F F F ?_ | refine ah F ?_ | refine aB F ?_) | refine ad F F ?_)
  all_goals
   refine Nx.sealS (v:=.slice a vs.length cap) fun G2 hG2 hsl=>?_
   refine aP (vs:=[_]) F ⟨aF F F F F,trivial⟩ F sB ⟨hgq.trans hG2,.nd 82 [] 0 vs,⟨82,[],0,a,vs.length,cap⟩,t',true,sa,sk.length,scap,F,c0 dC dC (fun h=>absurd h dC) F (by rw [hcl];exact hsl) (cd hG2 hreps),F,hskF,⟨oM,fun h=>(by cases h),fun _=>.inr (by dsimp only;rw [hno];rfl)⟩⟩
 | false =>
  obtain ⟨hit,htm⟩:=hI0 rfl
  clear hI0 hI1
  obtain ⟨m',rfl⟩ : ∃ j,m' = j + 1:=⟨m' - 1,oM⟩
  cases hg : bj t' with
  | none =>
   rw [oX hg] at hit
   have cx_nb:=fU (G:=Gq) (r:=r) (sc:=sc) (m:=sk.length) (c:=scap) (b:=false) (a:=sa) (d:=d) hg oM
   repeat' (first | refine jR ?_ | (refine jo ?_;first | refine jC F F F ?_ | refine ah F ?_ | refine aB F ?_ | (refine af F F F cx_nb F ?_;rintro _ _ ⟨rfl,rfl⟩;dsimp only [zA,fA])) | refine ac F F ?_)
   all_goals
    refine Nx.sealS (v:=.slice a vs.length cap) fun G2 hG2 hsl=>?_
    refine aP (vs:=[_]) F ⟨aF F F F F,trivial⟩ F sB ⟨hgq.trans hG2,.nd 82 [] 0 vs,⟨82,[],0,a,vs.length,cap⟩,[],true,sa,sk.length,scap,F,c0 dC dC (fun h=>absurd h dC) F (by rw [hcl];exact hsl) (cd hG2 hreps),F,hskF,⟨by simp,fun h=>(by cases h),fun _=>.inr (by dsimp only;rw [hit];rfl)⟩⟩
  | some z =>
   obtain ⟨tg,q⟩:=z
   obtain ⟨h0,h1,_⟩:=cn hg
   have hl:=bE hg
   have cx_nb:=eo (G:=Gq) (r:=r) (sc:=sc) (m:=sk.length) (c:=scap) (b:=false) (a:=sa) (d:=d) hg oM
   by_cases htz : tg = 0
   ·subst htz
    rw [ru hg] at hit
    repeat' (first | refine jR ?_ | (refine jo ?_;first | refine jC F F F ?_ | refine ah F ?_ | refine aB F ?_ | (refine af F F F cx_nb F ?_;rintro _ _ ⟨rfl,rfl⟩;dsimp only [zA,fA])) | refine ac F F ?_)
    all_goals
     refine Nx.sealS (v:=.slice a vs.length cap) fun G2 hG2 hsl=>?_
     refine aP (vs:=[_]) F ⟨aF F F F F,trivial⟩ F sB ⟨hgq.trans hG2,.nd 82 [] 0 vs,⟨82,[],0,a,vs.length,cap⟩,q,false,sa,sk.length,scap,F,c0 dC dC (fun h=>absurd h dC) F (by rw [hcl];exact hsl) (cd hG2 hreps),F,hskF,⟨oM,fun _=>⟨F,by dsimp only;rw [hit];rfl⟩,fun h=>(by cases h)⟩⟩
   rcases fD (s:=q) with ⟨hg2,ht⟩ | ⟨m3,q2,hg2,hm3,⟨hl3,ht⟩ | ⟨hl3,ht⟩⟩
   ·rw [ld hg htz ht] at hit
    have cx_nb2:=fU (G:=Gq) (r:=r) (sc:=sc) (m:=sk.length) (c:=scap) (b:=false) (a:=sa) (d:=d) hg2 oM
    have cx_tkb:=fJ (G:=Gq) (r:=r) (sc:=sc) (m:=0) (n:=sk.length) (c:=scap) (s:=[]) (b:=true) (a:=sa) (d:=d) (.inl rfl) ⟨by simp,oM⟩
    have cx_tkb : bM ac7 42 [Pt r 0,I 0] Gq [bI r sc [] true sa sk.length scap d] (fun v L'=>v = S [] ∧ L' = [bI r sc [] true sa sk.length scap d]):=cx_tkb
    have cx_fldg:=lN (hT2.mono hgq) hw ⟨h0,h1⟩
    repeat' (first | refine jR ?_ | (refine jo ?_;first | refine jD F F F ?_ | refine ah F ?_ | (refine af F F F cx_nb F ?_;rintro _ _ ⟨rfl,rfl⟩;dsimp only [zA,fA]) | (refine af F F F cx_nb2 F ?_;rintro _ _ ⟨rfl,rfl⟩;dsimp only [zA,fA]) | (refine af F F F cx_tkb F ?_;rintro _ _ ⟨rfl,rfl⟩;dsimp only [zA,fA])) | refine ac F F ?_ | refine ad F (aC ‹_›) ?_ | refine cB F (fun _=>?_) (fun _=>?_))
    all_goals
     refine jo ?_
     refine cN F F F cx_fldg F ?_
     rintro _ ⟨q9,rfl⟩
     repeat' (first | refine jR ?_ | (refine jo ?_;refine ah F ?_) | refine ac F F ?_)
     exact aY (vs,cs,a,cap,sk,sa,scap,[],true,m',tg,Gq) ⟨⟨hreps,hgq⟩,fun h=>(by cases h),fun _=>hit,⟨by dsimp only;simp only [List.length_nil];omega,h0,h1⟩,hsk⟩ (by dsimp only;simp only [List.length_nil];omega) tU rfl aZ
   ·have hl4:=bE hg2
    rw [ld hg htz ht] at hit
    have cx_nb2:=eo (G:=Gq) (r:=r) (sc:=sc) (m:=sk.length) (c:=scap) (b:=false) (a:=sa) (d:=d) hg2 oM
    have cx_tkb:=fJ (G:=Gq) (r:=r) (sc:=sc) (m:=m3) (n:=sk.length) (c:=scap) (s:=q2) (b:=false) (a:=sa) (d:=d) (.inr hl3) ⟨oM,oM⟩
    have cx_fldg:=lN (hT2.mono hgq) hw ⟨h0,h1⟩
    repeat' (first | refine jR ?_ | (refine jo ?_;first | refine jD F F F ?_ | refine ah F ?_ | (refine af F F F cx_nb F ?_;rintro _ _ ⟨rfl,rfl⟩;dsimp only [zA,fA]) | (refine af F F F cx_nb2 F ?_;rintro _ _ ⟨rfl,rfl⟩;dsimp only [zA,fA]) | (refine af F F F cx_tkb F ?_;rintro _ _ ⟨rfl,rfl⟩;dsimp only [zA,fA])) | refine ac F F ?_ | refine ad F (aC ‹_›) ?_ | refine cB F (fun _=>?_) (fun _=>?_))
    all_goals
     refine jo ?_
     refine cN F F F cx_fldg F ?_
     rintro _ ⟨q9,rfl⟩
     repeat' (first | refine jR ?_ | (refine jo ?_;refine ah F ?_) | refine ac F F ?_)
     exact aY (vs,cs,a,cap,sk,sa,scap,q2,true,m',tg,Gq) ⟨⟨hreps,hgq⟩,fun h=>(by cases h),fun _=>hit,⟨by dsimp only;omega,h0,h1⟩,hsk⟩ (by dsimp only;omega) tU rfl aZ
   have hl4:=bE hg2
   have hdl : (q2.drop m3).length = q2.length - m3:=List.length_drop
   have htl : (q2.take m3).length ≤ 1000:=by rw [List.length_take];omega
   have cx_nb2:=eo (G:=Gq) (r:=r) (sc:=sc) (m:=sk.length) (c:=scap) (b:=false) (a:=sa) (d:=d) hg2 oM
   have cx_tkb:=jr (G:=Gq) (r:=r) (sc:=sc) (m:=m3) (n:=sk.length) (c:=scap) (s:=q2) (a:=sa) (d:=d) ⟨hl3,oM⟩
   by_cases hlast : tg ≤ last
   ·rw [oW hg htz ht hlast] at hit
    have cx_fldg:=lN (hT2.mono hgq) hw ⟨h0,h1⟩
    repeat' (first | refine jR ?_ | (refine jo ?_;first | refine jD F F F ?_ | refine ah F ?_ | (refine af F F F cx_nb F ?_;rintro _ _ ⟨rfl,rfl⟩;dsimp only [zA,fA]) | (refine af F F F cx_nb2 F ?_;rintro _ _ ⟨rfl,rfl⟩;dsimp only [zA,fA]) | (refine af F F F cx_tkb F ?_;rintro _ _ ⟨rfl,rfl⟩;dsimp only [zA,fA])) | (refine ac F (by first | rfl | (refine decide_eq_true ?_;(assumption))) ?_) | refine ad F (aC ‹_›) ?_)
    all_goals
     refine jo ?_
     refine cN F F F cx_fldg F ?_
     rintro _ ⟨q9,rfl⟩
     repeat' (first | refine jR ?_ | (refine jo ?_;refine ah F ?_) | refine ac F F ?_)
     exact aY (vs,cs,a,cap,sk,sa,scap,(q2.drop m3),true,m',tg,Gq) ⟨⟨hreps,hgq⟩,fun h=>(by cases h),fun _=>hit,⟨by dsimp only;omega,h0,h1⟩,hsk⟩ (by dsimp only;omega) tU rfl aZ
   cases hft : bR t.fields tg with
   | none =>
    rw [nC hg htz ht hlast hft] at hit
    have cx_fld:=d6 (h1'.mono hgq) (h2.mono hgq) oM hft
    by_cases hd1 : d = 1
    ·have hskl : (sk ++ [tg]).length = sk.length + 1:=by simp
     have hrs : aE gu sk ++ [I tg] = aE gu (sk ++ [tg]):=(co gu sk tg).symm
     repeat' (first | refine jR ?_ | (refine jo ?_;first | refine jD F F F ?_ | refine ah F ?_ | refine jV (cC F F) ?_ | refine jF fun _=>?_ | refine bY F F F F F F F F F oM fun _ _=>?_ | (refine af F F F cx_nb F ?_;rintro _ _ ⟨rfl,rfl⟩;dsimp only [zA,fA]) | (refine af F F F cx_nb2 F ?_;rintro _ _ ⟨rfl,rfl⟩;dsimp only [zA,fA]) | (refine af F F F cx_tkb F ?_;rintro _ _ ⟨rfl,rfl⟩;dsimp only [zA,fA]) | refine ab F F F cx_fld F ?_) | (refine ac F (by first | rfl | (refine decide_eq_true ?_;(assumption))) ?_) | (refine ad F (by first | rfl | (refine decide_eq_false ?_;(assumption))) ?_))
     rename_i _ y1 yc
     rw [hrs]
     refine Nx.perm (List.Perm.append_right _ (List.perm_append_comm (l₁:=[_,_]) (l₂:=[_]))) ?_
     dsimp only [zA,fA]
     exact aY (vs,cs,a,cap,sk ++ [tg],some ⟨y1,0,none⟩,yc,q2.drop m3,false,m',tg,Gq) ⟨⟨hreps,hgq⟩,fun _=>⟨hit,by dsimp only;omega⟩,fun h=>(by cases h),⟨by dsimp only;omega,h0,h1⟩,fun h=>absurd hd1 h⟩ (by dsimp only;omega) tU rfl (by rw [hskl];repeat (first | exact List.Sublist.refl _ | apply List.Sublist.cons_cons | apply List.Sublist.cons))
    ·repeat' (first | refine jR ?_ | (refine jo ?_;first | refine ah F ?_ | refine jV (cC F F) ?_ | (refine af F F F cx_nb F ?_;rintro _ _ ⟨rfl,rfl⟩;dsimp only [zA,fA]) | (refine af F F F cx_nb2 F ?_;rintro _ _ ⟨rfl,rfl⟩;dsimp only [zA,fA]) | (refine af F F F cx_tkb F ?_;rintro _ _ ⟨rfl,rfl⟩;dsimp only [zA,fA]) | refine ab F F F cx_fld F ?_) | refine ac F F ?_ | (refine ad F (by first | rfl | (refine decide_eq_false ?_;(assumption))) ?_))
     all_goals
      exact aY (vs,cs,a,cap,sk,sa,scap,q2.drop m3,false,m',tg,Gq) ⟨⟨hreps,hgq⟩,fun _=>⟨hit,by dsimp only;omega⟩,fun h=>(by cases h),⟨by dsimp only;omega,h0,h1⟩,hsk⟩ (by dsimp only;omega) tU rfl aZ
   | some f =>
    obtain ⟨j,hj,hjn,hjt,hjd⟩:=eA hft
    obtain ⟨bf,of,cf,rfl,hsf⟩:=h2.expl oM
    subst hjd
    have hsf:=hsf.mono hgq
    have cx_fld:=eW (h1'.mono hgq) hsf oM hj hjn hjt
    have cx_prt:=t5 (G:=Gq) (r:=r) (sc:=sc) (m:=sk.length) (c:=scap) (a:=sa) (s:=q2.drop m3) (k:=(ae t.fields j).kind) (p:=q2.take m3) (d:=d) hd hn hU (hS.mono hgq) (hkf _ (bP hj)) htl
    repeat' (first | refine jR ?_ | (refine jo ?_;first | refine jL fun _=>?_ | refine jC F F F ?_ | refine ah F ?_ | (refine jV (iu F F aS ?_ F F) ?_;focus omega) | refine jV (cC F F) ?_ | (refine af F F F cx_nb F ?_;rintro _ _ ⟨rfl,rfl⟩;dsimp only [zA,fA]) | (refine af F F F cx_nb2 F ?_;rintro _ _ ⟨rfl,rfl⟩;dsimp only [zA,fA]) | (refine af F F F cx_tkb F ?_;rintro _ _ ⟨rfl,rfl⟩;dsimp only [zA,fA]) | refine ab F F F cx_fld F ?_ | (refine cI F F F cx_prt F ?_;rintro _ G1 _ hle ⟨u1,c1,b1,rfl,hrep,rfl,hQ2,hQ3⟩;dsimp only [zA,fA];skip)) | refine ac F F ?_ | (refine ad F (by first | rfl | (refine decide_eq_false ?_;(assumption))) ?_))
    rename_i x10
    have hgl:=hgq.trans hle
    have hS1:=hS.mono hgl
    have hsf1:=hsf.mono hle
    have cx_of:=yf hS1 hW0 hsf1 hj (hkf _ (bP hj))
    obtain ⟨u',m2',g1',g2',g3'⟩:=hS1.at'
    cases b1 with
    | true =>
     rw [oV hg htz ht hlast hft (hQ3 rfl)] at hit
     repeat' (first | refine jR ?_ | refine ad F F ?_ | (refine aj (am (id:=12) _ (fun _ h=>h) ai ?_);refine jT 13 [0,1,2] (aa 16 7) ?_;(refine jG (aa 16 15) 3 F (aq F F F) ?_);refine jT 10 [4,5] (aa 16 63) ?_;(try (refine Nx.re (d:=47) (v':=Bo false) F (congrArg Value.bool F) ?_));refine jT 6 [8,9,10,12] (aa 16 5951) ?_;(refine jN (aa 16 6015) 6 F ?_);(refine jN (aa 16 8063) 11 F ?_);(refine jN (aa 16 8191) 7 F ?_);(refine jN (aa 16 16383) 13 F ?_);refine jT 1 [14] (aa 16 32767) ?_;(refine jG (aa 16 65535) 15 F (aJ F F F) ?_);refine jQ ?_))
     all_goals exact aY (vs,cs,a,cap,sk,sa,scap,q2.drop m3,true,m',tg,G1) ⟨⟨cd hle hreps,hgl⟩,fun h=>(by cases h),fun _=>hit,⟨by dsimp only;omega,h0,h1⟩,hsk⟩ (by dsimp only;omega) tU rfl sB
    | false =>
     obtain ⟨hra,htot⟩:=hQ2 rfl
     rw [oU hg htz ht hlast hft hra] at hit
     have cx_pr:=nb (G:=G1) u1.tot (Nat.le_refl _) oM hrep
     have hotl:=pK hrep
     by_cases heq : u1.out = cW (ao qs) (ae t.fields j)
     ·rw [if_pos heq] at hit
      repeat' (first | refine jR ?_ | (refine ad F ?_ ?_;(focus ((simp [*];done);done))) | (refine aj (am (id:=12) _ (fun _ h=>h) ai ?_);refine jT 13 [0,1,2] (aa 16 7) ?_;(refine jG (aa 16 15) 3 F (aq F F F) ?_);refine jT 10 [4,5] (aa 16 63) ?_;(try (refine Nx.re (d:=47) (v':=Bo true) F (congrArg Value.bool F) ?_));refine jT 6 [8,9,10,12] (aa 16 5951) ?_;(refine jG (aa 16 6015) 6 F (bD F F F F) ?_);(refine jG (aa 16 8063) 11 F (aq F F F) ?_);(refine jA 7 F ?_;(refine ab F F F cx_pr F ?_);refine jS (aa 16 8191) ?_);(refine jA 13 F ?_;(refine ab F F F cx_of F ?_);refine jS (aa 16 16383) ?_);refine jT 1 [14] (aa 16 32767) ?_;(refine jG (aa 16 65535) 15 F (a6 F F F) ?_);refine jQ ?_))
      all_goals exact aY (vs,cs,a,cap,sk,sa,scap,q2.drop m3,false,m',tg,G1) ⟨⟨cd hle hreps,hgl⟩,fun _=>⟨hit,by dsimp only;omega⟩,fun h=>(by cases h),⟨by dsimp only;omega,h0,h1⟩,hsk⟩ (by dsimp only;omega) tU rfl sB
     ·rw [if_neg heq] at hit
      repeat' (first | refine jR ?_ | (refine jo ?_;first | refine jV (al F F) ?_ | refine jD F F F ?_ | refine ah F ?_ | refine aB F ?_ | refine jF fun _=>?_ | refine bY F F F F F F F F F oM fun _ _=>?_) | refine ac F (ay ‹_›) ?_ | (refine aj (am (id:=12) _ (fun _ h=>h) ai ?_);refine jT 13 [0,1,2] (aa 16 7) ?_;(refine jG (aa 16 15) 3 F (aq F F F) ?_);refine jT 10 [4,5] (aa 16 63) ?_;(try (refine Nx.re (d:=47) (v':=Bo true) F (congrArg Value.bool F) ?_));refine jT 6 [8,9,10,12] (aa 16 5951) ?_;(refine jG (aa 16 6015) 6 F (bD F F F F) ?_);(refine jG (aa 16 8063) 11 F (aq F F F) ?_);(refine jA 7 F ?_;(refine ab F F F cx_pr F ?_);refine jS (aa 16 8191) ?_);(refine jA 13 F ?_;(refine ab F F F cx_of F ?_);refine jS (aa 16 16383) ?_);refine jT 1 [14] (aa 16 32767) ?_;(refine jG (aa 16 65535) 15 F (a6 F F F) ?_);refine jQ ?_))
      rename_i y z y1 yc
      rw [hjt] at hit
      refine Nx.sealC (b:=y) fun G2 hG2 hsy=>?_
      have hsl : be G2 (.slice (some ⟨y,0,none⟩) 1 1) 4 ([c1] : List VC).length (aE ck [c1]):=⟨rfl,.inr ⟨y,0,1,rfl,Nat.le_refl _,hsy⟩⟩
      have hrow : aE ck cs ++ [U8 61,S [],I tg,.slice (some ⟨y,0,none⟩) 1 1] = aE ck (cs ++ [⟨61,[],tg,some ⟨y,0,none⟩,1,1⟩]):=(co ck cs (⟨61,[],tg,some ⟨y,0,none⟩,1,1⟩ : VC)).symm
      have hr1 : V.rep G2 (.nd 61 [] tg [u1]) (⟨61,[],tg,some ⟨y,0,none⟩,1,1⟩ : VC):=c0 (ks:=[u1]) dC oM (fun _=>rfl) rfl hsl ⟨c1,[],rfl,ge hG2 hrep,rfl⟩
      have hr2 : V.reps G2 (vs ++ [.nd 61 [] tg [u1]]) (cs ++ [⟨61,[],tg,some ⟨y,0,none⟩,1,1⟩]):=ip hr1 (cd (hle.trans hG2) hreps)
      have hvl : (vs ++ [V.nd 61 [] tg [u1]]).length = vs.length + 1:=by simp
      refine Nx.perm (List.Perm.append_right _ (List.perm_append_comm (l₁:=[_,_,_]) (l₂:=[_,_]))) ?_
      dsimp only [zA,fA]
      rw [hrow]
      exact aY (vs ++ [.nd 61 [] tg [u1]],cs ++ [⟨61,[],tg,some ⟨y,0,none⟩,1,1⟩],some ⟨y1,0,none⟩,yc,sk,sa,scap,q2.drop m3,false,m',tg,G2) ⟨⟨hr2,hgl.trans hG2⟩,fun _=>⟨hit,by dsimp only;omega⟩,fun h=>(by cases h),⟨by dsimp only;omega,h0,h1⟩,hsk⟩ (by dsimp only;omega) tU rfl (by rw [hvl];repeat (first | exact List.Sublist.refl _ | apply List.Sublist.cons_cons | apply List.Sublist.cons))
theorem ab4 {n r sc : Nat} {qs : List cF} {k s : ac8} {d : Int} (hd : d = 12 - (n : Int)) (hn : n ≤ 12) (hU : qV n sc qs) (hS : ScI G sc qs) (hk : aO (ao qs) (91 :: k) = true) (hs : s.length ≤ 1000) :
  dq ac7 96 [Pt r 0,Ag (ew (91 :: k))] G [bI r sc s false none 0 0 d] (kv (rb (ao qs) (n + 1) (91 :: k)) r sc s false d):=by
 have hk2:=dz (.inl rfl) hk
 obtain ⟨e1,e2,e3,_⟩:=ji (c:=91) (k:=k) (.inl rfl)
 have hrd:=vA (ts:=ao qs) (n:=n) (k:=k) (s:=s)
 unfold ew
 rw [e1,e2,e3]
 have cx_sign:=@i1 G 91 (sg k) (bs k) (nm k)
 have cx_ptA : ∀ G,an ac7 129 [Ag [S (91 :: sg k),S (bs k),S (nm k)]] G (· = Ag [S (sg k),S (bs k),S (nm k)]):=fun G=>@pp G 91 (sg k) (bs k) (nm k)
 cases hg : bj s with
 | none =>
  rw [hg] at hrd
  have cx_nb:=fU (G:=G) (r:=r) (sc:=sc) (m:=0) (c:=0) (b:=false) (a:=none) (d:=d + 1) hg hs
  refine cy [(0,_),(1,_)] Tryz.func96 kR Tryz.ntmps96 F F tU fun B hok hB hW=>?_
  repeat' (first | refine jM ?_ | (refine jo ?_;first | refine jO fun _=>?_ | refine jL fun _=>?_ | refine ah F ?_ | refine jD F F F ?_ | refine jV (dk F F) ?_))
  rename_i x2 x3 x4
  refine jo ?_
  refine cz (fi:=[]) (ca:=[Pt x2 0]) (az:=[]) F F ?_
  repeat' (first | refine jR ?_ | (refine jo ?_;first | refine jL fun _=>?_ | refine ah F ?_ | refine aB F ?_ | refine jC F F F ?_ | refine jV (al F F) ?_ | refine ab F F F cx_sign F ?_ | (refine af F F F cx_nb F ?_;rintro _ _ ⟨rfl,rfl⟩;dsimp only [zA,fA])) | refine ac F F ?_ | (refine ad F (by first | rfl | (refine decide_eq_false ?_;(omega))) ?_))
  rename_i x5
  refine aT (ι:=Unit) (fun j=>True) (fun j=>[(2,Pt x2 0),(3,Pt x3 0),(4,Pt x4 0),(5,I 0),(6,Pt x5 0),(7,I 0)]) (fun _=>G) (fun j=>[.blk x5 (.cells (List.toArray [U8 91,S [],I 0,aI]) l5 (0,0)),bI r sc [] true none 0 0 (d + 1),.blk x4 (.cells (List.toArray [U8 (0 : Nat),S [],I 0,aI]) l5 (0,0)),.blk x3 (.cells (List.toArray [S (91 :: sg k),S (bs k),S (nm k)]) rm (0,0)),.blk x2 (.cells (List.toArray [Pt r 0]) fB (0,0))]) (fun j=>0) () ?_ tU F aZ (fun j Hj=>?_)
  ·trivial
  repeat' (first | refine jR ?_ | (refine jo ?_;first | refine aB F ?_ | refine jC F F F ?_ | refine ar F ?_) | refine ak F F F ?_ | refine ad F F ?_)
  all_goals
   refine dc (.inl F) F (cK (x0:=x2) (r:=r) (sc:=sc) (s:=[]) (b:=true) (a:=none) (n:=0) (c:=0) (d:=d + 1) oM) F ?_
   rintro v G' L' ⟨rfl,rfl⟩
   dsimp only [zA,fA]
   exact ⟨[_],[bI r sc [] true none 0 0 (d + 1 - 1)],⟨aF F F F F,trivial⟩,sB,Gh.le.refl _,cJ (c:=⟨91,[],0,none,0,0⟩) (bq dC dC) oM (fun _=>⟨F,F,F⟩) ⟨by simp,fun h=>(by cases h),fun _=>.inr hrd⟩⟩
 | some z =>
  obtain ⟨m,q⟩:=z
  obtain ⟨h1,h2,_⟩:=cn hg
  have hl:=bE hg
  rw [hg] at hrd
  dsimp only at hrd
  have cx_nb:=eo (G:=G) (r:=r) (sc:=sc) (m:=0) (c:=0) (b:=false) (a:=none) (d:=d + 1) hg hs
  by_cases h20 : m ≤ 20
  case neg =>
   rw [if_neg h20] at hrd
   refine cy [(0,_),(1,_)] Tryz.func96 kR Tryz.ntmps96 F F tU fun B hok hB hW=>?_
   repeat' (first | refine jM ?_ | (refine jo ?_;first | refine jO fun _=>?_ | refine jL fun _=>?_ | refine ah F ?_ | refine jD F F F ?_ | refine jV (dk F F) ?_))
   rename_i x2 x3 x4
   refine jo ?_
   refine cz (fi:=[]) (ca:=[Pt x2 0]) (az:=[]) F F ?_
   repeat' (first | refine jR ?_ | (refine jo ?_;first | refine jL fun _=>?_ | refine ah F ?_ | refine aB F ?_ | refine jD F F F ?_ | refine jC F F F ?_ | refine jV (al F F) ?_ | refine ab F F F cx_sign F ?_ | (refine af F F F cx_nb F ?_;rintro _ _ ⟨rfl,rfl⟩;dsimp only [zA,fA])) | (refine ac F (by first | rfl | (refine decide_eq_true ?_;(omega))) ?_) | (refine ad F (by first | rfl | (refine decide_eq_false ?_;(omega))) ?_))
   rename_i x5
   refine aT (ι:=Unit) (fun j=>True) (fun j=>[(2,Pt x2 0),(3,Pt x3 0),(4,Pt x4 0),(5,I m),(6,Pt x5 0),(7,I 0)]) (fun _=>G) (fun j=>[.blk x5 (.cells (List.toArray [U8 91,S [],I 0,aI]) l5 (0,0)),bI r sc q true none 0 0 (d + 1),.blk x4 (.cells (List.toArray [U8 (0 : Nat),S [],I 0,aI]) l5 (0,0)),.blk x3 (.cells (List.toArray [S (91 :: sg k),S (bs k),S (nm k)]) rm (0,0)),.blk x2 (.cells (List.toArray [Pt r 0]) fB (0,0))]) (fun j=>0) () ?_ tU F aZ (fun j Hj=>?_)
   ·trivial
   repeat' (first | refine jR ?_ | (refine jo ?_;first | refine ah F ?_ | refine aB F ?_ | refine jC F F F ?_ | refine aG F ?_) | refine ax F F (ay oM) ?_ | refine ad F F ?_)
   all_goals
    refine dc (.inl F) F (cK (x0:=x2) (r:=r) (sc:=sc) (s:=q) (b:=true) (a:=none) (n:=0) (c:=0) (d:=d + 1) oM) F ?_
    rintro v G' L' ⟨rfl,rfl⟩
    dsimp only [zA,fA]
    exact ⟨[_],[bI r sc q true none 0 0 (d + 1 - 1)],⟨aF F F F F,trivial⟩,sB,Gh.le.refl _,cJ (c:=⟨91,[],0,none,0,0⟩) (bq dC dC) oM (fun _=>⟨F,F,F⟩) ⟨oM,fun h=>(by cases h),fun _=>.inr hrd⟩⟩
  rw [if_pos h20] at hrd
  obtain ⟨m,rfl⟩ : ∃ m' : Nat,m = (m' : Int):=⟨m.toNat,oM⟩
  rw [Int.toNat_natCast] at hrd
  refine cy [(0,_),(1,_)] Tryz.func96 kR Tryz.ntmps96 F F tU fun B hok hB hW=>?_
  repeat' (first | refine jM ?_ | (refine jo ?_;first | refine jO fun _=>?_ | refine jL fun _=>?_ | refine ah F ?_ | refine jD F F F ?_ | refine jV (dk F F) ?_))
  rename_i x2 x3 x4
  refine jo ?_
  refine cz (fi:=[]) (ca:=[Pt x2 0]) (az:=[]) F F ?_
  repeat' (first | refine jR ?_ | (refine jo ?_;first | refine jL fun _=>?_ | refine ah F ?_ | refine aB F ?_ | refine jC F F F ?_ | refine jV (al F F) ?_ | refine ab F F F cx_sign F ?_ | (refine af F F F cx_nb F ?_;rintro _ _ ⟨rfl,rfl⟩;dsimp only [zA,fA])) | refine ac F F ?_ | (refine ad F (by first | rfl | (refine decide_eq_false ?_;(omega))) ?_))
  rename_i x5
  refine Nx.addNil l5 4 (Nx.perm (List.Perm.cons _ (List.Perm.swap _ _ _)) ?_)
  refine aT (ι:=List V × List VC × Option Addr × Nat × ac8 × Bool × Gh) (fun y=>(V.reps y.2.2.2.2.2.2 y.1 y.2.1 ∧ Gh.le G y.2.2.2.2.2.2) ∧ (y.2.2.2.2.2.1 = false → bG (rb (ao qs) n k) m q [] = bG (rb (ao qs) n k) (m - y.1.length) y.2.2.2.2.1 y.1) ∧ (y.2.2.2.2.2.1 = true → bG (rb (ao qs) n k) m q [] = none) ∧ (y.1.length ≤ m ∧ y.2.2.2.2.1.length ≤ q.length)) (fun y=>[(2,Pt x2 0),(3,Pt x3 0),(4,Pt x4 0),(5,I (m : Nat)),(6,Pt x5 0),(7,I (y.1.length : Nat))]) (fun y=>y.2.2.2.2.2.2) (fun y=>[.acc (.slice y.2.2.1 y.1.length y.2.2.2.1) l5 4 y.1.length (aE ck y.2.1),bI r sc y.2.2.2.2.1 y.2.2.2.2.2.1 none 0 0 (d + 1),.blk x5 (.cells (List.toArray [U8 91,S [],I 0,.slice y.2.2.1 y.1.length y.2.2.2.1]) l5 (0,0)),.blk x4 (.cells (List.toArray [U8 (0 : Nat),S [],I 0,aI]) l5 (0,0)),.blk x3 (.cells (List.toArray [S (91 :: sg k),S (bs k),S (nm k)]) rm (0,0)),.blk x2 (.cells (List.toArray [Pt r 0]) fB (0,0))]) (fun y=>m - y.1.length) ([],[],none,0,q,false,G) ?_ tU F aZ (fun y Hy=>?_)
  ·exact ⟨⟨F,Gh.le.refl _⟩,fun _=>rfl,fun h=>(by cases h),Nat.zero_le _,Nat.le_refl _⟩
  obtain ⟨vs,cs,a,cap,t,b,Gq⟩:=y
  dsimp only at Hy ⊢
  obtain ⟨⟨hreps,hgq⟩,hI0,hI1,hlm,htl'⟩:=Hy
  have hcl:=gS hreps
  by_cases hi : b = false ∧ vs.length < m
  case neg =>
   have hres : sW (rb (ao qs) (n + 1) (91 :: k)) s false (.nd 91 [] 0 vs) t b:=by
    refine ⟨oM,fun h=>⟨F,?_⟩,fun h=>.inr ?_⟩
    ·have h2:=hI0 h
     have h9 : ¬ vs.length < m:=fun h3=>hi ⟨h,h3⟩
     have e0 : m - vs.length = 0:=oM
     rw [e0,bG] at h2
     rw [hrd,h2];rfl
    ·rw [hrd,hI1 h];rfl
   cases b with
   | true =>
    repeat' (first | refine jR ?_ | (refine jo ?_;first | refine ah F ?_ | refine aB F ?_ | refine jC F F F ?_ | refine aG F ?_ | refine ar F ?_) | refine dN F F (fun _=>?_) (fun _=>?_) | refine ad F F ?_)
    all_goals
     refine Nx.sealS (v:=.slice a vs.length cap) fun G2 hG2 hsl=>?_
     refine dc (.inl F) F (cK (x0:=x2) (r:=r) (sc:=sc) (s:=t) (b:=true) (a:=none) (n:=0) (c:=0) (d:=d + 1) oM) F ?_
     rintro v G' L' ⟨rfl,rfl⟩
     dsimp only [zA,fA]
     exact ⟨[_],[bI r sc t true none 0 0 (d + 1 - 1)],⟨aF F F F F,trivial⟩,sB,(hgq.trans hG2),cJ (c:=⟨91,[],0,a,vs.length,cap⟩) (c0 dC dC (fun h=>absurd h dC) F (by rw [hcl];exact hsl) (cd hG2 hreps)) oM (fun _=>⟨F,F,F⟩) hres⟩
   | false =>
    have hi2 : ¬ vs.length < m:=fun h=>hi ⟨rfl,h⟩
    repeat' (first | refine jR ?_ | (refine jo ?_;first | refine aB F ?_ | refine jC F F F ?_ | refine ar F ?_) | refine ak F F (aC oM) ?_ | refine ad F F ?_)
    all_goals
     refine Nx.sealS (v:=.slice a vs.length cap) fun G2 hG2 hsl=>?_
     refine dc (.inl F) F (cK (x0:=x2) (r:=r) (sc:=sc) (s:=t) (b:=false) (a:=none) (n:=0) (c:=0) (d:=d + 1) oM) F ?_
     rintro v G' L' ⟨rfl,rfl⟩
     dsimp only [zA,fA]
     exact ⟨[_],[bI r sc t false none 0 0 (d + 1 - 1)],⟨aF F F F F,trivial⟩,sB,(hgq.trans hG2),cJ (c:=⟨91,[],0,a,vs.length,cap⟩) (c0 dC dC (fun h=>absurd h dC) F (by rw [hcl];exact hsl) (cd hG2 hreps)) oM (fun _=>⟨F,F,F⟩) hres⟩
  obtain ⟨rfl,hi2⟩:=hi
  have hit:=hI0 rfl
  clear hI0 hI1
  obtain ⟨m',hm'⟩ : ∃ m',m - vs.length = m' + 1:=⟨m - vs.length - 1,oM⟩
  rw [hm'] at hit
  have cx_vl:=wJ (r:=r) (d:=d + 1) oM oM (hU Gq r k t false (hS.mono hgq) hk2 oM)
  have cx_pt:=cx_ptA Gq
  repeat' (first | refine jR ?_ | (refine jo ?_;first | refine ah F ?_ | refine aG F ?_) | refine ax F F (ay oM) ?_ | refine ac F F ?_)
  (refine aj (am (id:=16) [.blk x3 (.cells (List.toArray [S (91 :: sg k),S (bs k),S (nm k)]) rm (0,0)),.blk x2 (.cells (List.toArray [Pt r 0]) fB (0,0))] (by intro y hy;simp only [List.mem_cons,List.not_mem_nil,or_false] at hy ⊢;rcases hy with hy | hy <;> simp [hy]) ai ?_);refine jW 9 [0] (aa 10 1) ?_;(refine jG (aa 10 5) 2 F (aq F F F) ?_);(refine jG (aa 10 13) 3 F (bD F F F F) ?_);refine bA [1,4] kR dC ⟨?_,?_,trivial⟩;(focus (refine aM F F ?_;(refine ah F ?_);refine jK (aa 10 15) ?_;refine jA 4 F ?_;(refine ab F F F cx_pt F ?_);refine jK (aa 10 31) ?_;refine jA 5 F ?_;(refine cI F F F cx_vl F ?_;rintro _ G1 _ hle ⟨u1,c1,t1,b1,rfl,hrep,rfl,hP⟩;dsimp only [zA,fA];skip);refine jK (aa 10 63) ?_;refine jA 6 F ?_;(refine jF fun _=>?_);refine jK (aa 10 127) ?_;refine jA 7 F ?_;((refine bY F F F F F F F F F ?_ fun _ _=>?_;focus omega));refine jK (aa 10 255) ?_;refine jW 1 [8] (aa 10 511) ?_;refine jA 9 F ?_;(refine jD F F F ?_);refine jK (aa 10 1023) ?_;refine jQ ?_));rotate_left 1;(focus (refine aM F F ?_;(refine ab F F F cx_pt F ?_);refine jK (aa 10 29) ?_;refine bA [1,5] kR dC ⟨?_,?_,trivial⟩;(focus (refine aM F F ?_;(refine ah F ?_);refine jK (aa 10 31) ?_;refine jA 5 F ?_;(refine cI F F F cx_vl F ?_;rintro _ G1 _ hle ⟨u1,c1,t1,b1,rfl,hrep,rfl,hP⟩;dsimp only [zA,fA];skip);refine jK (aa 10 63) ?_;refine jA 6 F ?_;(refine jF fun _=>?_);refine jK (aa 10 127) ?_;refine jA 7 F ?_;((refine bY F F F F F F F F F ?_ fun _ _=>?_;focus omega));refine jK (aa 10 255) ?_;refine jW 1 [8] (aa 10 511) ?_;refine jA 9 F ?_;(refine jD F F F ?_);refine jK (aa 10 1023) ?_;refine jQ ?_));rotate_left 1;(focus (refine aM F F ?_;(refine cI F F F cx_vl F ?_;rintro _ G1 _ hle ⟨u1,c1,t1,b1,rfl,hrep,rfl,hP⟩;dsimp only [zA,fA];skip);refine jK (aa 10 61) ?_;refine bA [1,6] kR dC ⟨?_,?_,trivial⟩;(focus (refine aM F F ?_;(refine ah F ?_);refine jK (aa 10 63) ?_;refine jA 6 F ?_;(refine jF fun _=>?_);refine jK (aa 10 127) ?_;refine jA 7 F ?_;((refine bY F F F F F F F F F ?_ fun _ _=>?_;focus omega));refine jK (aa 10 255) ?_;refine jW 1 [8] (aa 10 511) ?_;refine jA 9 F ?_;(refine jD F F F ?_);refine jK (aa 10 1023) ?_;refine jQ ?_));rotate_left 1;(focus (refine aM F F ?_;(refine jF fun _=>?_);refine jK (aa 10 125) ?_;refine jA 1 F ?_;(refine ah F ?_);refine jK (aa 10 127) ?_;refine jA 7 F ?_;((refine bY F F F F F F F F F ?_ fun _ _=>?_;focus omega));refine jK (aa 10 255) ?_;refine jW 1 [8] (aa 10 511) ?_;refine jA 9 F ?_;(refine jD F F F ?_);refine jK (aa 10 1023) ?_;refine jQ ?_));rotate_left 1));rotate_left 2));rotate_left 3)
  all_goals
   rename_i y1 yc
   have hrow : aE ck cs ++ [U8 (c1.what : Nat),S c1.text,I c1.tag,c1.sl] = aE ck (cs ++ [c1]):=(co ck cs c1).symm
   have hr2 : V.reps G1 (vs ++ [u1]) (cs ++ [c1]):=ip hrep (cd hle hreps)
   have hvl : (vs ++ [u1]).length = vs.length + 1:=by simp
   have hgl:=hgq.trans hle
   obtain ⟨hQ1,hQ2,hQ3⟩:=kL hP
   rw [hrow]
   have hm2 : m - (vs ++ [u1]).length = m':=by rw [hvl];omega
   have hno1 : b1 = true → bG (rb (ao qs) n k) m q [] = none:=fun h=>by rw [hit,oS (hQ3 h)]
   have hyes1 : b1 = false → bG (rb (ao qs) n k) m q [] = bG (rb (ao qs) n k) (m - (vs ++ [u1]).length) t1 (vs ++ [u1]):=fun h2=>by rw [hit,mg (hQ2 h2).1,hm2]
   repeat' (refine jM ?_)
   refine Nx.re (d:=7) (v':=I ((vs ++ [u1]).length : Nat)) F (congrArg (Value.int .i64) (by rw [hvl];omega)) ?_
   exact aY (vs ++ [u1],cs ++ [c1],some ⟨y1,0,none⟩,yc,t1,b1,G1) ⟨⟨hr2,hgl⟩,hyes1,hno1,by dsimp only;omega,by dsimp only;omega⟩ (by dsimp only;omega) tU rfl (by rw [hvl];repeat (first | exact List.Sublist.refl _ | apply List.Sublist.cons_cons | apply List.Sublist.cons))
theorem ab2 {n r sc : Nat} {qs : List cF} {k s : ac8} {d : Int} (hd : d = 12 - (n : Int)) (hn : n ≤ 12) (hU : qV n sc qs) (hS : ScI G sc qs) (hk : aO (ao qs) (63 :: k) = true) (hs : s.length ≤ 1000) :
  dq ac7 96 [Pt r 0,Ag (ew (63 :: k))] G [bI r sc s false none 0 0 d] (kv (rb (ao qs) (n + 1) (63 :: k)) r sc s false d):=by
 have hk2:=dz (.inr rfl) hk
 obtain ⟨e1,e2,e3,_⟩:=ji (c:=63) (k:=k) (.inr rfl)
 have hrd:=vz (ts:=ao qs) (n:=n) (k:=k) (s:=s)
 unfold ew
 rw [e1,e2,e3]
 have cx_sign:=@i1 G 63 (sg k) (bs k) (nm k)
 have cx_pt:=@pp G 63 (sg k) (bs k) (nm k)
 cases hf : bX s with
 | none =>
  rw [hf] at hrd
  have cx_fl:=sF (G:=G) (r:=r) (sc:=sc) (n:=0) (c:=0) (s:=s) (b:=false) (a:=none) (d:=d + 1) (.inr hf) oM
  refine cy [(0,_),(1,_)] Tryz.func96 kR Tryz.ntmps96 F F tU fun B hok hB hW=>?_
  repeat' (first | refine jM ?_ | (refine jo ?_;first | refine jO fun _=>?_ | refine jL fun _=>?_ | refine ah F ?_ | refine jD F F F ?_ | refine jV (dk F F) ?_))
  rename_i x2 x3 x4
  refine jo ?_
  refine cz (fi:=[]) (ca:=[Pt x2 0]) (az:=[]) F F ?_
  repeat' (first | refine jR ?_ | (refine jo ?_;first | refine ah F ?_ | refine aB F ?_ | refine jC F F F ?_ | refine jV (al F F) ?_ | refine ab F F F cx_sign F ?_ | (refine af F F F cx_fl F ?_;rintro _ _ ⟨q1,⟨rfl,hql⟩,rfl⟩;dsimp only [zA,fA])) | refine ac F F ?_ | (refine ad F (by first | rfl | (refine decide_eq_false ?_;(omega))) ?_))
  all_goals
   refine dc (.inl F) F (cK (x0:=x2) (r:=r) (sc:=sc) (s:=q1) (b:=true) (a:=none) (n:=0) (c:=0) (d:=d + 1) oM) F ?_
   rintro v G' L' ⟨rfl,rfl⟩
   dsimp only [zA,fA]
   exact ⟨[_],[bI r sc q1 true none 0 0 (d + 1 - 1)],⟨aF F F F F,trivial⟩,sB,Gh.le.refl _,cJ (c:=⟨63,[],0,none,0,0⟩) (bq dC dC) oM (fun _=>⟨F,F,F⟩) ⟨hql,fun h=>(by cases h),fun _=>.inr hrd⟩⟩
 | some y =>
  obtain ⟨x,q⟩:=y
  rw [hf] at hrd
  have hin:=dA hf
  have hl : s.length = q.length + 1:=by rw [hin];rfl
  have cx_fl:=sE (G:=G) (r:=r) (sc:=sc) (n:=0) (c:=0) (s:=s) (q:=q) (x:=x) (a:=none) (d:=d + 1) hf oM
  cases x with
  | false =>
   refine cy [(0,_),(1,_)] Tryz.func96 kR Tryz.ntmps96 F F tU fun B hok hB hW=>?_
   repeat' (first | refine jM ?_ | (refine jo ?_;first | refine jO fun _=>?_ | refine jL fun _=>?_ | refine ah F ?_ | refine jD F F F ?_ | refine jV (dk F F) ?_))
   rename_i x2 x3 x4
   refine jo ?_
   refine cz (fi:=[]) (ca:=[Pt x2 0]) (az:=[]) F F ?_
   repeat' (first | refine jR ?_ | (refine jo ?_;first | refine ah F ?_ | refine aB F ?_ | refine jC F F F ?_ | refine jV (al F F) ?_ | refine ab F F F cx_sign F ?_ | (refine af F F F cx_fl F ?_;rintro _ _ ⟨rfl,rfl⟩;dsimp only [zA,fA])) | refine ac F F ?_ | (refine ad F (by first | rfl | (refine decide_eq_false ?_;(omega))) ?_))
   all_goals
    refine dc (.inl F) F (cK (x0:=x2) (r:=r) (sc:=sc) (s:=q) (b:=false) (a:=none) (n:=0) (c:=0) (d:=d + 1) oM) F ?_
    rintro v G' L' ⟨rfl,rfl⟩
    dsimp only [zA,fA]
    exact ⟨[_],[bI r sc q false none 0 0 (d + 1 - 1)],⟨aF F F F F,trivial⟩,sB,Gh.le.refl _,cJ (c:=⟨63,[],0,none,0,0⟩) (bq dC dC) oM (fun _=>⟨F,F,F⟩) ⟨oM,fun _=>⟨F,hrd⟩,fun h=>(by cases h)⟩⟩
  | true =>
   dsimp only at hrd
   have cx_vl:=wJ (r:=r) (d:=d + 1) oM oM (hU G r k q false hS hk2 oM)
   refine cy [(0,_),(1,_)] Tryz.func96 kR Tryz.ntmps96 F F tU fun B hok hB hW=>?_
   repeat' (first | refine jM ?_ | (refine jo ?_;first | refine jO fun _=>?_ | refine jL fun _=>?_ | refine ah F ?_ | refine jD F F F ?_ | refine jV (dk F F) ?_))
   rename_i x2 x3 x4
   refine jo ?_
   refine cz (fi:=[]) (ca:=[Pt x2 0]) (az:=[]) F F ?_
   repeat' (first | refine jR ?_ | (refine jo ?_;first | refine ah F ?_ | refine aB F ?_ | refine ab F F F cx_sign F ?_ | (refine af F F F cx_fl F ?_;rintro _ _ ⟨rfl,rfl⟩;dsimp only [zA,fA])) | refine ac F F ?_ | (refine ad F (by first | rfl | (refine decide_eq_false ?_;(omega))) ?_))
   (refine aj (am (id:=21) [.blk x3 (.cells (List.toArray [S (63 :: sg k),S (bs k),S (nm k)]) rm (0,0)),.blk x2 (.cells (List.toArray [Pt r 0]) fB (0,0))] (by intro y hy;simp only [List.mem_cons,List.not_mem_nil,or_false] at hy ⊢;rcases hy with hy | hy <;> simp [hy]) ai ?_);(refine jG (aa 7 1) 0 F (aq F F F) ?_);(refine jG (aa 7 3) 1 F (bD F F F F) ?_);refine jA 2 F ?_;(refine ab F F F cx_pt F ?_);refine jK (aa 7 7) ?_;refine jA 3 F ?_;(refine cI F F F cx_vl F ?_;rintro _ G1 _ hle ⟨u1,c1,t1,b1,rfl,hrep,rfl,hP⟩;dsimp only [zA,fA];skip);refine jK (aa 7 15) ?_;refine jA 4 F ?_;(refine jF fun _=>?_);refine jK (aa 7 31) ?_;(refine jG (aa 7 63) 5 F (al F F) ?_);refine jA 6 F ?_;(refine jC F F F ?_);refine jK (aa 7 127) ?_;refine jQ ?_)
   all_goals repeat' (refine jR ?_)
   rename_i y
   refine Nx.sealC (b:=y) fun G2 hG2 hsy=>?_
   have hsl : be G2 (.slice (some ⟨y,0,none⟩) 1 1) 4 ([c1] : List VC).length (aE ck [c1]):=⟨rfl,.inr ⟨y,0,1,rfl,Nat.le_refl _,hsy⟩⟩
   obtain ⟨hQ1,hQ2,hQ3⟩:=kL hP
   refine dc (.inl F) F (cK (x0:=x2) (r:=r) (sc:=sc) (s:=t1) (b:=b1) (a:=none) (n:=0) (c:=0) (d:=d + 1) oM) F ?_
   rintro v G' L' ⟨rfl,rfl⟩
   dsimp only [zA,fA]
   exact ⟨[_],[bI r sc t1 b1 none 0 0 (d + 1 - 1)],⟨aF F F F F,trivial⟩,sB,(hle.trans hG2),cJ (c:=⟨63,[],0,some ⟨y,0,none⟩,1,1⟩) (c0 (ks:=[u1]) dC dC (fun h=>absurd h dC) F hsl ⟨_,[],F,ge hG2 hrep,F⟩) oM (fun _=>⟨F,F,F⟩) ⟨oM,fun h=>⟨F,by rw [hrd,(hQ2 h).1];rfl⟩,fun h=>.inr (by rw [hrd,hQ3 h];rfl)⟩⟩
theorem ab1 {n r sc p : Nat} {qs : List cF} {t : Ty} {x s : ac8} {d : Int} (hd : d = 12 - (n : Int)) (hn : n ≤ 12) (hU : qV n sc qs) (hS : ScI G sc qs) (hW0 : SchW (ao qs)) (hkv : lW (gB qs) x = some (Pt p 0)) (hT : iD G p t) (hw : TyW t) (hkf : ∀ d ∈ t.fields,aO (ao qs) d.kind = true) (hso : t.sort = 82) (hs : s.length ≤ 1000) :
  dq ac7 96 [Pt r 0,Ag [S [],S [64],S x]] G [bI r sc s false none 0 0 d] (kv (bZ (ao qs) (rb (ao qs) n) t) r sc s false d):=by
 obtain ⟨u,m2,g1,g2,g3⟩:=hS.at'
 have hso' : (t.sort : Int) = 82:=oM
 have cx_sign:=@dD G [64] x
 have cx_rcd:=aa0 (G:=G) (r:=r) (s:=s) (d:=d + 1) oM hn hU hS hW0 hT hw hkf hs
 have hrd : bZ (ao qs) (rb (ao qs) n) t = fun s=>(bN (ao qs) (rb (ao qs) n) t (s.length + 1) 0 s []).map fun x=>(.nd 82 [] 0 x.1,x.2):=by
  funext s
  unfold bZ;rw [if_pos hso]
 rw [hrd]
 obtain ⟨fv,ln,h1,h2⟩:=hT
 refine cy [(0,_),(1,_)] Tryz.func96 kR Tryz.ntmps96 F F tU fun B hok hB hW=>?_
 repeat' (first | refine jM ?_ | (refine jo ?_;first | refine jO fun _=>?_ | refine jL fun _=>?_ | refine ah F ?_ | refine jD F F F ?_ | refine jV (dk F F) ?_))
 rename_i x2 x3 x4
 refine jo ?_
 refine cz (fi:=[]) (ca:=[Pt x2 0]) (az:=[]) F F ?_
 repeat' (first | refine jR ?_ | (refine jo ?_;first | refine ah F ?_ | refine aB F ?_ | refine ab F F F cx_sign F ?_) | (refine ad F (by first | rfl | (refine decide_eq_false ?_;(omega))) ?_))
 (refine aj (am (id:=34) _ (fun _ h=>h) ai ?_);refine jT 10 [7] (aa 11 128) ?_;(refine jG (aa 11 129) 0 F (aq F F F) ?_);refine jT 7 [1,2] (aa 11 135) ?_;(refine jG (aa 11 143) 3 F (aq F F F) ?_);refine jT 4 [4,5] (aa 11 191) ?_;(refine jG (aa 11 255) 6 F (aL F F aS F F) ?_);(refine jG (aa 11 511) 8 F (aq F F F) ?_);((refine jG (aa 11 1023) 9 F (cG F F (eN aS) aS F) ?_));refine jT 0 [10] (aa 11 2047) ?_;refine jQ ?_)
 all_goals repeat' (first | refine jR ?_ | (refine jo ?_;first | refine ah F ?_ | refine jV (aL F F aS F F) ?_ | refine jC F F F ?_ | (refine cI F F F cx_rcd F ?_;rintro _ G1 _ hle ⟨u1,c1,t1,b1,a1,n1,k1,rfl,hrep,rfl,hsk,hP⟩;dsimp only [zA,fA];skip)) | refine ad F (aC oM) ?_)
 all_goals
  refine dc (.inl F) F (cK (x0:=x2) (r:=r) (sc:=sc) (s:=t1) (b:=b1) (a:=a1) (n:=n1) (c:=k1) (d:=d + 1) oM) F ?_
  rintro v G' L' ⟨rfl,rfl⟩
  dsimp only [zA,fA]
  exact ⟨[_],[bI r sc t1 b1 a1 n1 k1 (d + 1 - 1)],⟨aF F F F F,trivial⟩,sB,hle,cJ (c:=c1) hrep oM (fun h=>hsk oM) hP⟩
theorem ab7 {n r sc : Nat} {qs : List cF} {c : UInt8} {k s : ac8} {t : Ty} {d : Int} (h91 : ¬ (c.toNat = 91 ∨ c.toNat = 63)) (hd : d = 12 - (n : Int)) (hn : n ≤ 12) (hU : qV n sc qs) (hS : ScI G sc qs) (hw : SchW (ao qs)) (hk : aO (ao qs) (c :: k) = true) (hrf : a7 (ao qs) (c :: k) = some t) (hs : s.length ≤ 1000) :
  dq ac7 96 [Pt r 0,Ag (ew (c :: k))] G [bI r sc s false none 0 0 d] (kv (rb (ao qs) (n + 1) (c :: k)) r sc s false d):=by
 have hko:=db hk
 have hsg:=mW (r:=k) h91
 have hcs:=fH (r:=k) h91
 have hrn : (bJ (br (c :: k))).isSome = true:=by
  rw [hcs];unfold a7 at hrf
  cases hx : bJ (c :: k) with
  | none=>rw [hx] at hrf;cases hrf
  | some x=>rfl
 have hbs : bs (c :: k) = [64]:=(nh hko).2 hrn
 have hnm : bJ (c :: k) = some (nm (c :: k)):=by
  unfold nm;rw [hcs] at hrn ⊢
  cases hx : bJ (c :: k) with
  | none=>rw [hx] at hrn;cases hrn
  | some x=>rfl
 have hft : gF (ao qs) (nm (c :: k)) = some t:=by unfold a7 at hrf;rw [hnm] at hrf;exact hrf
 have hkv:=gW qs (nm (c :: k))
 rw [← g6] at hft
 rcases hfq : eO qs (nm (c :: k)) with _ | ⟨p,t'⟩
 ·rw [hfq] at hft;cases hft
 rw [hfq] at hft hkv
 dsimp only [Option.map_some] at hft hkv
 have htt : t' = t:=Option.some.inj hft
 subst htt
 have hqm:=iw hfq
 have htm:=cj hrf
 have hW:=hw.ty t' htm
 have hT : iD G p t':=hS.ty _ hqm
 have hrd : rb (ao qs) (n + 1) (c :: k) = bZ (ao qs) (rb (ao qs) n) t':=by
  funext s
  rw [rb];unfold fx
  dsimp only
  rw [if_neg (fun h=>h91 (.inl h)),if_neg (fun h=>h91 (.inr h)),hrf]
 unfold ew
 rw [hsg,hbs,hrd]
 rcases hW.sort with h | h | h
 ·exact ab1 hd hn hU hS hw hkv hT hW (fun d hd=>dT hw htm oM hd) h hs
 ·exact abZ hd hn hU hS hkv hT hW (fun d hd=>dT hw htm oM hd) h hs
 ·exact ab6 hd hn hS hkv hT hW h hs
theorem pC {sc : Nat} {qs : List cF} (hw : SchW (ao qs)) : ∀ n,n ≤ 13 → qV n sc qs
 | 0,_=>fun G r k s b _ _ hs=>tX (.inr rfl) hs oM
 | n + 1,hn=>fun G r k s b hS hk hs=>by
  have hU:=pC (sc:=sc) hw n oM
  have ed : (13 : Int) - ((n + 1 : Nat) : Int) = 12 - (n : Int):=oM
  cases b with
  | true=>exact tX (.inl F) hs hn
  | false =>
   match k,hk with
   | [],hk=>cases hk
   | c :: k,hk =>
    by_cases h1 : c.toNat = 91
    ·obtain rfl:=bm h1 dC
     exact ab4 ed oM hU hS hk hs
    by_cases h2 : c.toNat = 63
    ·obtain rfl:=bm h2 dC
     exact ab2 ed oM hU hS hk hs
    have h91 : ¬ (c.toNat = 91 ∨ c.toNat = 63):=fun h=>by rcases h with h | h <;> omega
    cases hr : a7 (ao qs) (c :: k) with
    | some t=>exact ab7 h91 ed oM hU hS hw hk hr hs
    | none =>
     rcases eG hk h91 hr with e | e | e
     ·rw [e] at hr ⊢;exact ab3 ed oM hr hs
     ·rw [e] at hr ⊢;exact ab0 ed oM hr hs
     ·rw [e] at hr ⊢;exact ab5 ed oM hr hs
theorem wq {v : V} {c : VC} (h : V.rep G v c) (ht : v.tot ≤ 1000000) : an ac7 97 [Ag (ck c)] G (· = Bo (decide (v.out.length ≤ 400 ∧ v.deep ≤ 12))):=by
 have cx_pr:=nb (G:=G) v.tot (Nat.le_refl _) ht h
 have cx_dp:=wt (G:=G) v.tot (Nat.le_refl _) ht h
 have hdl:=n6 v
 obtain ⟨w,tx,tg,a,m,kc⟩:=c
 have e0 : ck ⟨w,tx,tg,a,m,kc⟩ = [U8 (w : Nat),S tx,I tg,.slice a m kc]:=rfl
 rw [e0] at cx_pr cx_dp ⊢
 by_cases h1 : v.out.length ≤ 400
 ·by_cases h2 : v.deep ≤ 12
  ·rw [decide_eq_true (p:=v.out.length ≤ 400 ∧ v.deep ≤ 12) ⟨h1,h2⟩]
   refine jE [(0,_)] Tryz.func97 Tryz.ntmps97 fun B hB=>?_
   repeat' (first | refine jR ?_ | (refine jo ?_;first | refine jO fun _=>?_ | refine aB F ?_ | refine aG F ?_ | refine ab F F F cx_pr F ?_ | refine ab F F F cx_dp F ?_) | refine ax F F (ay oM) ?_)
   all_goals refine jY (vs:=[_]) ?_
   all_goals (rw [aw,decide_eq_true oM])
  ·rw [decide_eq_false (p:=v.out.length ≤ 400 ∧ v.deep ≤ 12) (fun h=>h2 h.2)]
   refine jE [(0,_)] Tryz.func97 Tryz.ntmps97 fun B hB=>?_
   repeat' (first | refine jR ?_ | (refine jo ?_;first | refine jO fun _=>?_ | refine aB F ?_ | refine aG F ?_ | refine ab F F F cx_pr F ?_ | refine ab F F F cx_dp F ?_) | refine ax F F (ay oM) ?_)
   all_goals refine jY (vs:=[_]) ?_
   all_goals (rw [aw,decide_eq_false oM])
 ·rw [decide_eq_false (p:=v.out.length ≤ 400 ∧ v.deep ≤ 12) (fun h=>h1 h.1)]
  refine jE [(0,_)] Tryz.func97 Tryz.ntmps97 fun B hB=>?_
  repeat' (first | refine jR ?_ | (refine jo ?_;first | refine jO fun _=>?_ | refine aB F ?_ | refine ar F ?_ | refine ab F F F cx_pr F ?_) | refine ak F F (aC oM) ?_)
  all_goals refine jY (vs:=[_]) ?_
  all_goals rfl
theorem xo {sc : Nat} {qs : List cF} {k b : ac8} (hS : ScI G sc qs) (hw : SchW (ao qs)) (hk : aO (ao qs) k = true) (hb : b.length ≤ 1048576) (hno : ¬ (b.length ≤ 600 ∧ ∃ v,cQ (rb (ao qs) 13) k b = some v ∧ v.out.length ≤ 400 ∧ v.deep ≤ 12)) :
  bn ac7 58 [Pt sc 0,Ag [S (sg k),S (bs k),S (nm k)],S b] G (fun v _=>∃ a n c,v = Tu [Ag [U8 (0 : Nat),S [],I 0,aI],.slice a n c,Bo false]):=by
 by_cases hl : b.length ≤ 600
 case neg =>
  refine jB [(0,_),(1,_),(2,_)] Tryz.func58 Tryz.ntmps58 fun B hok hB hW=>?_
  repeat' (first | refine jR ?_ | (refine jo ?_;first | refine jO fun _=>?_ | refine jL fun _=>?_ | refine jV (al F F) ?_ | refine jC F F F ?_) | refine ac F (ay oM) ?_)
  all_goals refine jZ (vs:=[_,_,_]) F ⟨aF F F F F,F,F,trivial⟩ F ⟨Gh.le.refl _,F,?_⟩
  all_goals exact ⟨_,_,_,F⟩
 refine jB [(0,_),(1,_),(2,_)] Tryz.func58 Tryz.ntmps58 fun B hok hB hW=>?_
 repeat' (first | refine jR ?_ | (refine jo ?_;first | refine jO fun _=>?_ | refine jL fun _=>?_ | refine jV (al F F) ?_ | refine aB F ?_) | refine ad F (aC oM) ?_)
 rename_i x4 x6 y
 have hv:=pC (sc:=sc) hw 13 (Nat.le_refl _) G y k b false hS hk oM
 rw [show (13 : Int) - ((13 : Nat) : Int) = 0 from rfl] at hv
 refine jo ?_
 refine cI F F F hv F ?_
 rintro _ G1 _ hle ⟨u1,c1,t1,b1,a1,n1,k1,rfl,hrep,rfl,hsk,hP⟩
 dsimp only [zA,fA]
 obtain ⟨hQ1,hQ2,hQ3⟩:=kL hP
 clear hv hP
 cases b1 with
 | true =>
  repeat' (first | refine jR ?_ | (refine jo ?_;first | refine jL fun _=>?_ | refine jV (al F F) ?_ | refine jC F F F ?_ | refine ah F ?_ | refine aG F ?_) | refine ax F F F ?_ | refine ac F F ?_)
  all_goals refine jZ (vs:=[_,_,_]) F ⟨aF F F F F,F,F,trivial⟩ F ⟨hle,F,?_⟩
  all_goals exact ⟨_,_,_,F⟩
 | false =>
  obtain ⟨h1,h2,h3⟩:=hQ2 rfl
  cases t1 with
  | cons e t1 =>
   repeat' (first | refine jR ?_ | (refine jo ?_;first | refine jL fun _=>?_ | refine jV (al F F) ?_ | refine jC F F F ?_ | refine ah F ?_ | refine aG F ?_ | refine ar F ?_) | refine ax F F F ?_ | refine ak F F F ?_ | refine ac F F ?_)
   all_goals refine jZ (vs:=[_,_,_]) F ⟨aF F F F F,F,F,trivial⟩ F ⟨hle,F,?_⟩
   all_goals exact ⟨_,_,_,F⟩
  | nil =>
   simp only [List.length_nil] at h2
   have hnf : ¬ (u1.out.length ≤ 400 ∧ u1.deep ≤ 12):=fun h=>hno ⟨hl,u1,gf h1,h⟩
   have cx_fit:=wq hrep oM
   rw [decide_eq_false hnf] at cx_fit
   simp only [ck,VC.sl] at cx_fit
   dsimp only [ck,VC.sl]
   repeat' (first | refine jR ?_ | (refine jo ?_;first | refine jL fun _=>?_ | refine jV (al F F) ?_ | refine jC F F F ?_ | refine ah F ?_ | refine aB F ?_ | refine ar F ?_ | refine ab F F F cx_fit F ?_) | refine ak F F F ?_ | refine ac F F ?_)
   all_goals refine jZ (vs:=[_,_,_]) F ⟨aF F F F F,F,F,trivial⟩ F ⟨hle,F,?_⟩
   all_goals exact ⟨_,_,_,F⟩
theorem xn {sc : Nat} {qs : List cF} {k b : ac8} {v : V} (hS : ScI G sc qs) (hw : SchW (ao qs)) (hk : aO (ao qs) k = true) (hl : b.length ≤ 600) (hv : cQ (rb (ao qs) 13) k b = some v) (ho : v.out.length ≤ 400) (hd : v.deep ≤ 12) :
  bn ac7 58 [Pt sc 0,Ag [S (sg k),S (bs k),S (nm k)],S b] G (fun r G'=>∃ c a n k',r = Tu [Ag (ck c),.slice a n k',Bo true] ∧ V.rep G' v c):=by
 have hin:=cO hv
 refine jB [(0,_),(1,_),(2,_)] Tryz.func58 Tryz.ntmps58 fun B hok hB hW=>?_
 repeat' (first | refine jR ?_ | (refine jo ?_;first | refine jO fun _=>?_ | refine jL fun _=>?_ | refine jV (al F F) ?_ | refine aB F ?_) | refine ad F (aC oM) ?_)
 rename_i x4 x6 y
 have hv2:=pC (sc:=sc) hw 13 (Nat.le_refl _) G y k b false hS hk oM
 rw [show (13 : Int) - ((13 : Nat) : Int) = 0 from rfl] at hv2
 refine jo ?_
 refine cI F F F hv2 F ?_
 rintro _ G1 _ hle ⟨u1,c1,t1,b1,a1,n1,k1,rfl,hrep,rfl,hsk,hP⟩
 dsimp only [zA,fA]
 obtain ⟨hQ1,hQ2,hQ3⟩:=kL hP
 clear hv2 hP
 cases b1 with
 | true=>have:=hQ3 rfl;rw [hin] at this;cases this
 | false =>
  obtain ⟨h1,h2,h3⟩:=hQ2 rfl
  rw [hin] at h1
  simp only [Option.some.injEq,Prod.mk.injEq] at h1
  obtain ⟨rfl,rfl⟩:=h1
  simp only [List.length_nil] at h2
  have cx_fit:=wq hrep oM
  rw [decide_eq_true ⟨ho,hd⟩] at cx_fit
  simp only [ck,VC.sl] at cx_fit
  dsimp only [ck,VC.sl]
  repeat' (first | refine jR ?_ | (refine jo ?_;first | refine jL fun _=>?_ | refine jC F F F ?_ | refine ah F ?_ | refine aB F ?_ | refine ar F ?_ | refine ab F F F cx_fit F ?_) | refine ak F F F ?_ | refine ad F F ?_ | (refine aj (dY (id:=7) (tt:=6) F ai ?_);refine jW 5 [1,2,3] (aa 8 14) ?_;(refine jG (aa 8 15) 0 F (bD F F F F) ?_);(refine jG (aa 8 31) 4 F (aq F F F) ?_);refine jA 5 F ?_;(refine jC F F F ?_);refine jK (aa 8 63) ?_;refine jW 0 [6,7] (aa 8 255) ?_;refine jQ ?_))
  all_goals refine jZ (vs:=[_,_,_]) F ⟨aF F F F F,F,F,trivial⟩ F ⟨hle,F,?_⟩
  all_goals exact ⟨c1,_,_,_,F,hrep⟩
theorem aak {s k b : ac8} (h : bQ s k = false) : iH s k b = none:=by
 unfold iH
 unfold bQ at h
 cases hs : aQ s with
 | none=>rfl
 | some ts=>rw [hs] at h;dsimp only at h ⊢;rw [if_neg (by rw [h];simp)]
theorem kI {s k b : ac8} (h : s.length ≤ 1048576 ∧ k.length ≤ 1048576 ∧ b.length ≤ 1048576) : an ac7 25 [S s,S k,S b] G (· = kM ((iH s k b).map V.out)):=by
 by_cases hk : bQ s k = true
 case neg =>
  have hk2 : bQ s k = false:=by simpa using hk
  have cx_bo1 : ∀ G,bn ac7 52 [S s,S k] G (fun v _=>∃ p a b c,v = Tu [p,Ag [S a,S b,S c],Bo false]):=fun G=>by
   refine (jw (G:=G) (s:=s) (k:=k) oM oM).mono ?_
   rintro v G' L' ⟨h1,h2,⟨h4,p,a,b,c,rfl⟩ | ⟨b,qs,rfl,h4,h5,h6⟩⟩
   ·exact ⟨h1,h2,p,a,b,c,F⟩
   ·unfold bQ at hk;rw [h4] at hk;exact absurd h5 hk
  rw [aak hk2]
  refine jB (Post:=fun v G' L'=>G' = G ∧ L' = [] ∧ _) [(0,_),(1,_),(2,_)] Tryz.func25 Tryz.ntmps25 fun B hok hB hW=>?_
  repeat' (first | refine jR ?_ | (refine jo ?_;first | refine jL fun _=>?_ | refine jC F F F ?_ | (refine aK F F F (cx_bo1 _) F ?_;rintro _ G hle ⟨p1,a1,b1,c1,rfl⟩;skip)) | refine ac F F ?_)
  all_goals refine Nx.base hok hB ?_
  all_goals refine jY (vs:=[_,_]) ?_
  all_goals rfl
 case pos =>
  obtain ⟨ts,hs,hki⟩ : ∃ ts,aQ s = some ts ∧ aO ts k = true:=by
   unfold bQ at hk
   cases hs : aQ s with
   | none=>rw [hs] at hk;cases hk
   | some ts=>rw [hs] at hk;exact ⟨ts,F,hk⟩
  have hw:=cH hs
  have cx_boa : ∀ G,bn ac7 52 [S s,S k] G (fun v G'=>∃ b qs,v = Tu [Pt b 0,Ag [S (sg k),S (bs k),S (nm k)],Bo true] ∧ ao qs = ts ∧ ScI G' b qs):=fun G=>by
   refine (jw (G:=G) (s:=s) (k:=k) oM oM).mono ?_
   rintro v G' L' ⟨h1,h2,⟨h4,_⟩ | ⟨b,qs,rfl,h4,h5,h6⟩⟩
   ·rw [h4] at hk;cases hk
   ·rw [hs] at h4;exact ⟨h1,h2,b,qs,F,(Option.some.inj h4).symm,h6⟩
  cases hg : iH s k b with
  | none =>
   refine jB (Post:=fun v G' L'=>G' = G ∧ L' = [] ∧ _) [(0,_),(1,_),(2,_)] Tryz.func25 Tryz.ntmps25 fun B hok hB hW=>?_
   repeat' (first | refine jR ?_ | (refine jo ?_;first | refine jL fun _=>?_ | refine jC F F F ?_ | refine aB F ?_ | (refine aK F F F (cx_boa _) F ?_;rintro _ G hle ⟨ba,qa,rfl,hT1,hR1⟩;skip)) | refine ad F F ?_)
   subst hT1
   have cx_fb0:=xo (G:=G) (b:=b) hR1 hw hki oM (fun h=>by
    obtain ⟨a1,v,a2,a3⟩:=h
    unfold iH at hg
    rw [hs] at hg
    dsimp only at hg
    rw [if_pos ⟨hki,a1⟩,a2] at hg
    dsimp only at hg
    rw [if_pos a3] at hg
    cases hg)
   repeat' (first | refine jR ?_ | (refine jo ?_;first | refine jL fun _=>?_ | refine jC F F F ?_ | (refine aK F F F cx_fb0 F ?_;rintro _ G hle ⟨za,zn,zk,rfl⟩;skip)) | refine ac F F ?_)
   all_goals refine Nx.base hok hB ?_
   all_goals refine jY (vs:=[_,_]) ?_
   all_goals rfl
  | some v =>
   obtain ⟨ts',hs',_,hl,hr,ho,hd⟩:=pQ hg
   obtain rfl : ts = ts':=by rw [hs] at hs';exact Option.some.inj hs'
   have htot:=je _ _ _ _ _ (cO hr)
   simp only [List.length_nil] at htot
   refine jB (Post:=fun v G' L'=>G' = G ∧ L' = [] ∧ _) [(0,_),(1,_),(2,_)] Tryz.func25 Tryz.ntmps25 fun B hok hB hW=>?_
   repeat' (first | refine jR ?_ | (refine jo ?_;first | refine jL fun _=>?_ | refine jC F F F ?_ | refine aB F ?_ | (refine aK F F F (cx_boa _) F ?_;rintro _ G hle ⟨ba,qa,rfl,hT1,hR1⟩;skip)) | refine ad F F ?_)
   subst hT1
   have cx_fb1:=xn (G:=G) (b:=b) hR1 hw hki hl hr ho hd
   clear hr
   unfold kM
   dsimp only [Option.map,Option.getD,Option.isSome]
   repeat' (first | refine jR ?_ | (refine jo ?_;first | refine jL fun _=>?_ | refine jC F F F ?_ | refine aB F ?_ | (refine aK F F F cx_fb1 F ?_;rintro _ G hle ⟨c1,za,zn,zk,rfl,hrep⟩;skip)) | refine ad F F ?_)
   have cx_pr:=nb (G:=G) v.tot (Nat.le_refl _) oM hrep
   simp only [ck,VC.sl] at cx_pr
   generalize v.out = vo at cx_pr ⊢
   repeat' (first | refine jR ?_ | (refine jo ?_;refine ab F F F cx_pr F ?_))
   all_goals refine Nx.base hok hB ?_
   all_goals refine jY (vs:=[_,_]) ?_
   all_goals rfl
theorem lY {s k b : ac8} (h : s.length ≤ 1048576 ∧ k.length ≤ 1048576 ∧ b.length ≤ 1048576) : an ac7 43 [S s,S k,S b] G (· = Bo (cr s k b).isSome):=by
 have cx_bg1:=kI (G:=G) h
 cases hg : iH s k b with
 | none =>
  rw [hg] at cx_bg1
  unfold kM at cx_bg1
  dsimp only [Option.map,Option.getD,Option.isSome] at cx_bg1
  rw [yB hg]
  refine jE [(0,_),(1,_),(2,_)] Tryz.func43 Tryz.ntmps43 fun B hB=>?_
  repeat' (first | refine jR ?_ | (refine jo ?_;refine ab F F F cx_bg1 F ?_) | refine ac F F ?_)
  all_goals refine jY (vs:=[_]) ?_
  all_goals rfl
 | some v =>
  obtain ⟨ts,hs,hki,hl,hr,ho,hd⟩:=pQ hg
  rw [hg] at cx_bg1
  unfold kM at cx_bg1
  dsimp only [Option.map,Option.getD,Option.isSome] at cx_bg1
  have hpb:=nJ hs hki (lb _ _ _ _ (cO hr)).1 hd ho
  have cx_bp1:=kH (G:=G) (s:=s) (k:=k) (w:=v.out) oM
  rw [hpb] at cx_bp1
  have hcn:=uJ hg
  clear hg hpb hr
  generalize v.out = vo at cx_bg1 cx_bp1
  by_cases h6 : v.bys.length ≤ 600
  ·rw [if_pos h6] at cx_bp1
   dsimp only [Option.getD,Option.isSome] at cx_bp1
   have hres : (cr s k b).isSome = decide (v.bys = b):=by
    rw [hcn]
    by_cases h1 : v.bys = b
    ·rw [if_pos h1,decide_eq_true h1];rfl
    ·rw [if_neg h1,decide_eq_false h1];rfl
   rw [hres]
   clear hres hcn
   generalize v.bys = vb at cx_bp1 ⊢
   refine jE [(0,_),(1,_),(2,_)] Tryz.func43 Tryz.ntmps43 fun B hB=>?_
   repeat' (first | refine jR ?_ | (refine jo ?_;first | refine aG F ?_ | refine ab F F F cx_bg1 F ?_ | refine ab F F F cx_bp1 F ?_) | refine ax F F F ?_ | refine ad F F ?_)
   all_goals refine jY (vs:=[_]) ?_
   all_goals rfl
  ·rw [if_neg h6] at cx_bp1
   dsimp only [Option.getD,Option.isSome] at cx_bp1
   rw [if_neg (fun h1=>by rw [h1] at h6;exact h6 hl)] at hcn
   rw [hcn]
   refine jE [(0,_),(1,_),(2,_)] Tryz.func43 Tryz.ntmps43 fun B hB=>?_
   repeat' (first | refine jR ?_ | (refine jo ?_;first | refine ar F ?_ | refine ab F F F cx_bg1 F ?_ | refine ab F F F cx_bp1 F ?_) | refine ak F F F ?_ | refine ad F F ?_)
   all_goals refine jY (vs:=[_]) ?_
   all_goals rfl
theorem we {s x : ac8} {u : Value} {a : List Mt} (hu : be G u 3 a.length (aE eL a)) (hn : a.length ≤ 1048576) : an ac7 31 [Ag [S s,u],S x] G (fun v=>∃ m1 m2 m3 b,v = Tu [Ag [S m1,S m2,S m3],Bo b]):=by
 have h2:=hC (s:=s) (x:=x) hu hn
 cases hf : cS a x with
 | none=>rw [hf] at h2;exact h2.mono fun v G' L' h=>⟨h.1,h.2.1,_,_,_,_,h.2.2⟩
 | some m=>rw [hf] at h2;exact h2.mono fun v G' L' h=>⟨h.1,h.2.1,_,_,_,_,h.2.2⟩
theorem iZ {s x : ac8} {a : List Mt} (h : cR x = none ∨ (∃ n r,cR x = some (n,r) ∧ b5 r = none) ∨ cL s a = false) : il s a x = none:=by
 unfold il
 rcases h with h | ⟨n,r,h1,h2⟩ | h
 ·rw [h]
 ·rw [h1];dsimp only;rw [h2]
 ·cases cR x with
  | none=>rfl
  | some z =>
   obtain ⟨n,r⟩:=z
   dsimp only
   cases b5 r with
   | none=>rfl
   | some y =>
    obtain ⟨nm,b⟩:=y
    dsimp only
    cases cS a nm with
    | none=>rfl
    | some m=>dsimp only;rw [if_neg (by rw [h];simp)]
theorem vg {s x : ac8} {u : Value} {a : List Mt} (h : s.length ≤ 1048576 ∧ x.length ≤ 1048576) (hu : be G u 3 a.length (aE eL a)) (hn : a.length ≤ 1048576) (ha : ∀ x ∈ a,gP x) :
  an ac7 11 [Ag [S s,u],S x] G (· = uV (il s a x)):=by
 have hu1:=hu.one
 have cx_jf:=nF (G:=G) (s:=x) h.2
 unfold kM at cx_jf
 have cx_so:=gL h.1 hu hn ha
 cases hj : em x with
 | none =>
  rw [hj] at cx_jf
  dsimp only [Option.getD,Option.isSome] at cx_jf
  rw [iZ (.inl (by unfold cR;rw [hj]))]
  cases e1 : cL s a with
  | false =>
   have cx_so1 : an ac7 32 [Ag [S s,u]] G (· = Bo false):=by rw [← e1];exact cx_so
   clear cx_so
   refine jE [(0,_),(1,_)] Tryz.func11 Tryz.ntmps11 fun B hB=>?_
   repeat' (first | refine jR ?_ | (refine jo ?_;first | refine jO fun _=>?_ | refine aG F ?_ | refine ab F F F cx_jf F ?_) | refine ax F F F ?_ | refine ac F F ?_)
   all_goals refine jY (vs:=[_,_,_,_]) ?_
   all_goals rfl
  | true =>
   have cx_so1 : an ac7 32 [Ag [S s,u]] G (· = Bo true):=by rw [← e1];exact cx_so
   clear cx_so
   refine jE [(0,_),(1,_)] Tryz.func11 Tryz.ntmps11 fun B hB=>?_
   repeat' (first | refine jR ?_ | (refine jo ?_;first | refine jO fun _=>?_ | refine aG F ?_ | refine ab F F F cx_jf F ?_) | refine ax F F F ?_ | refine ac F F ?_)
   all_goals refine jY (vs:=[_,_,_,_]) ?_
   all_goals rfl
 | some body =>
  have hbl:=lj hj
  rw [hj] at cx_jf
  dsimp only [Option.getD,Option.isSome] at cx_jf
  cases e1 : cL s a with
  | false =>
   have cx_so1 : an ac7 32 [Ag [S s,u]] G (· = Bo false):=by rw [← e1];exact cx_so
   clear cx_so
   rw [iZ (.inr (.inr e1))]
   refine jE [(0,_),(1,_)] Tryz.func11 Tryz.ntmps11 fun B hB=>?_
   repeat' (first | refine jR ?_ | (refine jo ?_;first | refine jO fun _=>?_ | refine aB F ?_ | refine ar F ?_ | refine ab F F F cx_jf F ?_ | refine ab F F F cx_so1 F ?_) | refine ak F F F ?_ | refine ac F F ?_)
   all_goals refine jY (vs:=[_,_,_,_]) ?_
   all_goals rfl
  | true =>
   have cx_so1 : an ac7 32 [Ag [S s,u]] G (· = Bo true):=by rw [← e1];exact cx_so
   clear cx_so
   have hma:=fun x=>we (G:=G) (s:=s) (x:=x) hu hn
   cases hg : bj body with
   | none =>
    rw [iZ (.inl (by unfold cR;rw [hj];dsimp only;rw [hg]))]
    have hnb : ∀ y,bM ac7 41 [Pt y 0] G [c9 y body false none 0 0 0] (fun v L'=>v = I 0 ∧ L' = [c9 y [] true none 0 0 0]):=fun y=>nf hg oM
    have hnb2 : ∀ y,bM ac7 41 [Pt y 0] G [c9 y [] true none 0 0 0] (fun v L'=>v = I 0 ∧ L' = [c9 y [] true none 0 0 0]):=fun y=>nf rfl (by simp)
    have htk : ∀ y,bM ac7 42 [Pt y 0,I 0] G [c9 y [] true none 0 0 0] (fun v L'=>v = S [] ∧ L' = [c9 y [] true none 0 0 0]):=fun y=>lH (m:=0) (.inl rfl) ⟨by simp,oM⟩
    refine jE [(0,_),(1,_)] Tryz.func11 Tryz.ntmps11 fun B hB=>?_
    repeat' (first | refine jR ?_ | (refine jo ?_;first | refine jO fun _=>?_ | refine aB F ?_ | refine ar F ?_ | refine jV (al F F) ?_ | refine ab F F F cx_jf F ?_ | refine ab F F F cx_so1 F ?_) | refine ak F F F ?_ | refine ad F F ?_)
    rename_i xs y
    have cx_nb:=hnb y
    have cx_nb2:=hnb2 y
    have cx_tkb:=htk y
    repeat' (first | refine jR ?_ | (refine jo ?_;first | refine aB F ?_ | (refine af F F F cx_nb F ?_;rintro _ _ ⟨rfl,rfl⟩;dsimp only [zA,fA]) | (refine af F F F cx_nb2 F ?_;rintro _ _ ⟨rfl,rfl⟩;dsimp only [zA,fA]) | (refine af F F F cx_tkb F ?_;rintro _ _ ⟨rfl,rfl⟩;dsimp only [zA,fA])))
    refine jo ?_
    refine cN F F F (hma _) F ?_
    rintro _ ⟨m1,m2,m3,b2,rfl⟩
    cases b2
    all_goals repeat' (first | refine jR ?_ | (refine jo ?_;first | refine jL fun _=>?_ | refine jC F F F ?_) | refine ac F F ?_ | (refine aj (am (id:=8) _ (fun _ h=>h) ai ?_);refine jT 22 [0,1,2] (aa 25 7) ?_;(try (first | refine Nx.re (d:=45) (v':=Bo true) F (congrArg Value.bool F) ?_ | refine Nx.re (d:=45) (v':=Bo false) F (congrArg Value.bool F) ?_));refine jT 19 [3,4,5] (aa 25 63) ?_;(first | refine jG (aa 25 127) 6 F (aq F F F) ?_ | refine jN (aa 25 127) 6 F ?_);(first | refine jG (aa 25 255) 7 F (a6 F F F) ?_ | refine jG (aa 25 255) 7 F (aJ F F F) ?_);refine jT 16 [8] (aa 25 511) ?_;(try (refine Nx.re (d:=51) (v':=Bo true) F (congrArg Value.bool F) ?_));refine jT 15 [9] (aa 25 1023) ?_;(refine jN (aa 25 2047) 10 F ?_);refine jT 13 [11] (aa 25 4095) ?_;(refine jG (aa 25 8191) 12 F (a6 F F F) ?_);refine jT 11 [13] (aa 25 16383) ?_;(try (refine Nx.re (d:=56) (v':=Bo true) F (congrArg Value.bool F) ?_));refine jT 6 [14,16,18,19,20] (aa 25 1933311) ?_;(refine jN (aa 25 1966079) 15 F ?_);(refine jN (aa 25 2097151) 17 F ?_);(refine jN (aa 25 4194303) 21 F ?_);(refine jN (aa 25 8388607) 22 F ?_);refine jT 1 [23] (aa 25 16777215) ?_;(refine jG (aa 25 33554431) 24 F (a6 F F F) ?_);refine jQ ?_))
    all_goals refine jY (vs:=[_,_,_,_]) ?_
    all_goals rfl
   | some z =>
    obtain ⟨m,q⟩:=z
    obtain ⟨hm0,hm1,_⟩:=cn hg
    have hql:=bE hg
    have hbad : b5 q = none → il s a x = none:=fun ht=>by
     by_cases hm9 : m ≤ 999
     ·exact iZ (.inr (.inl ⟨m,q,by unfold cR;rw [hj];dsimp only;rw [hg];dsimp only;rw [if_pos hm9],ht⟩))
     ·exact iZ (.inl (by unfold cR;rw [hj];dsimp only;rw [hg];dsimp only;rw [if_neg hm9]))
    rcases fD (s:=q) with ⟨hg2,ht⟩ | ⟨m3,q2,hg2,hm3,⟨hl3,ht⟩ | ⟨hl3,ht⟩⟩
    ·rw [hbad ht]
     have hnb : ∀ y,bM ac7 41 [Pt y 0] G [c9 y body false none 0 0 0] (fun v L'=>v = I m ∧ L' = [c9 y q false none 0 0 0]):=fun y=>i2 hg oM
     have hnb2 : ∀ y,bM ac7 41 [Pt y 0] G [c9 y q false none 0 0 0] (fun v L'=>v = I 0 ∧ L' = [c9 y [] true none 0 0 0]):=fun y=>nf hg2 oM
     have htk : ∀ y,bM ac7 42 [Pt y 0,I 0] G [c9 y [] true none 0 0 0] (fun v L'=>v = S [] ∧ L' = [c9 y [] true none 0 0 0]):=fun y=>lH (m:=0) (.inl rfl) ⟨by simp,oM⟩
     refine jE [(0,_),(1,_)] Tryz.func11 Tryz.ntmps11 fun B hB=>?_
     repeat' (first | refine jR ?_ | (refine jo ?_;first | refine jO fun _=>?_ | refine aB F ?_ | refine ar F ?_ | refine jV (al F F) ?_ | refine ab F F F cx_jf F ?_ | refine ab F F F cx_so1 F ?_) | refine ak F F F ?_ | refine ad F F ?_)
     rename_i xs y
     have cx_nb:=hnb y
     have cx_nb2:=hnb2 y
     have cx_tkb:=htk y
     repeat' (first | refine jR ?_ | (refine jo ?_;first | refine aB F ?_ | (refine af F F F cx_nb F ?_;rintro _ _ ⟨rfl,rfl⟩;dsimp only [zA,fA]) | (refine af F F F cx_nb2 F ?_;rintro _ _ ⟨rfl,rfl⟩;dsimp only [zA,fA]) | (refine af F F F cx_tkb F ?_;rintro _ _ ⟨rfl,rfl⟩;dsimp only [zA,fA])))
     refine jo ?_
     refine cN F F F (hma _) F ?_
     rintro _ ⟨m1,m2,m3,b2,rfl⟩
     cases b2
     all_goals repeat' (first | refine jR ?_ | (refine jo ?_;first | refine jL fun _=>?_ | refine jC F F F ?_) | refine ac F F ?_ | (refine aj (am (id:=8) _ (fun _ h=>h) ai ?_);refine jT 22 [0,1,2] (aa 25 7) ?_;(try (first | refine Nx.re (d:=45) (v':=Bo true) F (congrArg Value.bool F) ?_ | refine Nx.re (d:=45) (v':=Bo false) F (congrArg Value.bool F) ?_));refine jT 19 [3,4,5] (aa 25 63) ?_;(first | refine jG (aa 25 127) 6 F (aq F F F) ?_ | refine jN (aa 25 127) 6 F ?_);(first | refine jG (aa 25 255) 7 F (a6 F F F) ?_ | refine jG (aa 25 255) 7 F (aJ F F F) ?_);refine jT 16 [8] (aa 25 511) ?_;(try (refine Nx.re (d:=51) (v':=Bo true) F (congrArg Value.bool F) ?_));refine jT 15 [9] (aa 25 1023) ?_;(refine jN (aa 25 2047) 10 F ?_);refine jT 13 [11] (aa 25 4095) ?_;(refine jG (aa 25 8191) 12 F (a6 F F F) ?_);refine jT 11 [13] (aa 25 16383) ?_;(try (refine Nx.re (d:=56) (v':=Bo true) F (congrArg Value.bool F) ?_));refine jT 6 [14,16,18,19,20] (aa 25 1933311) ?_;(refine jN (aa 25 1966079) 15 F ?_);(refine jN (aa 25 2097151) 17 F ?_);(refine jN (aa 25 4194303) 21 F ?_);(refine jN (aa 25 8388607) 22 F ?_);refine jT 1 [23] (aa 25 16777215) ?_;(refine jG (aa 25 33554431) 24 F (a6 F F F) ?_);refine jQ ?_))
     all_goals refine jY (vs:=[_,_,_,_]) ?_
     all_goals rfl
    ·rw [hbad ht]
     have hql2:=bE hg2
     have hnb : ∀ y,bM ac7 41 [Pt y 0] G [c9 y body false none 0 0 0] (fun v L'=>v = I m ∧ L' = [c9 y q false none 0 0 0]):=fun y=>i2 hg oM
     have hnb2 : ∀ y,bM ac7 41 [Pt y 0] G [c9 y q false none 0 0 0] (fun v L'=>v = I (m3 : Nat) ∧ L' = [c9 y q2 false none 0 0 0]):=fun y=>i2 hg2 oM
     have htk : ∀ y,bM ac7 42 [Pt y 0,I (m3 : Nat)] G [c9 y q2 false none 0 0 0] (fun v L'=>v = S [] ∧ L' = [c9 y q2 true none 0 0 0]):=fun y=>lH (m:=m3) (.inr hl3) ⟨oM,oM⟩
     refine jE [(0,_),(1,_)] Tryz.func11 Tryz.ntmps11 fun B hB=>?_
     repeat' (first | refine jR ?_ | (refine jo ?_;first | refine jO fun _=>?_ | refine aB F ?_ | refine ar F ?_ | refine jV (al F F) ?_ | refine ab F F F cx_jf F ?_ | refine ab F F F cx_so1 F ?_) | refine ak F F F ?_ | refine ad F F ?_)
     rename_i xs y
     have cx_nb:=hnb y
     have cx_nb2:=hnb2 y
     have cx_tkb:=htk y
     repeat' (first | refine jR ?_ | (refine jo ?_;first | refine aB F ?_ | (refine af F F F cx_nb F ?_;rintro _ _ ⟨rfl,rfl⟩;dsimp only [zA,fA]) | (refine af F F F cx_nb2 F ?_;rintro _ _ ⟨rfl,rfl⟩;dsimp only [zA,fA]) | (refine af F F F cx_tkb F ?_;rintro _ _ ⟨rfl,rfl⟩;dsimp only [zA,fA])))
     refine jo ?_
     refine cN F F F (hma _) F ?_
     rintro _ ⟨m1,m2,m3,b2,rfl⟩
     cases b2
     all_goals repeat' (first | refine jR ?_ | (refine jo ?_;first | refine jL fun _=>?_ | refine jC F F F ?_) | refine ac F F ?_ | (refine aj (am (id:=8) _ (fun _ h=>h) ai ?_);refine jT 22 [0,1,2] (aa 25 7) ?_;(try (first | refine Nx.re (d:=45) (v':=Bo true) F (congrArg Value.bool F) ?_ | refine Nx.re (d:=45) (v':=Bo false) F (congrArg Value.bool F) ?_));refine jT 19 [3,4,5] (aa 25 63) ?_;(first | refine jG (aa 25 127) 6 F (aq F F F) ?_ | refine jN (aa 25 127) 6 F ?_);(first | refine jG (aa 25 255) 7 F (a6 F F F) ?_ | refine jG (aa 25 255) 7 F (aJ F F F) ?_);refine jT 16 [8] (aa 25 511) ?_;(try (refine Nx.re (d:=51) (v':=Bo true) F (congrArg Value.bool F) ?_));refine jT 15 [9] (aa 25 1023) ?_;(refine jN (aa 25 2047) 10 F ?_);refine jT 13 [11] (aa 25 4095) ?_;(refine jG (aa 25 8191) 12 F (a6 F F F) ?_);refine jT 11 [13] (aa 25 16383) ?_;(try (refine Nx.re (d:=56) (v':=Bo true) F (congrArg Value.bool F) ?_));refine jT 6 [14,16,18,19,20] (aa 25 1933311) ?_;(refine jN (aa 25 1966079) 15 F ?_);(refine jN (aa 25 2097151) 17 F ?_);(refine jN (aa 25 4194303) 21 F ?_);(refine jN (aa 25 8388607) 22 F ?_);refine jT 1 [23] (aa 25 16777215) ?_;(refine jG (aa 25 33554431) 24 F (a6 F F F) ?_);refine jQ ?_))
     all_goals refine jY (vs:=[_,_,_,_]) ?_
     all_goals rfl
    have hql2:=bE hg2
    have htl : (q2.take m3).length ≤ 100:=by rw [List.length_take];omega
    have hdl : (q2.drop m3).length ≤ 100:=by rw [List.length_drop];omega
    have hnb : ∀ y,bM ac7 41 [Pt y 0] G [c9 y body false none 0 0 0] (fun v L'=>v = I m ∧ L' = [c9 y q false none 0 0 0]):=fun y=>i2 hg oM
    have hnb2 : ∀ y,bM ac7 41 [Pt y 0] G [c9 y q false none 0 0 0] (fun v L'=>v = I (m3 : Nat) ∧ L' = [c9 y q2 false none 0 0 0]):=fun y=>i2 hg2 oM
    have htk : ∀ y,bM ac7 42 [Pt y 0,I (m3 : Nat)] G [c9 y q2 false none 0 0 0] (fun v L'=>v = S (q2.take m3) ∧ L' = [c9 y (q2.drop m3) false none 0 0 0]):=fun y=>oi (m:=m3) ⟨hl3,oM⟩
    have cx_f0:=hC (s:=s) (x:=q2.take m3) hu hn
    have ho : m ≤ 999 → cR x = some (m,q):=fun hm9=>by unfold cR;rw [hj];dsimp only;rw [hg];dsimp only;rw [if_pos hm9]
    have ho2 : ¬ m ≤ 999 → il s a x = none:=fun hm9=>iZ (.inl (by unfold cR;rw [hj];dsimp only;rw [hg];dsimp only;rw [if_neg hm9]))
    have hco : m ≤ 999 → il s a x = match cS a (q2.take m3) with
     | some mt=>(cr s mt.2.1 (q2.drop m3)).map fun v=>(m,q2.take m3,v)
     | none=>none:=fun hm9=>by
      unfold il
      rw [ho hm9];dsimp only;rw [ht];dsimp only
      cases cS a (q2.take m3) with
      | none=>rfl
      | some mt=>dsimp only;rw [if_pos e1]
    clear ho hbad hg hg2 ht hj
    cases hf : cS a (q2.take m3) with
    | none =>
     rw [hf] at cx_f0
     have cx_find : an ac7 31 [Ag [S s,u],S (q2.take m3)] G (· = Tu [Ag [S [],S [],S []],Bo false]):=cx_f0
     clear cx_f0
     have hres : il s a x = none:=by
      by_cases hm9 : m ≤ 999
      ·rw [hco hm9,hf]
      ·exact ho2 hm9
     rw [hres]
     clear hco ho2 hf hres
     refine jE [(0,_),(1,_)] Tryz.func11 Tryz.ntmps11 fun B hB=>?_
     repeat' (first | refine jR ?_ | (refine jo ?_;first | refine jO fun _=>?_ | refine aB F ?_ | refine ar F ?_ | refine jV (al F F) ?_ | refine ab F F F cx_jf F ?_ | refine ab F F F cx_so1 F ?_) | refine ak F F F ?_ | refine ad F F ?_)
     rename_i xs y
     have cx_nb:=hnb y
     have cx_nb2:=hnb2 y
     have cx_tkb:=htk y
     repeat' (first | refine jR ?_ | (refine jo ?_;first | refine aB F ?_ | refine jL fun _=>?_ | refine jC F F F ?_ | (refine af F F F cx_nb F ?_;rintro _ _ ⟨rfl,rfl⟩;dsimp only [zA,fA]) | (refine af F F F cx_nb2 F ?_;rintro _ _ ⟨rfl,rfl⟩;dsimp only [zA,fA]) | (refine af F F F cx_tkb F ?_;rintro _ _ ⟨rfl,rfl⟩;dsimp only [zA,fA]) | refine ab F F F cx_find F ?_) | refine ac F F ?_ | (refine aj (am (id:=8) _ (fun _ h=>h) ai ?_);refine jT 22 [0,1,2] (aa 25 7) ?_;(try (refine Nx.re (d:=45) (v':=Bo true) F (congrArg Value.bool F) ?_));refine jT 19 [3,4,5] (aa 25 63) ?_;(refine jN (aa 25 127) 6 F ?_);(refine jG (aa 25 255) 7 F (a6 F F F) ?_);refine jT 16 [8] (aa 25 511) ?_;(try (refine Nx.re (d:=51) (v':=Bo true) F (congrArg Value.bool F) ?_));refine jT 15 [9] (aa 25 1023) ?_;(refine jN (aa 25 2047) 10 F ?_);refine jT 13 [11] (aa 25 4095) ?_;(refine jG (aa 25 8191) 12 F (a6 F F F) ?_);refine jT 11 [13] (aa 25 16383) ?_;(try (refine Nx.re (d:=56) (v':=Bo true) F (congrArg Value.bool F) ?_));refine jT 6 [14,16,18,19,20] (aa 25 1933311) ?_;(refine jN (aa 25 1966079) 15 F ?_);(refine jN (aa 25 2097151) 17 F ?_);(refine jN (aa 25 4194303) 21 F ?_);(refine jN (aa 25 8388607) 22 F ?_);refine jT 1 [23] (aa 25 16777215) ?_;(refine jG (aa 25 33554431) 24 F (a6 F F F) ?_);refine jQ ?_))
     all_goals refine jY (vs:=[_,_,_,_]) ?_
     all_goals rfl
    | some mt =>
     rw [hf] at cx_f0
     have cx_find : an ac7 31 [Ag [S s,u],S (q2.take m3)] G (· = Tu [Ag [S mt.1,S mt.2.1,S mt.2.2],Bo true]):=cx_f0
     clear cx_f0
     have hxm:=ha _ (List.mem_of_find?_eq_some hf)
     have cx_bc1:=lY (G:=G) (s:=s) (k:=mt.2.1) (b:=q2.drop m3) ⟨h.1,oM,oM⟩
     have cx_bg1:=kI (G:=G) (s:=s) (k:=mt.2.1) (b:=q2.drop m3) ⟨h.1,oM,oM⟩
     by_cases hm9 : m ≤ 999
     case neg =>
      have cx_nok : an ac7 33 [I m] G (· = Bo false):=by
       rw [← eH (n:=m) (b:=false) (decide_eq_false fun h=>hm9 h.2)];exact dJ
      rw [ho2 hm9]
      clear hco ho2 hf
      generalize (cr s mt.2.1 (q2.drop m3)).isSome = cb at *
      refine jE [(0,_),(1,_)] Tryz.func11 Tryz.ntmps11 fun B hB=>?_
      repeat' (first | refine jR ?_ | (refine jo ?_;first | refine jO fun _=>?_ | refine aB F ?_ | refine ar F ?_ | refine jV (al F F) ?_ | refine ab F F F cx_jf F ?_ | refine ab F F F cx_so1 F ?_) | refine ak F F F ?_ | refine ad F F ?_)
      rename_i xs y
      have cx_nb:=hnb y
      have cx_nb2:=hnb2 y
      have cx_tkb:=htk y
      repeat' (first | refine jR ?_ | (refine jo ?_;first | refine aB F ?_ | refine jL fun _=>?_ | refine jC F F F ?_ | (refine af F F F cx_nb F ?_;rintro _ _ ⟨rfl,rfl⟩;dsimp only [zA,fA]) | (refine af F F F cx_nb2 F ?_;rintro _ _ ⟨rfl,rfl⟩;dsimp only [zA,fA]) | (refine af F F F cx_tkb F ?_;rintro _ _ ⟨rfl,rfl⟩;dsimp only [zA,fA]) | refine ab F F F cx_find F ?_) | refine ac F F ?_ | (refine aj (am (id:=8) _ (fun _ h=>h) ai ?_);refine jT 22 [0,1,2] (aa 25 7) ?_;(try (refine Nx.re (d:=45) (v':=Bo false) F (congrArg Value.bool F) ?_));refine jT 19 [3,4,5] (aa 25 63) ?_;(refine jG (aa 25 127) 6 F (aq F F F) ?_);(refine jG (aa 25 255) 7 F (aJ F F F) ?_);refine jT 16 [8] (aa 25 511) ?_;(try (refine Nx.re (d:=51) (v':=Bo false) F (congrArg Value.bool F) ?_));refine jT 15 [9] (aa 25 1023) ?_;(refine jA 10 F ?_;(refine ab F F F cx_nok F ?_);refine jS (aa 25 2047) ?_);refine jT 13 [11] (aa 25 4095) ?_;(refine jG (aa 25 8191) 12 F (aJ F F F) ?_);refine jT 11 [13] (aa 25 16383) ?_;(try (refine Nx.re (d:=56) (v':=Bo true) F (congrArg Value.bool F) ?_));refine jT 6 [14,16,18,19,20] (aa 25 1933311) ?_;(refine jN (aa 25 1966079) 15 F ?_);(refine jN (aa 25 2097151) 17 F ?_);(refine jN (aa 25 4194303) 21 F ?_);(refine jN (aa 25 8388607) 22 F ?_);refine jT 1 [23] (aa 25 16777215) ?_;(refine jG (aa 25 33554431) 24 F (a6 F F F) ?_);refine jQ ?_))
      all_goals refine jY (vs:=[_,_,_,_]) ?_
      all_goals rfl
     have cx_nok : an ac7 33 [I m] G (· = Bo true):=by
      rw [← eH (n:=m) (b:=true) (decide_eq_true ⟨hm0,hm9⟩)];exact dJ
     rw [hco hm9,hf]
     dsimp only
     cases hc : cr s mt.2.1 (q2.drop m3) with
     | none =>
      rw [hc] at cx_bc1
      dsimp only [Option.isSome] at cx_bc1
      clear hco ho2 hf hc cx_bg1
      refine jE [(0,_),(1,_)] Tryz.func11 Tryz.ntmps11 fun B hB=>?_
      repeat' (first | refine jR ?_ | (refine jo ?_;first | refine jO fun _=>?_ | refine aB F ?_ | refine ar F ?_ | refine jV (al F F) ?_ | refine ab F F F cx_jf F ?_ | refine ab F F F cx_so1 F ?_) | refine ak F F F ?_ | refine ad F F ?_)
      rename_i xs y
      have cx_nb:=hnb y
      have cx_nb2:=hnb2 y
      have cx_tkb:=htk y
      repeat' (first | refine jR ?_ | (refine jo ?_;first | refine aB F ?_ | refine jL fun _=>?_ | refine jC F F F ?_ | (refine af F F F cx_nb F ?_;rintro _ _ ⟨rfl,rfl⟩;dsimp only [zA,fA]) | (refine af F F F cx_nb2 F ?_;rintro _ _ ⟨rfl,rfl⟩;dsimp only [zA,fA]) | (refine af F F F cx_tkb F ?_;rintro _ _ ⟨rfl,rfl⟩;dsimp only [zA,fA]) | refine ab F F F cx_find F ?_) | refine ac F F ?_ | (refine aj (am (id:=8) _ (fun _ h=>h) ai ?_);refine jT 22 [0,1,2] (aa 25 7) ?_;(try (refine Nx.re (d:=45) (v':=Bo false) F (congrArg Value.bool F) ?_));refine jT 19 [3,4,5] (aa 25 63) ?_;(refine jG (aa 25 127) 6 F (aq F F F) ?_);(refine jG (aa 25 255) 7 F (aJ F F F) ?_);refine jT 16 [8] (aa 25 511) ?_;(try (refine Nx.re (d:=51) (v':=Bo false) F (congrArg Value.bool F) ?_));refine jT 15 [9] (aa 25 1023) ?_;(refine jA 10 F ?_;(refine ab F F F cx_nok F ?_);refine jS (aa 25 2047) ?_);refine jT 13 [11] (aa 25 4095) ?_;(refine jG (aa 25 8191) 12 F (aJ F F F) ?_);refine jT 11 [13] (aa 25 16383) ?_;(try (refine Nx.re (d:=56) (v':=Bo false) F (congrArg Value.bool F) ?_));refine jT 6 [14,16,18,19,20] (aa 25 1933311) ?_;(refine jG (aa 25 1966079) 15 F (aq F F F) ?_);(refine jG (aa 25 2097151) 17 F (aq F F F) ?_);(refine jG (aa 25 4194303) 21 F (aq F F F) ?_);(refine jA 22 F ?_;(refine ab F F F cx_bc1 F ?_);refine jS (aa 25 8388607) ?_);refine jT 1 [23] (aa 25 16777215) ?_;(refine jG (aa 25 33554431) 24 F (aJ F F F) ?_);refine jQ ?_))
      all_goals refine jY (vs:=[_,_,_,_]) ?_
      all_goals rfl
     | some v =>
      rw [hc] at cx_bc1
      rw [lE hc] at cx_bg1
      unfold kM at cx_bg1
      dsimp only [Option.map,Option.getD,Option.isSome,uV] at cx_bc1 cx_bg1 ⊢
      clear hco ho2 hf hc
      generalize v.out = vo at *
      refine jE [(0,_),(1,_)] Tryz.func11 Tryz.ntmps11 fun B hB=>?_
      repeat' (first | refine jR ?_ | (refine jo ?_;first | refine jO fun _=>?_ | refine aB F ?_ | refine ar F ?_ | refine jV (al F F) ?_ | refine ab F F F cx_jf F ?_ | refine ab F F F cx_so1 F ?_) | refine ak F F F ?_ | refine ad F F ?_)
      rename_i xs y
      have cx_nb:=hnb y
      have cx_nb2:=hnb2 y
      have cx_tkb:=htk y
      repeat' (first | refine jR ?_ | (refine jo ?_;first | refine aB F ?_ | refine jL fun _=>?_ | refine jC F F F ?_ | (refine af F F F cx_nb F ?_;rintro _ _ ⟨rfl,rfl⟩;dsimp only [zA,fA]) | (refine af F F F cx_nb2 F ?_;rintro _ _ ⟨rfl,rfl⟩;dsimp only [zA,fA]) | (refine af F F F cx_tkb F ?_;rintro _ _ ⟨rfl,rfl⟩;dsimp only [zA,fA]) | refine ab F F F cx_find F ?_) | refine ad F F ?_ | (refine aj (am (id:=8) _ (fun _ h=>h) ai ?_);refine jT 22 [0,1,2] (aa 25 7) ?_;(try (refine Nx.re (d:=45) (v':=Bo false) F (congrArg Value.bool F) ?_));refine jT 19 [3,4,5] (aa 25 63) ?_;(refine jG (aa 25 127) 6 F (aq F F F) ?_);(refine jG (aa 25 255) 7 F (aJ F F F) ?_);refine jT 16 [8] (aa 25 511) ?_;(try (refine Nx.re (d:=51) (v':=Bo false) F (congrArg Value.bool F) ?_));refine jT 15 [9] (aa 25 1023) ?_;(refine jA 10 F ?_;(refine ab F F F cx_nok F ?_);refine jS (aa 25 2047) ?_);refine jT 13 [11] (aa 25 4095) ?_;(refine jG (aa 25 8191) 12 F (aJ F F F) ?_);refine jT 11 [13] (aa 25 16383) ?_;(try (refine Nx.re (d:=56) (v':=Bo false) F (congrArg Value.bool F) ?_));refine jT 6 [14,16,18,19,20] (aa 25 1933311) ?_;(refine jG (aa 25 1966079) 15 F (aq F F F) ?_);(refine jG (aa 25 2097151) 17 F (aq F F F) ?_);(refine jG (aa 25 4194303) 21 F (aq F F F) ?_);(refine jA 22 F ?_;(refine ab F F F cx_bc1 F ?_);refine jS (aa 25 8388607) ?_);refine jT 1 [23] (aa 25 16777215) ?_;(refine jG (aa 25 33554431) 24 F (aJ F F F) ?_);refine jQ ?_) | (refine aj (am (id:=10) _ (fun _ h=>h) ai ?_);refine jT 9 [0,2,4,5,6] (aa 14 117) ?_;(refine jG (aa 14 119) 1 F (aq F F F) ?_);(refine jG (aa 14 127) 3 F (aq F F F) ?_);(refine jG (aa 14 255) 7 F (aq F F F) ?_);refine jA 8 F ?_;(refine ab F F F cx_bg1 F ?_);refine jS (aa 14 511) ?_;refine jT 0 [9,10,11,12,13] (aa 14 16383) ?_;refine jQ ?_))
      all_goals refine jY (vs:=[_,_,_,_]) ?_
      all_goals rfl
theorem wc {b : Bool} : an ac7 46 [Bo b] G (· = I (if b = true then 1 else 0)):=by
 cases b
 all_goals
  refine jE [(0,_)] Tryz.func46 Tryz.ntmps46 fun B hB=>?_
  repeat' (first | refine jR ?_ | refine ac F F ?_ | refine ad F F ?_)
 all_goals refine jY (vs:=[_]) ?_
 all_goals rfl
theorem uW {s x : ac8} {u : Value} {a : List Mt} (hu : be G u 3 a.length (aE eL a)) (hn : a.length ≤ 1048576) : an ac7 31 [Ag [S s,u],S x] G (fun v=>∃ m1 m2 m3 b,v = Tu [Ag [S m1,S m2,S m3],Bo b]):=by
 have h2:=hC (s:=s) (x:=x) hu hn
 cases hf : cS a x with
 | none=>rw [hf] at h2;exact h2.mono fun v G' L' h=>⟨h.1,h.2.1,_,_,_,_,h.2.2⟩
 | some m=>rw [hf] at h2;exact h2.mono fun v G' L' h=>⟨h.1,h.2.1,_,_,_,_,h.2.2⟩
theorem mO {s nm x : ac8} {u : Value} {a : List Mt} (h : s.length ≤ 1048576 ∧ x.length ≤ 1048576) (hu : be G u 3 a.length (aE eL a)) (hn : a.length ≤ 1048576) (ha : ∀ x ∈ a,gP x) :
  an ac7 13 [Ag [S s,u],S nm,S x] G (· = mR (hZ s a nm x)):=by
 have hu1:=hu.one
 have cx_jf:=nF (G:=G) (s:=x) h.2
 unfold kM at cx_jf
 have cx_so:=gL h.1 hu hn ha
 cases hj : em x with
 | none =>
  rw [hj] at cx_jf
  dsimp only [Option.getD,Option.isSome] at cx_jf
  rw [f6 (.inl (by unfold cR;rw [hj]))]
  generalize cL s a = sb at cx_so
  have cx_so1:=cx_so
  clear cx_so
  have hma:=uW (G:=G) (s:=s) (x:=nm) hu hn
  refine jE [(0,_),(1,_),(2,_)] Tryz.func13 Tryz.ntmps13 fun B hB=>?_
  repeat' (first | refine jR ?_ | (refine jo ?_;first | refine jO fun _=>?_ | refine aB F ?_ | refine ab F F F cx_jf F ?_))
  refine jo ?_
  refine cN F F F hma F ?_
  rintro _ ⟨m1,m2,m3,b2,rfl⟩
  repeat' (first | refine jR ?_ | (refine jo ?_;first | refine jL fun _=>?_ | refine jC F F F ?_ | refine aG F ?_) | refine ax F F F ?_ | refine ac F F ?_)
  all_goals refine jY (vs:=[_,_,_,_]) ?_
  all_goals rfl
 | some body =>
  have hbl:=lj hj
  rw [hj] at cx_jf
  dsimp only [Option.getD,Option.isSome] at cx_jf
  have cx_f0:=hC (s:=s) (x:=nm) hu hn
  cases hf : cS a nm with
  | none =>
   rw [hf] at cx_f0
   have cx_find : an ac7 31 [Ag [S s,u],S nm] G (· = Tu [Ag [S [],S [],S []],Bo false]):=cx_f0
   rw [f6 (.inr (.inl hf))]
   generalize cL s a = sb at cx_so
   have cx_so1:=cx_so
   clear cx_f0 hf hj cx_so
   refine jE [(0,_),(1,_),(2,_)] Tryz.func13 Tryz.ntmps13 fun B hB=>?_
   repeat' (first | refine jR ?_ | (refine jo ?_;first | refine jO fun _=>?_ | refine aB F ?_ | refine jL fun _=>?_ | refine jC F F F ?_ | refine aG F ?_ | refine ar F ?_ | refine ab F F F cx_jf F ?_ | refine ab F F F cx_find F ?_) | refine ax F F F ?_ | refine ak F F F ?_ | refine ac F F ?_)
   all_goals refine jY (vs:=[_,_,_,_]) ?_
   all_goals rfl
  | some m =>
   rw [hf] at cx_f0
   have cx_find : an ac7 31 [Ag [S s,u],S nm] G (· = Tu [Ag [S m.1,S m.2.1,S m.2.2],Bo true]):=cx_f0
   clear cx_f0
   have hxm:=ha _ (List.mem_of_find?_eq_some hf)
   cases e1 : cL s a with
   | false =>
    have cx_so1 : an ac7 32 [Ag [S s,u]] G (· = Bo false):=by rw [← e1];exact cx_so
    rw [f6 (.inr (.inr (.inl e1)))]
    clear cx_so hj hf
    refine jE [(0,_),(1,_),(2,_)] Tryz.func13 Tryz.ntmps13 fun B hB=>?_
    repeat' (first | refine jR ?_ | (refine jo ?_;first | refine jO fun _=>?_ | refine aB F ?_ | refine jL fun _=>?_ | refine jC F F F ?_ | refine ar F ?_ | refine ab F F F cx_jf F ?_ | refine ab F F F cx_find F ?_ | refine ab F F F cx_so1 F ?_) | refine ak F F F ?_ | refine ac F F ?_)
    all_goals refine jY (vs:=[_,_,_,_]) ?_
    all_goals rfl
   | true =>
    have cx_so1 : an ac7 32 [Ag [S s,u]] G (· = Bo true):=by rw [← e1];exact cx_so
    clear cx_so
    cases hg : bj body with
    | none =>
     rw [f6 (.inl (by unfold cR;rw [hj];dsimp only;rw [hg]))]
     have hnb : ∀ y,bM ac7 41 [Pt y 0] G [c9 y body false none 0 0 0] (fun v L'=>v = I 0 ∧ L' = [c9 y [] true none 0 0 0]):=fun y=>nf hg oM
     have hfl:=fun y=>sD (G:=G) (r:=y) (n:=0) (c:=0) (s:=[]) (b:=true) (a:=none) (d:=0) (.inl rfl) (by simp)
     clear hj hf
     refine jE [(0,_),(1,_),(2,_)] Tryz.func13 Tryz.ntmps13 fun B hB=>?_
     repeat' (first | refine jR ?_ | (refine jo ?_;first | refine jO fun _=>?_ | refine aB F ?_ | refine jL fun _=>?_ | refine jC F F F ?_ | refine ar F ?_ | refine jV (al F F) ?_ | refine ab F F F cx_jf F ?_ | refine ab F F F cx_find F ?_ | refine ab F F F cx_so1 F ?_) | refine ak F F F ?_ | refine ad F F ?_)
     rename_i xs xm y
     have cx_nb:=hnb y
     have cx_fl:=hfl y
     repeat' (first | refine jR ?_ | (refine jo ?_;first | refine ah F ?_ | refine aG F ?_ | (refine af F F F cx_nb F ?_;rintro _ _ ⟨rfl,rfl⟩;dsimp only [zA,fA]) | (refine af F F F cx_fl F ?_;rintro _ _ ⟨q1,⟨rfl,hql⟩,rfl⟩;dsimp only [zA,fA])) | refine ax F F F ?_ | refine ac F F ?_)
     all_goals refine jY (vs:=[_,_,_,_]) ?_
     all_goals rfl
    | some z =>
     obtain ⟨n,q⟩:=z
     obtain ⟨hm0,hm1,_⟩:=cn hg
     have hql:=bE hg
     have hnb : ∀ y,bM ac7 41 [Pt y 0] G [c9 y body false none 0 0 0] (fun v L'=>v = I n ∧ L' = [c9 y q false none 0 0 0]):=fun y=>i2 hg oM
     cases hfb : bX q with
     | none =>
      have hres : hZ s a nm x = none:=by
       by_cases hm9 : n ≤ 999
       ·exact f6 (.inr (.inr (.inr ⟨n,q,by unfold cR;rw [hj];dsimp only;rw [hg];dsimp only;rw [if_pos hm9],hfb⟩)))
       ·exact f6 (.inl (by unfold cR;rw [hj];dsimp only;rw [hg];dsimp only;rw [if_neg hm9]))
      rw [hres]
      have hfl:=fun y=>sD (G:=G) (r:=y) (n:=0) (c:=0) (s:=q) (b:=false) (a:=none) (d:=0) (.inr hfb) oM
      clear hj hf hres hg hfb
      refine jE [(0,_),(1,_),(2,_)] Tryz.func13 Tryz.ntmps13 fun B hB=>?_
      repeat' (first | refine jR ?_ | (refine jo ?_;first | refine jO fun _=>?_ | refine aB F ?_ | refine jL fun _=>?_ | refine jC F F F ?_ | refine ar F ?_ | refine jV (al F F) ?_ | refine ab F F F cx_jf F ?_ | refine ab F F F cx_find F ?_ | refine ab F F F cx_so1 F ?_) | refine ak F F F ?_ | refine ad F F ?_)
      rename_i xs xm y
      have cx_nb:=hnb y
      have cx_fl:=hfl y
      repeat' (first | refine jR ?_ | (refine jo ?_;first | refine ah F ?_ | refine aG F ?_ | (refine af F F F cx_nb F ?_;rintro _ _ ⟨rfl,rfl⟩;dsimp only [zA,fA]) | (refine af F F F cx_fl F ?_;rintro _ _ ⟨q1,⟨rfl,hql⟩,rfl⟩;dsimp only [zA,fA])) | refine ax F F F ?_ | refine ac F F ?_)
      all_goals refine jY (vs:=[_,_,_,_]) ?_
      all_goals rfl
     | some w =>
      obtain ⟨fb,q2⟩:=w
      have hql2 : q.length = q2.length + 1:=by rw [dA hfb];rfl
      have hfl:=fun y=>xq (G:=G) (r:=y) (n:=0) (c:=0) (s:=q) (q:=q2) (x:=fb) (a:=none) (d:=0) hfb oM
      have cx_bc1:=lY (G:=G) (s:=s) (k:=m.2.2) (b:=q2) ⟨h.1,oM,oM⟩
      have cx_bg1:=kI (G:=G) (s:=s) (k:=m.2.2) (b:=q2) ⟨h.1,oM,oM⟩
      by_cases hm9 : n ≤ 999
      case neg =>
       have cx_nok : an ac7 33 [I n] G (· = Bo false):=by
        rw [← eH (n:=n) (b:=false) (decide_eq_false fun h=>hm9 h.2)];exact dJ
       rw [f6 (.inl (by unfold cR;rw [hj];dsimp only;rw [hg];dsimp only;rw [if_neg hm9]))]
       clear hj hf hg hfb
       refine jE [(0,_),(1,_),(2,_)] Tryz.func13 Tryz.ntmps13 fun B hB=>?_
       repeat' (first | refine jR ?_ | (refine jo ?_;first | refine jO fun _=>?_ | refine aB F ?_ | refine jL fun _=>?_ | refine jC F F F ?_ | refine ar F ?_ | refine jV (al F F) ?_ | refine ab F F F cx_jf F ?_ | refine ab F F F cx_find F ?_ | refine ab F F F cx_so1 F ?_) | refine ak F F F ?_ | refine ad F F ?_)
       rename_i xs xm y
       have cx_nb:=hnb y
       have cx_fl:=hfl y
       repeat' (first | refine jR ?_ | (refine jo ?_;first | refine ah F ?_ | refine ar F ?_ | (refine af F F F cx_nb F ?_;rintro _ _ ⟨rfl,rfl⟩;dsimp only [zA,fA]) | (refine af F F F cx_fl F ?_;rintro _ _ ⟨rfl,rfl⟩;dsimp only [zA,fA]) | refine ab F F F cx_nok F ?_) | refine ak F F F ?_ | refine ac F F ?_)
       all_goals refine jY (vs:=[_,_,_,_]) ?_
       all_goals rfl
      have cx_nok : an ac7 33 [I n] G (· = Bo true):=by
       rw [← eH (n:=n) (b:=true) (decide_eq_true ⟨hm0,hm9⟩)];exact dJ
      have ho : cR x = some (n,q):=by unfold cR;rw [hj];dsimp only;rw [hg];dsimp only;rw [if_pos hm9]
      rw [qd ho hf e1,hfb]
      clear hj hf hg ho hfb
      cases fb with
      | true =>
       dsimp only
       by_cases hq : q2 = []
       ·subst hq
        rw [if_pos rfl]
        have cx_sz : an ac7 46 [Bo (decide (([] : ac8) = []))] G (· = I 1):=wc (b:=true)
        clear cx_bc1 cx_bg1
        refine jE [(0,_),(1,_),(2,_)] Tryz.func13 Tryz.ntmps13 fun B hB=>?_
        repeat' (first | refine jR ?_ | (refine jo ?_;first | refine jO fun _=>?_ | refine aB F ?_ | refine jL fun _=>?_ | refine jC F F F ?_ | refine ar F ?_ | refine jV (al F F) ?_ | refine ab F F F cx_jf F ?_ | refine ab F F F cx_find F ?_ | refine ab F F F cx_so1 F ?_) | refine ak F F F ?_ | refine ad F F ?_)
        rename_i xs xm y
        have cx_nb:=hnb y
        have cx_fl:=hfl y
        repeat' (first | refine jR ?_ | (refine jo ?_;first | refine ah F ?_ | refine ar F ?_ | (refine af F F F cx_nb F ?_;rintro _ _ ⟨rfl,rfl⟩;dsimp only [zA,fA]) | (refine af F F F cx_fl F ?_;rintro _ _ ⟨rfl,rfl⟩;dsimp only [zA,fA]) | refine ab F F F cx_nok F ?_) | refine ak F F F ?_ | refine ac F F ?_ | refine ad F F ?_ | (refine aj (am (id:=11) _ (fun _ h=>h) ai ?_);refine jT 10 [0,1,2,3,8,9,10] (aa 17 1807) ?_;(refine jG (aa 17 1823) 4 F (aq F F F) ?_);refine jT 8 [5] (aa 17 1855) ?_;(refine jG (aa 17 3903) 11 F (aq F F F) ?_);refine jT 6 [12] (aa 17 7999) ?_;refine jA 6 F ?_;(refine ab F F F cx_sz F ?_);refine jS (aa 17 8063) ?_;refine jW 0 [7,13,14,15,16] (aa 17 131071) ?_;refine jQ ?_))
        all_goals refine jY (vs:=[_,_,_,_]) ?_
        all_goals exact (show Tu [I (n * 1),S [],Bo false,Bo true] = Tu [I n,S [],Bo false,Bo true] by rw [Int.mul_one])
       ·rw [if_neg hq]
        have cx_sz : an ac7 46 [Bo (decide (q2 = []))] G (· = I 0):=by rw [decide_eq_false hq];exact wc (b:=false)
        clear cx_bc1 cx_bg1
        refine jE [(0,_),(1,_),(2,_)] Tryz.func13 Tryz.ntmps13 fun B hB=>?_
        repeat' (first | refine jR ?_ | (refine jo ?_;first | refine jO fun _=>?_ | refine aB F ?_ | refine jL fun _=>?_ | refine jC F F F ?_ | refine ar F ?_ | refine jV (al F F) ?_ | refine ab F F F cx_jf F ?_ | refine ab F F F cx_find F ?_ | refine ab F F F cx_so1 F ?_) | refine ak F F F ?_ | refine ad F F ?_)
        rename_i xs xm y
        have cx_nb:=hnb y
        have cx_fl:=hfl y
        repeat' (first | refine jR ?_ | (refine jo ?_;first | refine ah F ?_ | refine ar F ?_ | (refine af F F F cx_nb F ?_;rintro _ _ ⟨rfl,rfl⟩;dsimp only [zA,fA]) | (refine af F F F cx_fl F ?_;rintro _ _ ⟨rfl,rfl⟩;dsimp only [zA,fA]) | refine ab F F F cx_nok F ?_) | refine ak F F F ?_ | refine ac F F ?_ | refine ad F F ?_ | (refine aj (am (id:=11) _ (fun _ h=>h) ai ?_);refine jT 10 [0,1,2,3,8,9,10] (aa 17 1807) ?_;(refine jG (aa 17 1823) 4 F (aq F F F) ?_);refine jT 8 [5] (aa 17 1855) ?_;(refine jG (aa 17 3903) 11 F (aq F F F) ?_);refine jT 6 [12] (aa 17 7999) ?_;refine jA 6 F ?_;(refine ab F F F cx_sz F ?_);refine jS (aa 17 8063) ?_;refine jW 0 [7,13,14,15,16] (aa 17 131071) ?_;refine jQ ?_))
        all_goals refine jY (vs:=[_,_,_,_]) ?_
        all_goals exact (show Tu [I (n * 0),S [],Bo false,Bo (decide (q2 = []))] = Tu [I 0,S [],Bo false,Bo false] by rw [Int.mul_zero,decide_eq_false hq])
      | false =>
       dsimp only
       cases hc : cr s m.2.2 q2 with
       | none =>
        rw [hc] at cx_bc1
        dsimp only [Option.isSome] at cx_bc1
        clear hc cx_bg1
        refine jE [(0,_),(1,_),(2,_)] Tryz.func13 Tryz.ntmps13 fun B hB=>?_
        repeat' (first | refine jR ?_ | (refine jo ?_;first | refine jO fun _=>?_ | refine aB F ?_ | refine jL fun _=>?_ | refine jC F F F ?_ | refine ar F ?_ | refine jV (al F F) ?_ | refine ab F F F cx_jf F ?_ | refine ab F F F cx_find F ?_ | refine ab F F F cx_so1 F ?_) | refine ak F F F ?_ | refine ad F F ?_)
        rename_i xs xm y
        have cx_nb:=hnb y
        have cx_fl:=hfl y
        repeat' (first | refine jR ?_ | (refine jo ?_;first | refine ah F ?_ | refine ar F ?_ | (refine af F F F cx_nb F ?_;rintro _ _ ⟨rfl,rfl⟩;dsimp only [zA,fA]) | (refine af F F F cx_fl F ?_;rintro _ _ ⟨rfl,rfl⟩;dsimp only [zA,fA]) | refine ab F F F cx_nok F ?_) | refine ak F F F ?_ | refine ac F F ?_ | refine ad F F ?_ | (refine aj (am (id:=12) _ (fun _ h=>h) ai ?_);refine jT 6 [0,2,4,5,6] (aa 11 117) ?_;(refine jG (aa 11 119) 1 F (aq F F F) ?_);(refine jG (aa 11 127) 3 F (aq F F F) ?_);(refine jG (aa 11 255) 7 F (aq F F F) ?_);refine jA 8 F ?_;(refine ab F F F cx_bc1 F ?_);refine jS (aa 11 511) ?_;refine jT 0 [9,10] (aa 11 2047) ?_;refine jQ ?_))
        all_goals refine jY (vs:=[_,_,_,_]) ?_
        all_goals rfl
       | some v =>
        rw [hc] at cx_bc1
        rw [lE hc] at cx_bg1
        unfold kM at cx_bg1
        dsimp only [Option.map,Option.getD,Option.isSome,mR] at cx_bc1 cx_bg1 ⊢
        clear hc
        generalize v.out = vo at *
        refine jE [(0,_),(1,_),(2,_)] Tryz.func13 Tryz.ntmps13 fun B hB=>?_
        repeat' (first | refine jR ?_ | (refine jo ?_;first | refine jO fun _=>?_ | refine aB F ?_ | refine jL fun _=>?_ | refine jC F F F ?_ | refine ar F ?_ | refine jV (al F F) ?_ | refine ab F F F cx_jf F ?_ | refine ab F F F cx_find F ?_ | refine ab F F F cx_so1 F ?_) | refine ak F F F ?_ | refine ad F F ?_)
        rename_i xs xm y
        have cx_nb:=hnb y
        have cx_fl:=hfl y
        repeat' (first | refine jR ?_ | (refine jo ?_;first | refine ah F ?_ | refine ar F ?_ | (refine af F F F cx_nb F ?_;rintro _ _ ⟨rfl,rfl⟩;dsimp only [zA,fA]) | (refine af F F F cx_fl F ?_;rintro _ _ ⟨rfl,rfl⟩;dsimp only [zA,fA]) | refine ab F F F cx_nok F ?_) | refine ak F F F ?_ | refine ad F F ?_ | (refine aj (am (id:=12) _ (fun _ h=>h) ai ?_);refine jT 6 [0,2,4,5,6] (aa 11 117) ?_;(refine jG (aa 11 119) 1 F (aq F F F) ?_);(refine jG (aa 11 127) 3 F (aq F F F) ?_);(refine jG (aa 11 255) 7 F (aq F F F) ?_);refine jA 8 F ?_;(refine ab F F F cx_bc1 F ?_);refine jS (aa 11 511) ?_;refine jT 0 [9,10] (aa 11 2047) ?_;refine jQ ?_) | (refine aj (am (id:=14) _ (fun _ h=>h) ai ?_);refine jT 9 [0,2,4,5,6] (aa 14 117) ?_;(refine jG (aa 14 119) 1 F (aq F F F) ?_);(refine jG (aa 14 127) 3 F (aq F F F) ?_);(refine jG (aa 14 255) 7 F (aq F F F) ?_);refine jA 8 F ?_;(refine ab F F F cx_bg1 F ?_);refine jS (aa 14 511) ?_;refine jT 0 [9,10,11,12,13] (aa 14 16383) ?_;refine jQ ?_))
        all_goals refine jY (vs:=[_,_,_,_]) ?_
        all_goals rfl
abbrev cV : TypeId:=93
theorem oo {v : Value} {l : ac8} (h : be G v 1 l.length (bw l)) : bM ac7 26 [v] G [] (fun v L'=>∃ b code l',v = Pt b 0 ∧ L' = [dE b code 0 cV] ∧ be G code 1 l'.length (bw l') ∧ l'.length ≤ 2000):=by
 obtain ⟨h1,⟨rfl,h2⟩ | ⟨c,o,cap,rfl,h2,h3⟩⟩:=id h
 ·refine jH [(0,_)] Tryz.func26 Tryz.ntmps26 fun B hB hW=>?_
  repeat' (first | refine jR ?_ | (refine jo ?_;first | refine jV (av F) ?_ | refine jV (al F F) ?_ | refine jO fun _=>?_) | refine ad F F ?_)
  refine aP (vs:=[_]) F ⟨F,trivial⟩ F (List.Sublist.refl _) ⟨F,_,_,[],F,F,⟨by simp [bw],.inl ⟨F,F⟩⟩,by simp⟩
 ·refine jH [(0,_)] Tryz.func26 Tryz.ntmps26 fun B hB hW=>?_
  repeat' (first | refine jR ?_ | (refine jo ?_;first | refine jV (av F) ?_ | refine jV (rP F F oM) ?_ | refine jV (al F F) ?_ | refine jO fun _=>?_) | refine cB F (fun _=>?_) (fun _=>?_))
  ·refine aP (vs:=[_]) F ⟨F,trivial⟩ F (List.Sublist.refl _) ⟨F,_,_,l.take 2000,F,F,?_,by simp;omega⟩
   have e : (l.take 2000).length = 2000:=by simp;omega
   rw [e]
   refine ⟨by simp [bw];omega,.inr ⟨c,o,cap,rfl,oM,?_⟩⟩
   have:=h3.take 2000
   simpa [bw] using this
  ·exact aP (vs:=[_]) F ⟨F,trivial⟩ F (List.Sublist.refl _) ⟨F,_,_,l,F,F,h,oM⟩
theorem ci {b : Nat} {code : Value} {p n : Int} {l : ac8} (hp : 0 ≤ p ∧ p ≤ 1000000000000 ∧ n ≤ 1000000000000) (hs : be G code 1 l.length (bw l)) :
  bM ac7 28 [Pt b 0,I n] G [dE b code p cV] (fun v L'=>∃ k,v = I k ∧ L' = [dE b code (p + 1) cV] ∧ 0 ≤ k ∧ (k < n ∨ k = 0)):=by
 obtain ⟨h1,⟨rfl,h2⟩ | ⟨c,o,cap,rfl,h2,h3⟩⟩:=id hs
 ·refine jH [(0,_),(1,_)] Tryz.func28 Tryz.ntmps28 fun B hB hW=>?_
  repeat' (first | (refine run (t:=tb) 400 F ?_ ?_;(focus (repeat' (first | exact trivial | apply And.intro | omega)))) | (refine jo ?_;first | refine ah F ?_ | refine jD F F F ?_ | refine jV (av F) ?_ | refine aG F ?_ | refine ar F ?_) | refine dN F F (fun _=>?_) (fun _=>?_) | refine ac F F ?_)
  all_goals exact aP (vs:=[_]) F ⟨F,trivial⟩ F (List.Sublist.refl _) ⟨F,_,F,F,oM,oM⟩
 ·have b1:=gN l (p + 1 - 1).toNat
  have b2:=gN l ((p + 1 - 1) % (l.length : Int)).toNat
  have b3:=gN l (((p + 1 - 1) * 7 + 3) % (l.length : Int)).toNat
  have e1:=fun h=>Int.emod_nonneg (p + 1 - 1) (b:=(l.length : Int)) h
  have e2:=fun h=>Int.emod_lt_of_pos (p + 1 - 1) (b:=(l.length : Int)) h
  have e3:=fun h=>Int.emod_nonneg ((p + 1 - 1) * 7 + 3) (b:=(l.length : Int)) h
  have e4:=fun h=>Int.emod_lt_of_pos ((p + 1 - 1) * 7 + 3) (b:=(l.length : Int)) h
  have e5:=fun h=>Int.ediv_nonneg (a:=p + 1 - 1) (b:=(l.length : Int)) h oM
  have e6:=fun h=>Int.ediv_le_self (a:=p + 1 - 1) (l.length : Int) h
  refine jH [(0,_),(1,_)] Tryz.func28 Tryz.ntmps28 fun B hB hW=>?_
  repeat' (first | (refine run (t:=tb) 400 F ?_ ?_;(focus (repeat' (first | exact trivial | apply And.intro | omega)))) | (refine jo ?_;first | refine ah F ?_ | (refine jV (uL F aS ?_) ?_;focus omega) | refine jD F F F ?_ | refine jV (av F) ?_ | refine aG F ?_ | refine ar F ?_ | refine jV (aN F F oM) ?_ | refine jV (aal F F oM) ?_) | refine dN F F (fun _=>?_) (fun _=>?_) | refine ac F F ?_ | refine cB F (fun _=>?_) (fun _=>?_) | (refine aj (am (id:=7) _ (fun _ h=>h) ai ?_);refine jU 24 [0,1,2,4,5,6,7,15,16,17,19,20,21,22,23,24,33,34,36,37,38,39] (aa 46 1056595214583) ?_ ?_;(focus (repeat' (first | exact trivial | apply And.intro | omega)));(refine jG (aa 46 1056595214591) 3 F (aq F F F) ?_);(refine jG (aa 46 1056595214847) 8 F (aq F F F) ?_);(refine jG (aa 46 1056595215359) 9 F (av F) ?_);refine jU 20 [10] (aa 46 1056595216383) ?_ ?_;(focus (repeat' (first | exact trivial | apply And.intro | omega)));(refine jG (aa 46 1056595218431) 11 F (aN F F oM) ?_);((refine jG (aa 46 1056595222527) 12 F (uL F aS ?_) ?_;focus omega));refine jU 16 [13,14] (aa 46 1056595247103) ?_ ?_;(focus (repeat' (first | exact trivial | apply And.intro | omega)));(refine jG (aa 46 1056595509247) 18 F (aq F F F) ?_);(refine jG (aa 46 1056629063679) 25 F (aq F F F) ?_);(refine jG (aa 46 1056696172543) 26 F (av F) ?_);refine jU 12 [27] (aa 46 1056830390271) ?_ ?_;(focus (repeat' (first | exact trivial | apply And.intro | omega)));(refine jG (aa 46 1057098825727) 28 F (aN F F oM) ?_);((refine jG (aa 46 1057635696639) 29 F (uL F aS ?_) ?_;focus omega));refine jU 6 [30,31,32,35] (aa 46 1099511627775) ?_ ?_;(focus (repeat' (first | exact trivial | apply And.intro | omega)));(refine jG (aa 46 2199023255551) 40 F (aq F F F) ?_);(refine jG (aa 46 4398046511103) 41 F (av F) ?_);refine jU 0 [42,43,44,45] (aa 46 70368744177663) ?_ ?_;(focus (repeat' (first | exact trivial | apply And.intro | omega)));refine jQ ?_))
  all_goals (first | exact aP (vs:=[_]) F ⟨F,trivial⟩ F (List.Sublist.refl _) ⟨F,_,F,F,oM,oM⟩ | exact aP (vs:=[_]) F ⟨F,trivial⟩ F (List.Sublist.refl _) ⟨F,_,F,F,Int.emod_nonneg _ oM,.inl (Int.emod_lt_of_pos _ oM)⟩ | exact yk _ _)
theorem qS {r : Nat} {code : Value} {p : Int} {l : ac8} (hp : 0 ≤ p ∧ p ≤ 900000000000) (hs : be G code 1 l.length (bw l)) :
  bM ac7 83 [Pt r 0] G [dE r code p cV] (fun v L'=>∃ x q,v = S x ∧ x.length ≤ 400 ∧ L' = [dE r code q cV] ∧ p ≤ q ∧ q ≤ p + 10):=by
 refine jH [(0,_)] Tryz.func83 Tryz.ntmps83 fun B hB hW=>?_
 repeat' (first | refine jR ?_ | (refine jo ?_;first | refine jF fun _=>?_ | refine jV (aN F F oM) ?_ | (refine eg 64 F F F ?_ F (fun xs hxs=>?_);(focus ((simp only [List.length_append,List.length_cons,List.length_nil,List.length_take];omega);done))) | (refine af F F F (ci ?_ (by (repeat (assumption));done)) rfl ?_;(focus omega);rintro _ _ ⟨k,rfl,rfl,hk0,hk1⟩;dsimp only [zA,fA])))
 refine aT (ι:=ac8 × Int × Int) (fun j=>(0 ≤ j.2.1 ∧ j.2.1 ≤ 3) ∧ ((j.1.length : Nat) : Int) ≤ 64 * (4 - j.2.1) ∧ p ≤ j.2.2 ∧ j.2.2 ≤ p + 5 - j.2.1) (fun j=>[(0,Pt r 0),(3,S j.1),(4,I j.2.1)]) (fun _=>G) (fun j=>[dE r code j.2.2 cV]) (fun j=>j.2.1.toNat) (xs,k,p + 1 + 1) ?_ tU F sB (fun j Hj=>?_)
 ·dsimp only;omega
 obtain ⟨s,kk,q⟩:=j
 dsimp only at Hj ⊢
 obtain ⟨hk,hsl,hq0,hq1⟩:=Hj
 by_cases h1 : 1 < kk
 ·repeat' (first | refine jM ?_ | (refine jo ?_;first | refine jF fun _=>?_ | refine jV (aN F F oM) ?_ | (refine eg 64 F F F ?_ F (fun xs hxs=>?_);(focus ((simp only [List.length_append,List.length_cons,List.length_nil,List.length_take];omega);done))) | (refine af F F F (ci ?_ (by (repeat (assumption));done)) rfl ?_;(focus omega);rintro _ _ ⟨k,rfl,rfl,hk0,hk1⟩;dsimp only [zA,fA])) | refine ac F (ay ‹_›) ?_)
  exact aY (xs ++ s,kk - 1,q + 1) (by dsimp only;rw [List.length_append];omega) (by dsimp only;omega) tU rfl sB
 ·repeat' (first | refine jR ?_ | (refine jo ?_;first | refine jF fun _=>?_ | refine jV (aN F F oM) ?_ | (refine eg 64 F F F ?_ F (fun xs hxs=>?_);(focus ((simp only [List.length_append,List.length_cons,List.length_nil,List.length_take];omega);done))) | (refine af F F F (ci ?_ (by (repeat (assumption));done)) rfl ?_;(focus omega);rintro _ _ ⟨k,rfl,rfl,hk0,hk1⟩;dsimp only [zA,fA])) | refine ad F (aC ‹_›) ?_ | refine cB F (fun _=>?_) (fun _=>?_))
  all_goals exact aP (vs:=[_]) F ⟨F,trivial⟩ F sB ⟨F,_,_,F,oM,F,oM,oM⟩
theorem wl {r : Nat} {code : Value} {p : Int} {l : ac8} (hp : 0 ≤ p ∧ p ≤ 900000000000) (hs : be G code 1 l.length (bw l)) :
  bM ac7 104 [Pt r 0] G [dE r code p cV] (fun v L'=>∃ x q,v = S (39 :: (x ++ [39])) ∧ x.length ≤ 64 ∧ L' = [dE r code q cV] ∧ p ≤ q ∧ q ≤ p + 10):=by
 refine jH [(0,_)] Tryz.func104 Tryz.ntmps104 fun B hB hW=>?_
 repeat' (first | refine jX ?_ | (refine jo ?_;first | refine jF fun _=>?_ | refine jV (aN F F oM) ?_ | (refine eg 64 F F F ?_ F (fun xs hxs=>?_);(focus ((simp only [List.length_append,List.length_cons,List.length_nil,List.length_take];omega);done))) | (refine af F F F (ci ?_ (by (repeat (assumption));done)) rfl ?_;(focus omega);rintro _ _ ⟨k,rfl,rfl,hk0,hk1⟩;dsimp only [zA,fA])))
 exact aP (vs:=[_]) F ⟨F,trivial⟩ F sB ⟨F,xs,_,F,oM,F,oM,oM⟩
theorem uX {r : Nat} {code : Value} {p tag : Int} {l so nm : ac8} (hp : 0 ≤ p ∧ p ≤ 800000000000) (hs : be G code 1 l.length (bw l)) (ht : 0 ≤ tag ∧ tag ≤ 1000000) (hnm : nm.length ≤ 100) :
  bM ac7 140 [Pt r 0,S so,I tag,S nm] G [dE r code p cV] (fun v L'=>∃ x q,v = S x ∧ x.length ≤ 1000 ∧ L' = [dE r code q cV] ∧ p ≤ q ∧ q ≤ p + 20):=by
 have hdl:=gi (n:=tag) oM
 refine jH [(0,_),(1,_),(2,_),(3,_)] Tryz.func140 Tryz.ntmps140 fun B hB hW=>?_
 repeat' (first | refine jX ?_ | (refine jo ?_;first | refine aG F ?_ | refine ar F ?_ | refine jF fun _=>?_ | refine jV (aN F F oM) ?_ | (refine eg 64 F F F ?_ F (fun xs hxs=>?_);(focus ((simp only [List.length_append,List.length_cons,List.length_nil,List.length_take];omega);done))) | refine ab F F F (eS oM) F ?_ | (refine af F F F (qS ?_ (by (repeat (assumption));done)) rfl ?_;(focus omega);rintro _ _ ⟨kd,q1,rfl,hkd,rfl,hq1,hq2⟩;dsimp only [zA,fA]) | (refine af F F F (ci ?_ (by (repeat (assumption));done)) rfl ?_;(focus omega);rintro _ _ ⟨k,rfl,rfl,hk0,hk1⟩;dsimp only [zA,fA])) | refine dN F F (fun _=>?_) (fun _=>?_) | refine ad F F ?_ | refine cB F (fun _=>?_) (fun _=>?_))
 all_goals exact aP (vs:=[_]) F ⟨F,trivial⟩ F sB ⟨F,_,_,F,by simp only [List.length_append,List.length_cons,List.length_nil];omega,rfl,oM,oM⟩
theorem wk {r : Nat} {code : Value} {p : Int} {l so nm : ac8} (hp : 0 ≤ p ∧ p ≤ 700000000000) (hs : be G code 1 l.length (bw l)) (hso : so.length ≤ 64) (hnm : nm.length ≤ 64) :
  bM ac7 98 [Pt r 0,S so,S nm] G [dE r code p cV] (fun v L'=>∃ x q,v = S x ∧ x.length ≤ 6000 ∧ 1 ≤ x.length ∧ L' = [dE r code q cV] ∧ p ≤ q ∧ q ≤ p + 200):=by
 refine jH [(0,_),(1,_),(2,_)] Tryz.func98 Tryz.ntmps98 fun B hB hW=>?_
 repeat' (first | refine jX ?_ | (refine jo ?_;first | refine aG F ?_ | refine ar F ?_ | (refine af F F F (ci ?_ (by (repeat (assumption));done)) rfl ?_;(focus omega);rintro _ _ ⟨k,rfl,rfl,hk0,hk1⟩;dsimp only [zA,fA])) | refine dN F F (fun _=>?_) (fun _=>?_) | refine ad F F ?_ | refine cB F (fun _=>?_) (fun _=>?_))
 all_goals
  have cx_pk2 : ∀ {p : Int},0 ≤ p ∧ p ≤ 1000000000000 → bM ac7 28 [Pt r 0,I 2] G [dE r code p cV] (fun v L'=>L' = [dE r code (p + 1) cV] ∧ (v = I 0 ∨ v = I 1)):=fun {p} hp=>(ci (b:=r) (p:=p) (n:=2) ⟨hp.1,hp.2,by decide⟩ hs).mono fun v G' L' ⟨h1,k,h2,h3,h4,h5⟩=>⟨h1,h3,by subst h2;rcases (show k = 0 ∨ k = 1 by omega) with rfl | rfl;exact .inl F;exact .inr F⟩
  refine aT (ι:=ac8 × Int × Int × Int × Int) (fun j=>(0 ≤ j.2.2.1 ∧ j.2.2.1 ≤ j.2.2.2.1 ∧ j.2.2.2.1 ≤ 4) ∧ (0 ≤ j.2.1 ∧ j.2.1 ≤ 10 * j.2.2.1) ∧ (1 ≤ j.1.length ∧ ((j.1.length : Nat) : Int) ≤ 200 + 1001 * j.2.2.1) ∧ p ≤ j.2.2.2.2 ∧ j.2.2.2.2 ≤ p + 4 + 30 * j.2.2.1) (fun j=>[(0,Pt r 0),(1,S so),(7,S j.1),(8,I j.2.1),(9,I j.2.2.2.1),(10,I j.2.2.1)]) (fun _=>G) (fun j=>[dE r code j.2.2.2.2 cV]) (fun j=>(j.2.2.2.1 - j.2.2.1).toNat) (so ++ nm ++ [61],0,0,_,_) ?_ tU F aZ (fun j Hj=>?_)
  ·dsimp only;simp only [List.length_append,List.length_cons,List.length_nil];omega
  obtain ⟨s,tag,kk,n,q⟩:=j
  dsimp only at Hj ⊢
  obtain ⟨hk,htg,hsl,hq0,hq1⟩:=Hj
  by_cases h1 : kk < n
  ·repeat' (first | refine jX ?_ | (refine jo ?_;first | refine jF fun _=>?_ | refine jV (cX F F (by (repeat (first | exact BL.nil | apply BL.cons));done)) ?_ | (refine af F F F (cx_pk2 oM) F ?_;rintro _ _ ⟨rfl,rfl | rfl⟩ <;> dsimp only [zA,fA]) | (refine af F F F (ci ?_ (by (repeat (assumption));done)) rfl ?_;(focus omega);rintro _ _ ⟨k,rfl,rfl,hk0,hk1⟩;dsimp only [zA,fA]) | (refine af F F F (uX ?_ (by (repeat (assumption));done) ?_ ?_) rfl ?_;(focus omega);(focus omega);(focus ((simp;done);done));rintro _ _ ⟨fd,q1,rfl,hfd,rfl,hq1,hq2⟩;dsimp only [zA,fA])) | refine ac F (ay ‹_›) ?_ | refine cB F (fun _=>?_) (fun _=>?_))
   all_goals (refine aY (_,_,kk + 1,n,_) ?_ ?_ tU F sB)
   all_goals (first | (dsimp only;simp only [List.length_append,List.length_cons,List.length_nil];omega) | (dsimp only;omega))
  ·repeat' (first | refine jX ?_ | refine ad F (aC ‹_›) ?_)
   exact aP (vs:=[_]) F ⟨F,trivial⟩ F aZ ⟨F,_,_,F,by simp only [List.length_append,List.length_cons,List.length_nil];omega,by simp only [List.length_append,List.length_cons,List.length_nil];omega,rfl,oM,oM⟩
theorem td {r : Nat} {code : Value} {p : Int} {l : ac8} (hp : 0 ≤ p ∧ p ≤ 600000000000) (hs : be G code 1 l.length (bw l)) :
  bM ac7 59 [Pt r 0] G [dE r code p cV] (fun v L'=>∃ x q,v = S x ∧ x.length ≤ 20000 ∧ L' = [dE r code q cV] ∧ p ≤ q ∧ q ≤ p + 700):=by
 refine jH [(0,_)] Tryz.func59 Tryz.ntmps59 fun B hB hW=>?_
 repeat' (first | refine jX ?_ | (refine jo ?_;first | refine jF fun _=>?_ | refine jV (aN F F oM) ?_ | (refine eg 64 F F F ?_ F (fun xs hxs=>?_);(focus ((simp only [List.length_append,List.length_cons,List.length_nil,List.length_take];omega);done))) | refine aG F ?_ | refine ar F ?_ | (refine af F F F (wk ?_ (by (repeat (assumption));done) ?_ ?_) rfl ?_;(focus omega);(focus ((first | assumption | (simp;done));done));(focus ((simp;done);done));rintro _ _ ⟨ty,q1,rfl,hty,hty1,rfl,hq1,hq2⟩;dsimp only [zA,fA]) | (refine af F F F (ci ?_ (by (repeat (assumption));done)) rfl ?_;(focus ((first | omega | (simp;omega));done));rintro _ _ ⟨k,rfl,rfl,hk0,hk1⟩;dsimp only [zA,fA]) | (refine ab F F F (nG ?_) F ?_;(focus ((simp;omega);done)))) | refine jj F F (fun _=>?_) (fun _=>?_) | refine ad F F ?_ | refine cB F (fun _=>?_) (fun _=>?_))
 all_goals (first | exact aP (vs:=[_]) F ⟨F,trivial⟩ F sB ⟨F,_,_,F,by (simp only [List.length_append,List.length_cons,List.length_nil,List.length_take,List.length_drop];omega),rfl,oM,oM⟩ | skip)
 all_goals simp only [List.length_append,List.length_cons,List.length_nil] at hk1
 all_goals (refine aj (am (id:=6) [] (fun _ h=>absurd h (by simp)) ai ?_);refine jW 7 [0,1,2,4,9,10,11,12] (aa 15 7703) ?_;refine bA [3,5] kR dC ⟨?_,?_,trivial⟩;(focus (refine aM F F ?_;(refine jF fun _=>?_);refine jK (aa 15 7711) ?_;refine jA 5 F ?_;((refine af F F F (ci ?_ (by (repeat (assumption));done)) rfl ?_;(focus omega);rintro _ _ ⟨k,rfl,rfl,hk0,hk1⟩;dsimp only [zA,fA]));refine jK (aa 15 7743) ?_;((refine jG (aa 15 7807) 6 F (aN F F ?_) ?_;focus omega));refine jA 7 F ?_;((refine eg 64 F F F ?_ F (fun xs hxs=>?_);(focus ((simp only [List.length_append,List.length_cons,List.length_nil,List.length_take];omega);done))));refine jK (aa 15 7935) ?_;refine jW 0 [8,13,14] (aa 15 32767) ?_;refine jQ ?_));rotate_left 1;(focus (refine aM F F ?_;((refine af F F F (ci ?_ (by (repeat (assumption));done)) rfl ?_;(focus omega);rintro _ _ ⟨k,rfl,rfl,hk0,hk1⟩;dsimp only [zA,fA]));refine jK (aa 15 7735) ?_;refine jA 3 F ?_;(refine jF fun _=>?_);refine jK (aa 15 7743) ?_;((refine jG (aa 15 7807) 6 F (aN F F ?_) ?_;focus omega));refine jA 7 F ?_;((refine eg 64 F F F ?_ F (fun xs hxs=>?_);(focus ((simp only [List.length_append,List.length_cons,List.length_nil,List.length_take];omega);done))));refine jK (aa 15 7935) ?_;refine jW 0 [8,13,14] (aa 15 32767) ?_;refine jQ ?_));rotate_left 1)
 all_goals repeat' (refine jR ?_)
 all_goals exact aP (vs:=[_]) F ⟨F,trivial⟩ F sB ⟨F,_,_,F,by (simp only [List.length_append,List.length_cons,List.length_nil,List.length_take,List.length_drop];omega),rfl,oM,oM⟩
theorem iA {r : Nat} {code : Value} {p : Int} {l s : ac8} (hp : 0 ≤ p ∧ p ≤ 600000000000) (hs : be G code 1 l.length (bw l)) (hsl : s.length ≤ 10000000) :
  bM ac7 60 [Pt r 0,S s] G [dE r code p cV] (fun v L'=>∃ x q,v = S x ∧ x.length ≤ 400 ∧ L' = [dE r code q cV] ∧ p ≤ q ∧ q ≤ p + 20):=by
 have cx_lkg : ∀ {k : ac8} (G : Gh),k.length ≤ 1000 → bn ac7 62 [S s,S k] G (fun v _=>∃ u b,v = Tu [u,Bo b]):=fun {k} G h=>(eh (G:=G) (s:=s) (k:=k) oM oM).mono fun v G' L' ⟨h1,h2,u,vs,h3,_⟩=>⟨h1,h2,u,_,h3⟩
 refine jB (Post:=fun v G' L'=>G' = G ∧ _) [(0,_),(1,_)] Tryz.func60 Tryz.ntmps60 fun B hok hB hW=>?_
 repeat' (first | refine jR ?_ | (refine jo ?_;first | refine jF fun _=>?_ | refine jV (aN F F oM) ?_ | (refine eg 64 F F F ?_ F (fun xs hxs=>?_);(focus ((simp only [List.length_append,List.length_cons,List.length_nil,List.length_take];omega);done))) | (refine af F F F (ci ?_ (by (repeat (assumption));done)) rfl ?_;(focus omega);rintro _ _ ⟨k,rfl,rfl,hk0,hk1⟩;dsimp only [zA,fA]) | (refine af F F F (qS ?_ (by (repeat (assumption));done)) rfl ?_;(focus omega);rintro _ _ ⟨kd,q1,rfl,hkd,rfl,hq1,hq2⟩;dsimp only [zA,fA]) | (refine aK F F F ((cx_lkg _) oM) F ?_;rintro _ G hle ⟨u1,b1,rfl⟩;skip)) | refine cB F (fun _=>?_) (fun _=>?_) | refine gX F (fun _=>?_) (fun _=>?_))
 all_goals refine Nx.base hok hB ?_
 all_goals exact aP (vs:=[_]) F ⟨F,trivial⟩ F sB ⟨F,_,_,F,by (first | omega | (simp only [List.length_append,List.length_cons,List.length_nil,List.length_take,List.length_drop];omega)),rfl,oM,oM⟩
def eC (u : Value) (vs : List bS) (k : ac8) (deep cp : Int) (ct : Nat) : Prop:=∀ (G : Gh) (r : Nat) (code : Value) (p : Int) (l : ac8),SchR G u vs → be G code 1 l.length (bw l) → 0 ≤ p ∧ p + cp ≤ 600000000000 →
 dq ac7 63 [Pt r 0,u,S k,I deep] G [dE r code p cV] (fun v G' L'=>∃ w b q,v = Pt b 0 ∧ RepR G' (ag vs) w k b ∧ w.tot ≤ ct ∧ 1 ≤ w.out.length ∧ L' = [dE r code q cV] ∧ p ≤ q ∧ q ≤ p + cp)
theorem eC.le {u : Value} {vs : List bS} {k : ac8} {deep cp cp' : Int} {ct ct' : Nat} (h : eC u vs k deep cp ct) (h1 : cp ≤ cp') (h2 : ct ≤ ct') : eC u vs k deep cp' ct':=fun G r code p l h3 h4 h5 =>
 (h G r code p l h3 h4 ⟨h5.1,oM⟩).mono fun _ _ _ ⟨h6,w,b,q,h7,h8,h9,h10,h11,h12,h13⟩=>⟨h6,w,b,q,h7,h8,oM,h10,h11,h12,oM⟩
theorem pY {u : Value} {vs : List bS} {deep : Int} : eC u vs [102] deep 15 200:=by
 intro G r code p l hR hs hp
 have cx_pk2 : ∀ {p : Int},0 ≤ p ∧ p ≤ 1000000000000 → bM ac7 28 [Pt r 0,I 2] G [dE r code p cV] (fun v L'=>L' = [dE r code (p + 1) cV] ∧ (v = I 0 ∨ v = I 1)):=fun {p} hp=>(ci (b:=r) (p:=p) (n:=2) ⟨hp.1,hp.2,by decide⟩ hs).mono fun v G' L' ⟨h1,k,h2,h3,h4,h5⟩=>⟨h1,h3,by subst h2;rcases (show k = 0 ∨ k = 1 by omega) with rfl | rfl;exact .inl F;exact .inr F⟩
 refine bL [(0,_),(1,_),(2,_),(3,_)] Tryz.func63 kR Tryz.ntmps63 F F tU fun B hB hW=>?_
 repeat' (first | refine jX ?_ | (refine jo ?_;first | refine jV (al F F) ?_ | refine jO fun _=>?_ | refine jF fun _=>?_ | refine jV (aN F F oM) ?_ | refine ah F ?_ | refine jD F F F ?_ | (refine af F F F (cx_pk2 oM) F ?_;rintro _ _ ⟨rfl,rfl | rfl⟩ <;> dsimp only [zA,fA])) | refine ac F F ?_ | refine ad F F ?_)
 all_goals rename_i y _
 all_goals refine Nx.sealC (b:=y) fun G2 hG2 hsy=>?_
 ·exact aP (vs:=[_]) F ⟨F,trivial⟩ F sB ⟨hG2,.nd 102 [121,101,115] 0 [],y,_,F,.leaf 102 _ _ _ y hsy (.inr (.inr ⟨F,F,F,.inl F⟩)),by simp [b6,V.tots],by rw [V.out];simp [dp],rfl,oM,oM⟩
 ·exact aP (vs:=[_]) F ⟨F,trivial⟩ F sB ⟨hG2,.nd 102 [110,111] 0 [],y,_,F,.leaf 102 _ _ _ y hsy (.inr (.inr ⟨F,F,F,.inr F⟩)),by simp [b6,V.tots],by rw [V.out];simp [dp],rfl,oM,oM⟩
abbrev ur : TypeId:=100
theorem aaR {m : Int} (h : 0 ≤ m) : ∀ c ∈ bz m,a8 c = true:=(ix m.toNat (Nat.le_refl _) h).2
theorem r7 {u : Value} {vs : List bS} {deep : Int} : eC u vs [110] deep 15 200:=by
 intro G r code p l hR hs hp
 refine bL [(0,_),(1,_),(2,_),(3,_)] Tryz.func63 kR Tryz.ntmps63 F F tU fun B hB hW=>?_
 repeat' (first | refine jX ?_ | (refine jo ?_;first | refine jV (al F F) ?_ | refine jO fun _=>?_ | refine jF fun _=>?_ | refine jV (aN F F oM) ?_ | (refine aa8 999999 F F F ?_ ?_ (fun iz hz0 hz1=>?_);(focus ((simp only [List.length_append,List.length_cons,List.length_nil,List.length_take];omega);done));(focus ((repeat' (first | exact uI | refine s8 ⟨oM,oM⟩ ?_));done))) | refine jD F F F ?_ | (refine af F F F (ci ?_ (by (repeat (assumption));done)) rfl ?_;(focus omega);rintro _ _ ⟨k,rfl,rfl,hk0,hk1⟩;dsimp only [zA,fA]) | refine ab F F F (eS oM) F ?_) | refine ac F F ?_)
 rename_i y _ _ _ _
 have hdl:=gi (n:=iz) oM
 have hdp:=g8 iz
 refine Nx.sealC (b:=y) fun G2 hG2 hsy=>?_
 exact aP (vs:=[_]) F ⟨F,trivial⟩ F sB ⟨hG2,.nd 110 (bz iz) 0 [],y,_,F,.leaf 110 _ _ _ y hsy (.inl ⟨F,F,F,aaR hz0⟩),by rw [b6,V.tots];omega,by rw [V.out];exact hdp,F,oM,oM⟩
theorem r5 {u : Value} {vs : List bS} {deep : Int} : eC u vs [116] deep 15 200:=by
 intro G r code p l hR hs hp
 refine bL [(0,_),(1,_),(2,_),(3,_)] Tryz.func63 kR Tryz.ntmps63 F F tU fun B hB hW=>?_
 repeat' (first | refine jX ?_ | (refine jo ?_;first | refine jV (al F F) ?_ | refine jO fun _=>?_ | refine jD F F F ?_ | (refine af F F F (wl ?_ (by (repeat (assumption));done)) rfl ?_;(focus omega);rintro _ _ ⟨tx,q1,rfl,htx,rfl,hq1,hq2⟩;dsimp only [zA,fA])) | refine ac F F ?_ | refine ad F F ?_)
 rename_i y
 refine Nx.sealC (b:=y) fun G2 hG2 hsy=>?_
 exact aP (vs:=[_]) F ⟨F,trivial⟩ F aZ ⟨hG2,.nd 116 tx 0 [],y,_,F,.leaf 116 _ _ _ y hsy (.inr (.inl ⟨F,F,F⟩)),by rw [b6,V.tots];omega,by rw [V.out];simp [dp],rfl,oM,oM⟩
theorem uB {ts : List Ty} {k : ac8} {ks : List V} {bs : List Nat} {w : V} {b : Nat} (hl : bs.length = ks.length) (h : ∀ i,i < ks.length → RepR G ts (ae ks i) k (ae bs i)) (hw : RepR G ts w k b) : ∀ i,i < (ks ++ [w]).length → RepR G ts (ae (ks ++ [w]) i) k (ae (bs ++ [b]) i):=fun i hi=>by
 by_cases h1 : i < ks.length
 ·have e1 : ae (ks ++ [w]) i = ae ks i:=by rw [aW hi,aW h1,List.getElem_append_left h1]
  have e2 : ae (bs ++ [b]) i = ae bs i:=by rw [aW (by simp;omega),aW oM,List.getElem_append_left oM]
  rw [e1,e2];exact h i h1
 ·have h2 : i = ks.length:=by simp at hi;omega
  have e1 : ae (ks ++ [w]) i = w:=by rw [aW hi];simp [h2]
  have e2 : ae (bs ++ [b]) i = b:=by rw [aW (by simp;omega)];simp [h2,hl]
  rw [e1,e2];exact hw
theorem pX {u : Value} {vs : List bS} {kd : ac8} {deep cp : Int} {ct : Nat} (hcp : 0 ≤ cp ∧ cp ≤ 100000000) (hct : ct ≤ 100000000) (hD : 0 < deep → eC u vs kd (deep - 1) cp ct) (hu : u.oneCell' = true) (hkl : kd.length ≤ 1000) (hd : -1000 ≤ deep ∧ deep ≤ 1000) : eC u vs (91 :: kd) deep (3 * cp + 10) (3 * ct + 200):=by
 intro G r code p l hR hs hp
 have hkd0 : bt (91 :: kd) (Int.toNat 0) = 91:=bi 91 kd
 have hkl2 : (91 :: kd).length = kd.length + 1:=rfl
 refine bL [(0,_),(1,_),(2,_),(3,_)] Tryz.func63 kR Tryz.ntmps63 F F tU fun B hB hW=>?_
 repeat' (first | refine jM ?_ | (refine jo ?_;first | refine jV (al F F) ?_ | refine jO fun _=>?_ | (refine af F F F (ci ?_ (by (repeat (assumption));done)) rfl ?_;(focus omega);rintro _ _ ⟨k,rfl,rfl,hk0,hk1⟩;dsimp only [zA,fA])) | refine ac F F ?_ | refine ad F F ?_)
 rename_i y
 refine Nx.addNil ur 1 ?_
 refine aT (ι:=List V × List Nat × Option Addr × Nat × Int × Int × Gh) (fun j=>((j.2.1.length = j.1.length ∧ ∀ i,i < j.1.length → RepR j.2.2.2.2.2.2 (ag vs) (ae j.1 i) kd (ae j.2.1 i)) ∧ Gh.le G j.2.2.2.2.2.2) ∧ (0 ≤ j.2.2.2.2.1 ∧ ((j.1.length : Nat) : Int) + j.2.2.2.2.1 ≤ 3) ∧ V.tots j.1 ≤ ct * j.1.length ∧ p ≤ j.2.2.2.2.2.1 ∧ j.2.2.2.2.2.1 ≤ p + 1 + cp * ((j.1.length : Nat) : Int)) (fun j=>[(0,Pt r 0),(1,u),(2,S (91 :: kd)),(3,I deep),(9,Pt y 0),(10,I j.2.2.2.2.1)]) (fun j=>j.2.2.2.2.2.2) (fun j=>[.acc (.slice j.2.2.1 j.1.length j.2.2.2.1) ur 1 j.1.length (aE eK j.2.1),dE r code j.2.2.2.2.2.1 cV,.blk y (.cells (List.toArray [S (91 :: kd),S [],aI,.slice j.2.2.1 j.1.length j.2.2.2.1]) qj (0,0))]) (fun j=>j.2.2.2.2.1.toNat) ([],[],none,0,k,p + 1,G) ?_ tU F aZ (fun j Hj=>?_)
 ·refine ⟨⟨⟨F,fun i hi=>absurd hi (by simp)⟩,Gh.le.refl _⟩,?_,?_,?_,?_⟩
  ·dsimp only;simp only [List.length_nil];omega
  ·simp [V.tots]
  ·dsimp only;omega
  ·dsimp only;simp
 obtain ⟨ks,bs,a,c,kk,q,Gq⟩:=j
 dsimp only at Hj ⊢
 obtain ⟨⟨⟨hbl,hreps⟩,hgq⟩,hk,htt,hq0,hq1⟩:=Hj
 have hcl : cp * ((ks.length : Nat) : Int) ≤ cp * 3:=Int.mul_le_mul_of_nonneg_left oM hcp.1
 have hcl0 : 0 ≤ cp * ((ks.length : Nat) : Int):=Int.mul_nonneg hcp.1 oM
 have htl : ct * ks.length ≤ ct * 3:=Nat.mul_le_mul_left _ oM
 by_cases hgo : 0 < kk ∧ 0 < deep
 ·obtain ⟨hk0,hd0⟩:=hgo
  have hcl3 : cp * ((ks.length : Nat) : Int) + cp ≤ cp * 3:=by
   have:=Int.mul_le_mul_of_nonneg_left (show ((ks.length : Nat) : Int) + 1 ≤ 3 by omega) hcp.1
   rwa [Int.mul_add,Int.mul_one] at this
  have cx_dv:=fun {p : Int} (hp : 0 ≤ p ∧ p + cp ≤ 600000000000)=>hD hd0 Gq r code p l (hR.mono hgq) (hs.mono hgq) hp
  repeat' (first | refine jR ?_ | (refine jo ?_;refine aG F ?_) | refine ax F F (ay ‹_›) ?_ | refine ac F (ay ‹_›) ?_)
  (refine aj (am (id:=16) [] (fun _ h=>absurd h (by simp)) ai ?_);refine jW 7 [0,1,2,3,5,6,7,8,9,10] (aa 17 2031) ?_;refine bA [4,11] kR dC ⟨?_,?_,trivial⟩;(focus (refine aM F F ?_;(refine ah F ?_);refine jK (aa 17 2047) ?_;refine jA 11 F ?_;((refine cI F F F (cx_dv ?_) F ?_;(focus omega);rintro _ G1 _ hle ⟨w1,b1,q1,rfl,hrep,htot,hone,rfl,hq1,hq2⟩;dsimp only [zA,fA];skip));refine jK (aa 17 4095) ?_;refine jA 12 F ?_;(refine jF fun _=>?_);refine jK (aa 17 8191) ?_;refine jA 13 F ?_;((refine bY F F F F F F F F F ?_ fun _ _=>?_;focus omega));refine jK (aa 17 16383) ?_;refine jW 1 [14,15] (aa 17 65535) ?_;refine jA 16 F ?_;(refine jD F F F ?_);refine jK (aa 17 131071) ?_;refine jQ ?_));rotate_left 1;(focus (refine aM F F ?_;((refine cI F F F (cx_dv ?_) F ?_;(focus omega);rintro _ G1 _ hle ⟨w1,b1,q1,rfl,hrep,htot,hone,rfl,hq1,hq2⟩;dsimp only [zA,fA];skip));refine jK (aa 17 4079) ?_;refine bA [4,12] kR dC ⟨?_,?_,trivial⟩;(focus (refine aM F F ?_;(refine ah F ?_);refine jK (aa 17 4095) ?_;refine jA 12 F ?_;(refine jF fun _=>?_);refine jK (aa 17 8191) ?_;refine jA 13 F ?_;((refine bY F F F F F F F F F ?_ fun _ _=>?_;focus omega));refine jK (aa 17 16383) ?_;refine jW 1 [14,15] (aa 17 65535) ?_;refine jA 16 F ?_;(refine jD F F F ?_);refine jK (aa 17 131071) ?_;refine jQ ?_));rotate_left 1;(focus (refine aM F F ?_;(refine jF fun _=>?_);refine jK (aa 17 8175) ?_;refine jA 4 F ?_;(refine ah F ?_);refine jK (aa 17 8191) ?_;refine jA 13 F ?_;((refine bY F F F F F F F F F ?_ fun _ _=>?_;focus omega));refine jK (aa 17 16383) ?_;refine jW 1 [14,15] (aa 17 65535) ?_;refine jA 16 F ?_;(refine jD F F F ?_);refine jK (aa 17 131071) ?_;refine jQ ?_));rotate_left 1));rotate_left 2)
  all_goals repeat' (refine jM ?_)
  all_goals
   rename_i _ y1 yc
   have hl1 : (ks ++ [w1]).length = ks.length + 1:=by simp
   have hms : ct * (ks.length + 1) = ct * ks.length + ct:=Nat.mul_succ _ _
   have hts : V.tots (ks ++ [w1]) = V.tots ks + w1.tot:=by simp [eY,V.tots]
   rw [show aE eK bs ++ [Pt b1 0] = aE eK (bs ++ [b1]) from (co eK bs b1).symm]
   exact aY (ks ++ [w1],bs ++ [b1],some ⟨y1,0,none⟩,yc,kk - 1,q1,G1) ⟨⟨⟨by simp [hbl],uB hbl (fun i hi=>(hreps i hi).mono hle) hrep⟩,hgq.trans hle⟩,by dsimp only;rw [hl1];omega,by dsimp only;rw [hl1,hms,hts];omega,by dsimp only;omega,by dsimp only;rw [hl1,Int.natCast_succ,Int.mul_add,Int.mul_one];omega⟩ (by dsimp only;omega) tU rfl (by rw [hl1];repeat (first | exact List.Sublist.refl _ | apply List.Sublist.cons_cons | apply List.Sublist.cons))
 ·have : kk = 0 ∨ deep ≤ 0:=oM
  repeat' (first | refine jR ?_ | (refine jo ?_;first | refine aG F ?_ | refine ar F ?_) | refine dN F F (fun _=>?_) (fun _=>?_) | (refine ad F (by first | rfl | (refine decide_eq_false ?_;(omega))) ?_))
  all_goals
   refine Nx.sealS (v:=.slice a ks.length c) fun G2 hG2 hsl=>?_
   refine Nx.sealC (b:=y) fun G3 hG3 hsg=>?_
   exact aP (vs:=[_]) F ⟨F,trivial⟩ F aZ ⟨hgq.trans (hG2.trans hG3),.nd 91 [] 0 ks,y,q,F,.lst kd y ks bs a c hsg (hsl.mono hG3) hbl (fun i hi=>(hreps i hi).mono (hG2.trans hG3)),by rw [b6];simp only [List.length_nil];omega,by rw [V.out];simp [dp],rfl,oM,oM⟩
theorem r6 {u : Value} {vs : List bS} {kd : ac8} {deep cp : Int} {ct : Nat} (hcp : 0 ≤ cp ∧ cp ≤ 100000000) (hct : ct ≤ 100000000) (hD : 0 < deep → eC u vs kd (deep - 1) cp ct) (hu : u.oneCell' = true) (hkl : kd.length ≤ 1000) (hd : -1000 ≤ deep ∧ deep ≤ 1000) : eC u vs (63 :: kd) deep (cp + 10) (ct + 200):=by
 intro G r code p l hR hs hp
 have hkd0 : bt (63 :: kd) (Int.toNat 0) = 63:=bi 63 kd
 have hkl2 : (63 :: kd).length = kd.length + 1:=rfl
 by_cases h0 : 0 < deep
 ·have cx_dv:=fun {p : Int} (hp : 0 ≤ p ∧ p + cp ≤ 600000000000)=>hD h0 G r code p l hR hs hp
  refine bL [(0,_),(1,_),(2,_),(3,_)] Tryz.func63 kR Tryz.ntmps63 F F tU fun B hB hW=>?_
  repeat' (first | refine jM ?_ | (refine jo ?_;first | refine jV (al F F) ?_ | refine jO fun _=>?_ | refine aG F ?_ | (refine af F F F (ci ?_ (by (repeat (assumption));done)) rfl ?_;(focus omega);rintro _ _ ⟨k,rfl,rfl,hk0,hk1⟩;dsimp only [zA,fA])) | refine ax F F (ay ‹_›) ?_ | refine ac F F ?_ | refine ad F F ?_ | refine cB F (fun _=>?_) (fun _=>?_))
  ·refine Nx.addNil ur 1 ?_
   (refine aj (am (id:=20) [] (fun _ h=>absurd h (by simp)) ai ?_);refine jW 7 [0,1,2,3,5,6,7,8,9,10] (aa 17 2031) ?_;refine bA [4,11] kR dC ⟨?_,?_,trivial⟩;(focus (refine aM F F ?_;(refine ah F ?_);refine jK (aa 17 2047) ?_;refine jA 11 F ?_;((refine cI F F F (cx_dv ?_) F ?_;(focus omega);rintro _ G1 _ hle ⟨w1,b1,q1,rfl,hrep,htot,hone,rfl,hq1,hq2⟩;dsimp only [zA,fA];skip));refine jK (aa 17 4095) ?_;refine jA 12 F ?_;(refine jF fun _=>?_);refine jK (aa 17 8191) ?_;refine jA 13 F ?_;((refine bY F F F F F F F F F ?_ fun _ _=>?_;focus omega));refine jK (aa 17 16383) ?_;refine jW 1 [14,15] (aa 17 65535) ?_;refine jA 16 F ?_;(refine jD F F F ?_);refine jK (aa 17 131071) ?_;refine jQ ?_));rotate_left 1;(focus (refine aM F F ?_;((refine cI F F F (cx_dv ?_) F ?_;(focus omega);rintro _ G1 _ hle ⟨w1,b1,q1,rfl,hrep,htot,hone,rfl,hq1,hq2⟩;dsimp only [zA,fA];skip));refine jK (aa 17 4079) ?_;refine bA [4,12] kR dC ⟨?_,?_,trivial⟩;(focus (refine aM F F ?_;(refine ah F ?_);refine jK (aa 17 4095) ?_;refine jA 12 F ?_;(refine jF fun _=>?_);refine jK (aa 17 8191) ?_;refine jA 13 F ?_;((refine bY F F F F F F F F F ?_ fun _ _=>?_;focus omega));refine jK (aa 17 16383) ?_;refine jW 1 [14,15] (aa 17 65535) ?_;refine jA 16 F ?_;(refine jD F F F ?_);refine jK (aa 17 131071) ?_;refine jQ ?_));rotate_left 1;(focus (refine aM F F ?_;(refine jF fun _=>?_);refine jK (aa 17 8175) ?_;refine jA 4 F ?_;(refine ah F ?_);refine jK (aa 17 8191) ?_;refine jA 13 F ?_;((refine bY F F F F F F F F F ?_ fun _ _=>?_;focus omega));refine jK (aa 17 16383) ?_;refine jW 1 [14,15] (aa 17 65535) ?_;refine jA 16 F ?_;(refine jD F F F ?_);refine jK (aa 17 131071) ?_;refine jQ ?_));rotate_left 1));rotate_left 2)
   all_goals repeat' (refine jR ?_)
   all_goals
    rename_i y _ _ y1 yc
    refine Nx.sealS (v:=.slice (some ⟨y1,0,none⟩) (0 + 1) yc) fun G2 hG2 hsl=>?_
    refine Nx.sealC (b:=y) fun G3 hG3 hsg=>?_
    obtain ⟨_,⟨h,_⟩ | ⟨b2,o2,c2,e,hc2,hs2⟩⟩:=hsl
    ·cases h
    simp only [Value.slice.injEq,Option.some.injEq,Addr.mk.injEq,and_true] at e
    obtain ⟨⟨rfl,rfl⟩,-,rfl⟩:=e
    exact aP (vs:=[_]) F ⟨F,trivial⟩ F sB ⟨hle.trans (hG2.trans hG3),.nd 63 [] 0 [w1],y,q1,F,.opt kd y y1 b1 yc w1 oM hsg (hs2.mono hG3) (hrep.mono (hG2.trans hG3)),by simp only [b6,V.tots,List.length_nil];omega,by rw [V.out];simp [dp],rfl,oM,oM⟩
  ·rename_i y _
   refine Nx.sealC (b:=y) fun G2 hG2 hsy=>?_
   exact aP (vs:=[_]) F ⟨F,trivial⟩ F aZ ⟨hG2,.nd 63 [] 0 [],y,_,F,.non kd y hsy,by simp [b6,V.tots],by rw [V.out];simp [dp],rfl,oM,oM⟩
 ·refine bL [(0,_),(1,_),(2,_),(3,_)] Tryz.func63 kR Tryz.ntmps63 F F tU fun B hB hW=>?_
  repeat' (first | refine jM ?_ | (refine jo ?_;first | refine jV (al F F) ?_ | refine jO fun _=>?_ | refine ar F ?_) | refine ak F F (aC ‹_›) ?_ | refine ac F F ?_ | refine ad F F ?_)
  rename_i y
  refine Nx.sealC (b:=y) fun G2 hG2 hsy=>?_
  exact aP (vs:=[_]) F ⟨F,trivial⟩ F aZ ⟨hG2,.nd 63 [] 0 [],y,_,F,.non kd y hsy,by simp [b6,V.tots],by rw [V.out];simp [dp],rfl,oM,oM⟩
end Go.E
