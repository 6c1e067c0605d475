/- Contracts and plain laws that the statement rests on, part 7. Conditions: as each says. -/
import Derived.Test.YtlkjjgmfhafnaaaGreatDoorU6
set_option linter.unusedVariables false
set_option linter.unusedSimpArgs false
namespace Go.E
set_option maxRecDepth 20000
set_option maxHeartbeats 2000000
open Go.Proofs
variable {G : Gh}
abbrev tBr : TypeId:=93
abbrev bE (r sc : Nat) (s : acA) (b : Bool) (a : Option Addr) (n c : Nat) (d : Int) : Own:=.blk r (.cells (List.toArray [Pt sc 0,S s,Bo b,.slice a n c,I d]) tBr (0,0))
theorem ja {r sc m n c : Nat} {s : acA} {a : Option Addr} {d : Int} (h : m ≤ s.length ∧ s.length ≤ 1000000) : bV acz 64 [Pt r 0,I (m : Nat)] G [bE r sc s false a n c d] (fun v L'=>v = S (s.take m) ∧ L' = [bE r sc (s.drop m) false a n c d]):=by
 refine jH [(0,_),(1,_)] Tryz.func64 Tryz.ntmps64 fun B hB hW=>?_
 repeat' (first | refine jM ?_ | (refine jo ?_;first | refine ah F ?_ | refine av F ?_ | refine jD F F F ?_) | refine an F F F ?_ | refine ad F (aB oM) ?_)
 exact aN (vs:=[_]) F ⟨F,trivial⟩ F (List.Sublist.refl _) ⟨F,F,F⟩
theorem fB {r sc m n c : Nat} {s : acA} {b : Bool} {a : Option Addr} {d : Int} (h : b = true ∨ s.length < m) (hs : s.length ≤ 1000000 ∧ m ≤ 1000000) : bV acz 64 [Pt r 0,I (m : Nat)] G [bE r sc s b a n c d] (fun v L'=>v = S [] ∧ L' = [bE r sc s true a n c d]):=by
 rcases h with rfl | h
 ·refine jH [(0,_),(1,_)] Tryz.func64 Tryz.ntmps64 fun B hB hW=>?_
  repeat' (first | refine jR ?_ | (refine jo ?_;first | refine ah F ?_ | refine aH F ?_ | refine jD F F F ?_) | refine aA F F F ?_ | refine ac F F ?_)
  all_goals exact aN (vs:=[_]) F ⟨F,trivial⟩ F (List.Sublist.refl _) ⟨F,F,F⟩
 ·cases b
  ·refine jH [(0,_),(1,_)] Tryz.func64 Tryz.ntmps64 fun B hB hW=>?_
   repeat' (first | refine jR ?_ | (refine jo ?_;first | refine ah F ?_ | refine av F ?_ | refine jD F F F ?_) | refine an F F F ?_ | refine ac F (ay oM) ?_)
   all_goals exact aN (vs:=[_]) F ⟨F,trivial⟩ F (List.Sublist.refl _) ⟨F,F,F⟩
  ·refine jH [(0,_),(1,_)] Tryz.func64 Tryz.ntmps64 fun B hB hW=>?_
   repeat' (first | refine jR ?_ | (refine jo ?_;first | refine ah F ?_ | refine aH F ?_ | refine jD F F F ?_) | refine aA F F F ?_ | refine ac F F ?_)
   all_goals exact aN (vs:=[_]) F ⟨F,trivial⟩ F (List.Sublist.refl _) ⟨F,F,F⟩
theorem rP {r sc n c : Nat} {s q : acA} {x : Bool} {a : Option Addr} {d : Int} (h : cq s = some (x,q)) (hs : s.length ≤ 1000000) : bV acz 135 [Pt r 0] G [bE r sc s false a n c d] (fun v L'=>v = Bo x ∧ L' = [bE r sc q false a n c d]):=by
 have e:=eU h
 subst e
 have hl : ((if x = true then 1 else 0) :: q).length = q.length + 1:=rfl
 have cx_tkb:=ja (G:=G) (r:=r) (sc:=sc) (m:=1) (n:=n) (c:=c) (s:=(if x = true then 1 else 0) :: q) (a:=a) (d:=d) ⟨oM,hs⟩
 cases x
 ·have cx_tkb : bV acz 64 [Pt r 0,I 1] G [bE r sc (0 :: q) false a n c d] (fun v L'=>v = S [0] ∧ L' = [bE r sc q false a n c d]):=cx_tkb
  refine jH [(0,_)] Tryz.func135 Tryz.ntmps135 fun B hB hW=>?_
  repeat' (first | refine jR ?_ | (refine jo ?_;(refine af F F F cx_tkb F ?_;rintro _ _ ⟨rfl,rfl⟩;dsimp only [zA,fA])) | refine ad F F ?_)
  all_goals exact aN (vs:=[_]) F ⟨F,trivial⟩ F (List.Sublist.refl _) ⟨F,F,F⟩
 ·have cx_tkb : bV acz 64 [Pt r 0,I 1] G [bE r sc (1 :: q) false a n c d] (fun v L'=>v = S [1] ∧ L' = [bE r sc q false a n c d]):=cx_tkb
  refine jH [(0,_)] Tryz.func135 Tryz.ntmps135 fun B hB hW=>?_
  repeat' (first | refine jR ?_ | (refine jo ?_;(refine af F F F cx_tkb F ?_;rintro _ _ ⟨rfl,rfl⟩;dsimp only [zA,fA])) | refine ad F F ?_)
  all_goals exact aN (vs:=[_]) F ⟨F,trivial⟩ F (List.Sublist.refl _) ⟨F,F,F⟩
theorem rQ {r sc n c : Nat} {s : acA} {b : Bool} {a : Option Addr} {d : Int} (h : b = true ∨ cq s = none) (hs : s.length ≤ 1000000) : bV acz 135 [Pt r 0] G [bE r sc s b a n c d] (fun v L'=>∃ q,(v = Bo false ∧ q.length ≤ s.length) ∧ L' = [bE r sc q true a n c d]):=by
 by_cases h1 : b = true ∨ s.length < 1
 ·have cx_tkb:=fB (G:=G) (r:=r) (sc:=sc) (m:=1) (n:=n) (c:=c) (s:=s) (b:=b) (a:=a) (d:=d) h1 ⟨hs,oM⟩
  have cx_tkb : bV acz 64 [Pt r 0,I 1] G [bE r sc s b a n c d] (fun v L'=>v = S [] ∧ L' = [bE r sc s true a n c d]):=cx_tkb
  refine jH [(0,_)] Tryz.func135 Tryz.ntmps135 fun B hB hW=>?_
  repeat' (first | refine jR ?_ | (refine jo ?_;(refine af F F F cx_tkb F ?_;rintro _ _ ⟨rfl,rfl⟩;dsimp only [zA,fA])) | refine ad F F ?_)
  all_goals exact aN (vs:=[_]) F ⟨F,trivial⟩ F (List.Sublist.refl _) ⟨F,s,⟨F,Nat.le_refl _⟩,F⟩
 ·obtain rfl : b = false:=by cases b;rfl;exact absurd (.inl F) h1
  match s,h,hs,h1 with
  | [],_,_,h1=>exact absurd (.inr (by simp)) h1
  | e :: q,h,hs,_ =>
   have he : e.toNat ≠ 0 ∧ e.toNat ≠ 1:=by
    rcases h with h | h
    ·cases h
    ·unfold cq at h
     dsimp only at h
     split at h
     ·cases h
     ·split at h
      ·cases h
      ·exact ⟨by assumption,by assumption⟩
   have hl : (e :: q).length = q.length + 1:=rfl
   have cx_tkb:=ja (G:=G) (r:=r) (sc:=sc) (m:=1) (n:=n) (c:=c) (s:=e :: q) (a:=a) (d:=d) ⟨oM,hs⟩
   have cx_tkb : bV acz 64 [Pt r 0,I 1] G [bE r sc (e :: q) false a n c d] (fun v L'=>v = S [e] ∧ L' = [bE r sc q false a n c d]):=cx_tkb
   have hne : ¬ [e] = [1]:=fun h=>by simp only [List.cons.injEq,and_true] at h;subst h;exact he.2 F
   have hbl : Op.bytesLess [e] [1] = false:=by
    cases hb : Op.bytesLess [e] [1] with
    | false=>rfl
    | true =>
     exfalso
     unfold Op.bytesLess at hb
     have h9 : ¬ e.toNat < (1 : UInt8).toNat:=by show ¬ e.toNat < 1;omega
     simp_all
   have hc : (!(Op.bytesLess [e] [1] || decide ([e] = [1]))) = true:=by rw [hbl,decide_eq_false hne];rfl
   refine jH [(0,_)] Tryz.func135 Tryz.ntmps135 fun B hB hW=>?_
   repeat' (first | refine jR ?_ | (refine jo ?_;first | refine jD F F F ?_ | (refine af F F F cx_tkb F ?_;rintro _ _ ⟨rfl,rfl⟩;dsimp only [zA,fA])) | refine ac F ‹_› ?_)
   all_goals exact aN (vs:=[_]) F ⟨F,trivial⟩ F (List.Sublist.refl _) ⟨F,q,⟨by rw [decide_eq_false hne];all_goals rfl,oM⟩,rfl⟩
theorem ec {r sc m c : Nat} {s q : acA} {b : Bool} {a : Option Addr} {d n : Int} (h : bi s = some (n,q)) (hs : s.length ≤ 1000) : bV acz 63 [Pt r 0] G [bE r sc s b a m c d] (fun v L'=>v = I n ∧ L' = [bE r sc q b a m c d]):=by
 have cx_ng0:=j5 (G:=G) (s:=s) oM
 rw [h] at cx_ng0
 have cx_ngi : ao acz 31 [S s] G (· = Tu [I n,S q,Bo true]):=cx_ng0
 refine jH [(0,_)] Tryz.func63 Tryz.ntmps63 fun B hB hW=>?_
 repeat' (first | refine jR ?_ | (refine jo ?_;first | refine ah F ?_ | refine jD F F F ?_ | refine ab F F F cx_ngi F ?_) | refine ad F F ?_)
 all_goals exact aN (vs:=[_]) F ⟨F,trivial⟩ F (List.Sublist.refl _) ⟨F,F,F⟩
theorem fO {r sc m c : Nat} {s : acA} {b : Bool} {a : Option Addr} {d : Int} (h : bi s = none) (hs : s.length ≤ 1000) : bV acz 63 [Pt r 0] G [bE r sc s b a m c d] (fun v L'=>v = I 0 ∧ L' = [bE r sc [] true a m c d]):=by
 have cx_ng0:=j5 (G:=G) (s:=s) oM
 rw [h] at cx_ng0
 have cx_ngi : ao acz 31 [S s] G (· = Tu [I 0,S [],Bo false]):=cx_ng0
 refine jH [(0,_)] Tryz.func63 Tryz.ntmps63 fun B hB hW=>?_
 repeat' (first | refine jR ?_ | (refine jo ?_;first | refine ah F ?_ | refine jD F F F ?_ | refine ab F F F cx_ngi F ?_) | refine ac F F ?_)
 all_goals exact aN (vs:=[_]) F ⟨F,trivial⟩ F (List.Sublist.refl _) ⟨F,F,F⟩
abbrev fp : TypeId:=91
abbrev lD : TypeId:=76
abbrev qI : TypeId:=71
theorem c0 {P : Program} {n : Nat} {E : bn} {B : Base} {G : Gh} {L R1 R : List Own} {e : Exit} {f : FuncId} {fi ca az xs : List Value} {b1 b2 : Nat} {c1 c2 : List Value} {T1 T2 : TypeId} {PostD : Value → Gh → List Own → Prop} {fn : Func} {rs : List ResultVar} {Post : Value → Gh → List Own → Prop}
  [h1 : DelB L b1 c1 T1 R1] [h2 : DelB R1 b2 c2 T2 R] (he : e = .ret ∨ e = .normal) (hv : fi ++ az ++ ca = xs) (hc : FnD P f xs G [.blk b1 (.cells c1.toArray T1 (0,0)),.blk b2 (.cells c2.toArray T2 (0,0))] PostD)
  (hr : fn.results = rs.toArray) (k : ∀ v G' L',PostD v G' L' → ∃ vs L'',iu P (St B G' (L' ++ R)) E rs vs ∧ L''.Sublist (L' ++ R) ∧ Post (eF vs) G' L'') :
  Nx n [rz f fi ca az] E B G L (cu P (.exit e) [] (v2 P fn (dw B Post))):=abc he hv hc (h1.del.perm.trans (h2.del.perm.cons _)) hr k
theorem cI {x0 r sc n c : Nat} {s : acA} {b : Bool} {a : Option Addr} {d : Int} (hd : -1000 ≤ d ∧ d ≤ 1000) : FnD acz 132 [Pt x0 0] G [.blk x0 (.cells (List.toArray [Pt r 0]) fp (0,0)),bE r sc s b a n c d]
  (fun _ G' L'=>G' = G ∧ L' = [.blk x0 (.cells (List.toArray [Pt r 0]) fp (0,0)),bE r sc s b a n c (d - 1)]):=by
 refine yv [(0,_)] Tryz.func132 kR Tryz.ntmps132 F F tU fun B hok hB hW=>?_
 repeat' (first | refine jM ?_ | (refine jo ?_;first | refine ah F ?_ | refine jD F F F ?_))
 all_goals exact nu (vs:=[]) F trivial F (List.Sublist.refl _) ⟨F,F⟩
def r9 (f : acA → Option (V × acA)) (s : acA) (b : Bool) (u : V) (s' : acA) (b' : Bool) : Prop :=
 s'.length ≤ s.length ∧ (b' = false → b = false ∧ f s = some (u,s')) ∧ (b' = true → b = true ∨ f s = none)
def j6 (f : acA → Option (V × acA)) (r sc : Nat) (s : acA) (b : Bool) (d : Int) (v : Value) (G' : Gh) (L' : List Own) : Prop :=
 ∃ u c s' b' a n k,v = Ag (cg c) ∧ V.rep G' u c ∧ L' = [bE r sc s' b' a n k d] ∧ (d ≠ 0 → a = none ∧ n = 0 ∧ k = 0) ∧ r9 f s b u s' b'
def qp (n sc : Nat) (qs : List cE) : Prop:=∀ (G : Gh) (r : Nat) (k s : acA) (b : Bool),ScI G sc qs → aM (al qs) k = true → s.length ≤ 1000 →
 di acz 92 [Pt r 0,Ag (em k)] G [bE r sc s b none 0 0 (13 - (n : Int))] (j6 (rb (al qs) n k) r sc s b (13 - (n : Int)))
theorem cH {f : acA → Option (V × acA)} {r sc n k : Nat} {s s' : acA} {b b' : Bool} {d d' : Int} {u : V} {c : VC} {a : Option Addr} {G' : Gh} (hr : V.rep G' u c) (hd : d' = d) (hk : d ≠ 0 → a = none ∧ n = 0 ∧ k = 0) (h : r9 f s b u s' b') : j6 f r sc s b d (Ag (cg c)) G' [bE r sc s' b' a n k d']:=by
 subst hd;exact ⟨u,c,s',b',a,n,k,F,hr,F,hk,h⟩
theorem v6 {f : acA → Option (V × acA)} {r sc : Nat} {k q : acA} {d e : Int} (h : e = d) (h0 : d ≠ 0) (hc : di acz 92 [Pt r 0,Ag (em k)] G [bE r sc q false none 0 0 e] (j6 f r sc q false e)) : di acz 92 [Pt r 0,Ag [S (sg k),S (bs k),S (nm k)]] G [bE r sc q false none 0 0 d] (fun v G' L'=>∃ u c s' b',v = Ag (cg c) ∧ V.rep G' u c ∧ L' = [bE r sc s' b' none 0 0 d] ∧ r9 f q false u s' b'):=by
 subst h
 refine hc.mono ?_
 rintro v G' L' ⟨h1,u,c,s',b',a,n,kk,rfl,h2,rfl,h3,h4⟩
 obtain ⟨rfl,rfl,rfl⟩:=h3 h0
 exact ⟨h1,u,c,s',b',F,h2,F,h4⟩
theorem kp {ts : List Ty} {n : Nat} {k q t1 : acA} {u : V} {b1 : Bool} (h : r9 (rb ts n k) q false u t1 b1) : t1.length ≤ q.length ∧ (b1 = false → rb ts n k q = some (u,t1) ∧ u.tot + 100 * t1.length ≤ 100 * q.length ∧ t1.length < q.length) ∧ (b1 = true → rb ts n k q = none):=by
 obtain ⟨h1,h2,h3⟩:=h
 refine ⟨h1,fun h=>?_,fun h=>?_⟩
 ·obtain ⟨_,h4⟩:=h2 h
  exact ⟨h4,iX _ _ _ _ _ h4,od _ _ _ _ _ h4⟩
 ·rcases h3 h with h4 | h4
  ·cases h4
  ·exact h4
theorem td {r sc n : Nat} {qs : List cE} {k s : acA} {b : Bool} (h : b = true ∨ n = 0) (hs : s.length ≤ 1000) (hn : n ≤ 13) :
  di acz 92 [Pt r 0,Ag [S (sg k),S (bs k),S (nm k)]] G [bE r sc s b none 0 0 (13 - (n : Int))] (j6 (rb (al qs) n k) r sc s b (13 - (n : Int))):=by
 have hno : b = true ∨ rb (al qs) n k s = none:=by
  rcases h with h | rfl
  ·exact .inl h
  ·exact .inr F
 rcases h with rfl | rfl
 ·
  refine cn [(0,_),(1,_)] Tryz.func92 kR Tryz.ntmps92 F F tU fun B hok hB hW=>?_
  repeat' (first | refine jM ?_ | (refine jo ?_;first | refine jO fun _=>?_ | refine jL fun _=>?_ | refine ah F ?_ | refine jD F F F ?_ | refine jV (db F F) ?_))
  rename_i x2 x3 x4
  refine jo ?_
  refine co (fi:=[]) (ca:=[Pt x2 0]) (az:=[]) F F ?_
  repeat' (first | refine jR ?_ | (refine jo ?_;first | refine ah F ?_ | refine jD F F F ?_ | refine jC F F F ?_ | refine jV (ak F F) ?_) | refine ac F F ?_ | refine cB F (fun _=>?_) (fun _=>?_))
  all_goals
   refine c0 (.inl F) F (cI (x0:=x2) (r:=r) (sc:=sc) (s:=s) (b:=true) (a:=none) (n:=0) (c:=0) (d:=13 - (n : Int) + 1) oM) F ?_
   rintro v G' L' ⟨rfl,rfl⟩
   dsimp only [zA,fA]
   exact ⟨[_],[bE r sc s true none 0 0 (13 - (n : Int) + 1 - 1)],⟨aD F F F F,trivial⟩,sB,Gh.le.refl _,cH (c:=⟨0,[],0,none,0,0⟩) fq oM (fun _=>⟨F,F,F⟩) ⟨Nat.le_refl _,fun h=>(by cases h),fun _=>hno⟩⟩
 ·
  refine cn [(0,_),(1,_)] Tryz.func92 kR Tryz.ntmps92 F F tU fun B hok hB hW=>?_
  repeat' (first | refine jM ?_ | (refine jo ?_;first | refine jO fun _=>?_ | refine jL fun _=>?_ | refine ah F ?_ | refine jD F F F ?_ | refine jV (db F F) ?_))
  rename_i x2 x3 x4
  refine jo ?_
  refine co (fi:=[]) (ca:=[Pt x2 0]) (az:=[]) F F ?_
  repeat' (first | refine jR ?_ | (refine jo ?_;first | refine ah F ?_ | refine jD F F F ?_ | refine jC F F F ?_ | refine jV (ak F F) ?_) | refine ac F F ?_)
  all_goals
   refine c0 (.inl F) F (cI (x0:=x2) (r:=r) (sc:=sc) (s:=s) (b:=true) (a:=none) (n:=0) (c:=0) (d:=13 - ((0 : Nat) : Int) + 1) oM) F ?_
   rintro v G' L' ⟨rfl,rfl⟩
   dsimp only [zA,fA]
   exact ⟨[_],[bE r sc s true none 0 0 (13 - ((0 : Nat) : Int) + 1 - 1)],⟨aD F F F F,trivial⟩,sB,Gh.le.refl _,cH (c:=⟨0,[],0,none,0,0⟩) fq oM (fun _=>⟨F,F,F⟩) ⟨Nat.le_refl _,fun h=>(by cases h),fun _=>hno⟩⟩
theorem tl {n r sc m c : Nat} {qs : List cE} {k p s : acA} {d : Int} {a : Option Addr} (hd : d = 13 - (n : Int)) (hn : n ≤ 12) (hU : qp n sc qs) (hS : ScI G sc qs) (hk : aM (al qs) k = true) (hs : p.length ≤ 1000) :
  di acz 138 [Pt r 0,Ag [S (sg k),S (bs k),S (nm k)],S p] G [bE r sc s false a m c d] (fun v G' L'=>∃ u cc b',v = Ag (cg cc) ∧ V.rep G' u cc ∧ L' = [bE r sc s b' a m c d] ∧ (b' = false → cM (rb (al qs) n) k p = some u ∧ u.tot ≤ 100 * p.length) ∧ (b' = true → cM (rb (al qs) n) k p = none)):=by
 have cx_vl : ∀ y,di acz 92 [Pt y 0,Ag [S (sg k),S (bs k),S (nm k)]] G [bE y sc p false none 0 0 d] (fun v G' L'=>∃ u c s' b',v = Ag (cg c) ∧ V.rep G' u c ∧ L' = [bE y sc s' b' none 0 0 d] ∧ r9 (rb (al qs) n k) p false u s' b'):=fun y=>v6 hd.symm oM (hU G y k p false hS hk hs)
 refine bI [(0,_),(1,_),(2,_)] Tryz.func138 kR Tryz.ntmps138 F F tU fun B hB hW=>?_
 repeat' (first | refine jR ?_ | (refine jo ?_;first | refine jO fun _=>?_ | refine jL fun _=>?_ | refine aK F ?_) | (refine aj (am (id:=1) _ (fun _ h=>h) ai ?_);refine jT 5 [0,1,2,4,5,6,7] (aa 12 247) ?_;(refine jG (aa 12 255) 3 F (aq F F F) ?_);(refine jG (aa 12 511) 8 F (aq F F F) ?_);(refine jG (aa 12 1023) 9 F (ak F F) ?_);refine jA 10 F ?_;(refine jO fun _=>?_);refine jS (aa 12 2047) ?_;refine jT 0 [11] (aa 12 4095) ?_;refine jQ ?_))
 rename_i y
 refine jo ?_
 refine cP F F F (cx_vl y) F ?_
 rintro _ G1 _ hle ⟨u1,c1,t1,b1,rfl,hrep,rfl,hP⟩
 dsimp only [zA,fA]
 obtain ⟨hQ1,hQ2,hQ3⟩:=kp hP
 cases b1 with
 | true =>
  have hno : cM (rb (al qs) n) k p = none:=by unfold cM;rw [hQ3 rfl]
  repeat' (first | refine jR ?_ | (refine jo ?_;first | refine jL fun _=>?_ | refine ah F ?_ | refine aK F ?_ | refine jD F F F ?_ | refine jC F F F ?_ | refine aH F ?_) | refine aA F F F ?_ | refine ac F F ?_)
  all_goals refine aN (vs:=[_]) F ⟨aD F F F F,trivial⟩ F sB ⟨hle,u1,c1,true,F,hrep,F,fun h=>(by cases h),fun _=>hno⟩
 | false =>
  obtain ⟨h1,h2,h3⟩:=hQ2 rfl
  cases t1 with
  | nil =>
   have hyes : cM (rb (al qs) n) k p = some u1:=f3 h1
   repeat' (first | refine jR ?_ | (refine jo ?_;first | refine jL fun _=>?_ | refine ah F ?_ | refine aK F ?_ | refine jC F F F ?_ | refine av F ?_) | refine an F F F ?_ | refine ad F F ?_)
   all_goals refine aN (vs:=[_]) F ⟨aD F F F F,trivial⟩ F sB ⟨hle,u1,c1,false,F,hrep,F,fun _=>⟨hyes,by simpa using h2⟩,fun h=>(by cases h)⟩
  | cons e t1 =>
   have hno : cM (rb (al qs) n) k p = none:=by unfold cM;rw [h1]
   repeat' (first | refine jR ?_ | (refine jo ?_;first | refine jL fun _=>?_ | refine ah F ?_ | refine aK F ?_ | refine jD F F F ?_ | refine jC F F F ?_ | refine av F ?_) | refine an F F F ?_ | refine ac F F ?_)
   all_goals refine aN (vs:=[_]) F ⟨aD F F F F,trivial⟩ F sB ⟨hle,u1,c1,true,F,hrep,F,fun h=>(by cases h),fun _=>hno⟩
abbrev d3 (r : Nat) (s : acA) (b : Bool) (a : Option Addr) (n c : Nat) (d : Int) : Own:=.blk r (.cells (List.toArray [.pointer none,S s,Bo b,.slice a n c,I d]) tBr (0,0))
theorem wG {r m n c : Nat} {s : acA} {a : Option Addr} {d : Int} (h : m ≤ s.length ∧ s.length ≤ 1000000) : bV acz 64 [Pt r 0,I (m : Nat)] G [d3 r s false a n c d] (fun v L'=>v = S (s.take m) ∧ L' = [d3 r (s.drop m) false a n c d]):=by
 refine jH [(0,_),(1,_)] Tryz.func64 Tryz.ntmps64 fun B hB hW=>?_
 repeat' (first | refine jM ?_ | (refine jo ?_;first | refine ah F ?_ | refine av F ?_ | refine jD F F F ?_) | refine an F F F ?_ | refine ad F (aB oM) ?_)
 exact aN (vs:=[_]) F ⟨F,trivial⟩ F (List.Sublist.refl _) ⟨F,F,F⟩
theorem nM {r m n c : Nat} {s : acA} {b : Bool} {a : Option Addr} {d : Int} (h : b = true ∨ s.length < m) (hs : s.length ≤ 1000000 ∧ m ≤ 1000000) : bV acz 64 [Pt r 0,I (m : Nat)] G [d3 r s b a n c d] (fun v L'=>v = S [] ∧ L' = [d3 r s true a n c d]):=by
 rcases h with rfl | h
 ·refine jH [(0,_),(1,_)] Tryz.func64 Tryz.ntmps64 fun B hB hW=>?_
  repeat' (first | refine jR ?_ | (refine jo ?_;first | refine ah F ?_ | refine aH F ?_ | refine jD F F F ?_) | refine aA F F F ?_ | refine ac F F ?_)
  all_goals exact aN (vs:=[_]) F ⟨F,trivial⟩ F (List.Sublist.refl _) ⟨F,F,F⟩
 ·cases b
  ·refine jH [(0,_),(1,_)] Tryz.func64 Tryz.ntmps64 fun B hB hW=>?_
   repeat' (first | refine jR ?_ | (refine jo ?_;first | refine ah F ?_ | refine av F ?_ | refine jD F F F ?_) | refine an F F F ?_ | refine ac F (ay oM) ?_)
   all_goals exact aN (vs:=[_]) F ⟨F,trivial⟩ F (List.Sublist.refl _) ⟨F,F,F⟩
  ·refine jH [(0,_),(1,_)] Tryz.func64 Tryz.ntmps64 fun B hB hW=>?_
   repeat' (first | refine jR ?_ | (refine jo ?_;first | refine ah F ?_ | refine aH F ?_ | refine jD F F F ?_) | refine aA F F F ?_ | refine ac F F ?_)
   all_goals exact aN (vs:=[_]) F ⟨F,trivial⟩ F (List.Sublist.refl _) ⟨F,F,F⟩
theorem kx {r m c : Nat} {s q : acA} {b : Bool} {a : Option Addr} {d n : Int} (h : bi s = some (n,q)) (hs : s.length ≤ 1000) : bV acz 63 [Pt r 0] G [d3 r s b a m c d] (fun v L'=>v = I n ∧ L' = [d3 r q b a m c d]):=by
 have cx_ng0:=j5 (G:=G) (s:=s) oM
 rw [h] at cx_ng0
 have cx_ngi : ao acz 31 [S s] G (· = Tu [I n,S q,Bo true]):=cx_ng0
 refine jH [(0,_)] Tryz.func63 Tryz.ntmps63 fun B hB hW=>?_
 repeat' (first | refine jR ?_ | (refine jo ?_;first | refine ah F ?_ | refine jD F F F ?_ | refine ab F F F cx_ngi F ?_) | refine ad F F ?_)
 all_goals exact aN (vs:=[_]) F ⟨F,trivial⟩ F (List.Sublist.refl _) ⟨F,F,F⟩
theorem pA {r m c : Nat} {s : acA} {b : Bool} {a : Option Addr} {d : Int} (h : bi s = none) (hs : s.length ≤ 1000) : bV acz 63 [Pt r 0] G [d3 r s b a m c d] (fun v L'=>v = I 0 ∧ L' = [d3 r [] true a m c d]):=by
 have cx_ng0:=j5 (G:=G) (s:=s) oM
 rw [h] at cx_ng0
 have cx_ngi : ao acz 31 [S s] G (· = Tu [I 0,S [],Bo false]):=cx_ng0
 refine jH [(0,_)] Tryz.func63 Tryz.ntmps63 fun B hB hW=>?_
 repeat' (first | refine jR ?_ | (refine jo ?_;first | refine ah F ?_ | refine jD F F F ?_ | refine ab F F F cx_ngi F ?_) | refine ac F F ?_)
 all_goals exact aN (vs:=[_]) F ⟨F,trivial⟩ F (List.Sublist.refl _) ⟨F,F,F⟩
theorem aa0 (x : acA) : c6 (39 :: (x ++ [39])) = lW x:=by
 cases x with
 | nil=>simp [c6,xx,lW,bt]
 | cons c x =>
  have h:=sT (s:=39 :: (c :: x ++ [39]))
  have hne : (39 :: (c :: x ++ [39]) : acA) ≠ [39,39]:=fun e=>by simpa using congrArg List.length e
  have hl : (39 :: (c :: x ++ [39]) : acA).length = x.length + 3:=by simp
  have e0 : bt (39 :: (c :: x ++ [39]) : acA) 0 = 39:=rfl
  have e1 : bt (39 :: (c :: x ++ [39]) : acA) (x.length + 3 - 1) = 39:=by
   rw [show x.length + 3 - 1 = (x.length + 1) + 1 by omega,dR,show x.length + 1 = (c :: x).length from rfl]
   simp [bt,List.getD]
  have e2 : ((39 :: (c :: x ++ [39]) : acA).take (x.length + 3 - 1)).drop 1 = c :: x:=by
   rw [show x.length + 3 - 1 = (c :: x).length + 1 by simp,List.take_succ_cons,List.take_left];rfl
  rw [hl,e0,e1,e2,decide_eq_true hne,Bool.and_true] at h
  rw [h,decide_eq_true oM]
  simp
theorem abx {n r sc : Nat} {qs : List cE} {s : acA} {d : Int} (hd : d = 12 - (n : Int)) (hn : n ≤ 12) (hr : aZ (al qs) [110] = none) (hs : s.length ≤ 1000) :
  di acz 92 [Pt r 0,Ag (em [110])] G [bE r sc s false none 0 0 d] (j6 (rb (al qs) (n + 1) [110]) r sc s false d):=by
 have cx_sign:=@dx G [110] []
 have hrd:=zy (ts:=al qs) (n:=n) (s:=s) hr
 show di acz 92 [Pt r 0,Ag [S [],S [110],S []]] G [bE r sc s false none 0 0 d] _
 cases hg : bi s with
 | none =>
  rw [hg] at hrd
  have cx_nb:=fO (G:=G) (r:=r) (sc:=sc) (m:=0) (c:=0) (b:=false) (a:=none) (d:=d + 1) hg hs
  refine cn [(0,_),(1,_)] Tryz.func92 kR Tryz.ntmps92 F F tU fun B hok hB hW=>?_
  repeat' (first | refine jM ?_ | (refine jo ?_;first | refine jO fun _=>?_ | refine jL fun _=>?_ | refine ah F ?_ | refine jD F F F ?_ | refine jV (db F F) ?_))
  rename_i x2 x3 x4
  refine jo ?_
  refine co (fi:=[]) (ca:=[Pt x2 0]) (az:=[]) F F ?_
  repeat' (first | refine jR ?_ | (refine jo ?_;first | refine ah F ?_ | refine aK F ?_ | refine jC F F F ?_ | refine jV (ak F F) ?_ | refine ab F F F cx_sign F ?_ | (refine af F F F cx_nb F ?_;rintro _ _ ⟨rfl,rfl⟩;dsimp only [zA,fA]) | refine ab F F F (fP oM) F ?_) | refine ac F F ?_ | (refine ad F (by first | rfl | (refine decide_eq_false ?_;(omega))) ?_))
  all_goals
   refine c0 (.inl F) F (cI (x0:=x2) (r:=r) (sc:=sc) (s:=[]) (b:=true) (a:=none) (n:=0) (c:=0) (d:=d + 1) oM) F ?_
   rintro v G' L' ⟨rfl,rfl⟩
   dsimp only [zA,fA]
   exact ⟨[_],[bE r sc [] true none 0 0 (d + 1 - 1)],⟨aD F F F F,trivial⟩,sB,Gh.le.refl _,cH (c:=⟨110,bw 0,0,none,0,0⟩) (bq dC dC) oM (fun _=>⟨F,F,F⟩) ⟨by simp,fun h=>(by cases h),fun _=>.inr hrd⟩⟩
 | some z =>
  obtain ⟨m,q⟩:=z
  obtain ⟨h1,h2,_⟩:=cx hg
  have hl:=bD hg
  rw [hg] at hrd
  have cx_nb:=ec (G:=G) (r:=r) (sc:=sc) (m:=0) (c:=0) (b:=false) (a:=none) (d:=d + 1) hg hs
  refine cn [(0,_),(1,_)] Tryz.func92 kR Tryz.ntmps92 F F tU fun B hok hB hW=>?_
  repeat' (first | refine jM ?_ | (refine jo ?_;first | refine jO fun _=>?_ | refine jL fun _=>?_ | refine ah F ?_ | refine jD F F F ?_ | refine jV (db F F) ?_))
  rename_i x2 x3 x4
  refine jo ?_
  refine co (fi:=[]) (ca:=[Pt x2 0]) (az:=[]) F F ?_
  repeat' (first | refine jR ?_ | (refine jo ?_;first | refine ah F ?_ | refine aK F ?_ | refine jC F F F ?_ | refine jV (ak F F) ?_ | refine ab F F F cx_sign F ?_ | (refine af F F F cx_nb F ?_;rintro _ _ ⟨rfl,rfl⟩;dsimp only [zA,fA]) | refine ab F F F (fP oM) F ?_) | refine ac F F ?_ | (refine ad F (by first | rfl | (refine decide_eq_false ?_;(omega))) ?_))
  all_goals
   refine c0 (.inl F) F (cI (x0:=x2) (r:=r) (sc:=sc) (s:=q) (b:=false) (a:=none) (n:=0) (c:=0) (d:=d + 1) oM) F ?_
   rintro v G' L' ⟨rfl,rfl⟩
   dsimp only [zA,fA]
   exact ⟨[_],[bE r sc q false none 0 0 (d + 1 - 1)],⟨aD F F F F,trivial⟩,sB,Gh.le.refl _,cH (c:=⟨110,bw m,0,none,0,0⟩) (bq dC dC) oM (fun _=>⟨F,F,F⟩) ⟨oM,fun _=>⟨F,hrd⟩,fun h=>(by cases h)⟩⟩
theorem abz {n r sc : Nat} {qs : List cE} {s : acA} {d : Int} (hd : d = 12 - (n : Int)) (hn : n ≤ 12) (hr : aZ (al qs) [102] = none) (hs : s.length ≤ 1000) :
  di acz 92 [Pt r 0,Ag (em [102])] G [bE r sc s false none 0 0 d] (j6 (rb (al qs) (n + 1) [102]) r sc s false d):=by
 have cx_sign:=@dx G [102] []
 have hrd:=zz (ts:=al qs) (n:=n) (s:=s) hr
 show di acz 92 [Pt r 0,Ag [S [],S [102],S []]] G [bE r sc s false none 0 0 d] _
 cases hf : cq s with
 | none =>
  rw [hf] at hrd
  have cx_fl:=rQ (G:=G) (r:=r) (sc:=sc) (n:=0) (c:=0) (s:=s) (b:=false) (a:=none) (d:=d + 1) (.inr hf) oM
  refine cn [(0,_),(1,_)] Tryz.func92 kR Tryz.ntmps92 F F tU fun B hok hB hW=>?_
  repeat' (first | refine jM ?_ | (refine jo ?_;first | refine jO fun _=>?_ | refine jL fun _=>?_ | refine ah F ?_ | refine jD F F F ?_ | refine jV (db F F) ?_))
  rename_i x2 x3 x4
  refine jo ?_
  refine co (fi:=[]) (ca:=[Pt x2 0]) (az:=[]) F F ?_
  repeat' (first | refine jR ?_ | (refine jo ?_;first | refine ah F ?_ | refine aK F ?_ | refine jC F F F ?_ | refine jV (ak F F) ?_ | refine ab F F F cx_sign F ?_ | (refine af F F F cx_fl F ?_;rintro _ _ ⟨q1,⟨rfl,hql⟩,rfl⟩;dsimp only [zA,fA])) | refine ac F F ?_ | (refine ad F (by first | rfl | (refine decide_eq_false ?_;(omega))) ?_))
  all_goals
   refine c0 (.inl F) F (cI (x0:=x2) (r:=r) (sc:=sc) (s:=q1) (b:=true) (a:=none) (n:=0) (c:=0) (d:=d + 1) oM) F ?_
   rintro v G' L' ⟨rfl,rfl⟩
   dsimp only [zA,fA]
   exact ⟨[_],[bE r sc q1 true none 0 0 (d + 1 - 1)],⟨aD F F F F,trivial⟩,sB,Gh.le.refl _,cH (c:=⟨102,[110,111],0,none,0,0⟩) (bq dC dC) oM (fun _=>⟨F,F,F⟩) ⟨hql,fun h=>(by cases h),fun _=>.inr hrd⟩⟩
 | some y =>
  obtain ⟨x,q⟩:=y
  rw [hf] at hrd
  have hin:=eU hf
  have hl : s.length = q.length + 1:=by rw [hin];rfl
  have cx_fl:=rP (G:=G) (r:=r) (sc:=sc) (n:=0) (c:=0) (s:=s) (q:=q) (x:=x) (a:=none) (d:=d + 1) hf oM
  cases x with
  | false =>
   refine cn [(0,_),(1,_)] Tryz.func92 kR Tryz.ntmps92 F F tU fun B hok hB hW=>?_
   repeat' (first | refine jM ?_ | (refine jo ?_;first | refine jO fun _=>?_ | refine jL fun _=>?_ | refine ah F ?_ | refine jD F F F ?_ | refine jV (db F F) ?_))
   rename_i x2 x3 x4
   refine jo ?_
   refine co (fi:=[]) (ca:=[Pt x2 0]) (az:=[]) F F ?_
   repeat' (first | refine jR ?_ | (refine jo ?_;first | refine ah F ?_ | refine aK F ?_ | refine jC F F F ?_ | refine jV (ak F F) ?_ | refine ab F F F cx_sign F ?_ | (refine af F F F cx_fl F ?_;rintro _ _ ⟨rfl,rfl⟩;dsimp only [zA,fA])) | refine ac F F ?_ | (refine ad F (by first | rfl | (refine decide_eq_false ?_;(omega))) ?_))
   all_goals
    refine c0 (.inl F) F (cI (x0:=x2) (r:=r) (sc:=sc) (s:=q) (b:=false) (a:=none) (n:=0) (c:=0) (d:=d + 1) oM) F ?_
    rintro v G' L' ⟨rfl,rfl⟩
    dsimp only [zA,fA]
    exact ⟨[_],[bE r sc q false none 0 0 (d + 1 - 1)],⟨aD F F F F,trivial⟩,sB,Gh.le.refl _,cH (c:=⟨102,[110,111],0,none,0,0⟩) (bq dC dC) oM (fun _=>⟨F,F,F⟩) ⟨oM,fun _=>⟨F,hrd⟩,fun h=>(by cases h)⟩⟩
  | true =>
   refine cn [(0,_),(1,_)] Tryz.func92 kR Tryz.ntmps92 F F tU fun B hok hB hW=>?_
   repeat' (first | refine jM ?_ | (refine jo ?_;first | refine jO fun _=>?_ | refine jL fun _=>?_ | refine ah F ?_ | refine jD F F F ?_ | refine jV (db F F) ?_))
   rename_i x2 x3 x4
   refine jo ?_
   refine co (fi:=[]) (ca:=[Pt x2 0]) (az:=[]) F F ?_
   repeat' (first | refine jR ?_ | (refine jo ?_;first | refine ah F ?_ | refine aK F ?_ | refine jC F F F ?_ | refine jV (ak F F) ?_ | refine ab F F F cx_sign F ?_ | (refine af F F F cx_fl F ?_;rintro _ _ ⟨rfl,rfl⟩;dsimp only [zA,fA])) | refine ac F F ?_ | (refine ad F (by first | rfl | (refine decide_eq_false ?_;(omega))) ?_))
   all_goals
    refine c0 (.inl F) F (cI (x0:=x2) (r:=r) (sc:=sc) (s:=q) (b:=false) (a:=none) (n:=0) (c:=0) (d:=d + 1) oM) F ?_
    rintro v G' L' ⟨rfl,rfl⟩
    dsimp only [zA,fA]
    exact ⟨[_],[bE r sc q false none 0 0 (d + 1 - 1)],⟨aD F F F F,trivial⟩,sB,Gh.le.refl _,cH (c:=⟨102,[121,101,115],0,none,0,0⟩) (bq dC dC) oM (fun _=>⟨F,F,F⟩) ⟨oM,fun _=>⟨F,hrd⟩,fun h=>(by cases h)⟩⟩
theorem fu {s : acA} : (bi s = none ∧ bU s = none) ∨ ∃ (m : Nat) (q : acA),bi s = some ((m : Int),q) ∧ m ≤ 999999 ∧ ((q.length < m ∧ bU s = none) ∨ (m ≤ q.length ∧ bU s = some (q.take m,q.drop m))):=by
 cases h : bi s with
 | none=>exact .inl ⟨F,by unfold bU;rw [h]⟩
 | some z =>
  obtain ⟨n,q⟩:=z
  obtain ⟨h0,h1,_⟩:=cx h
  obtain ⟨m,rfl⟩ : ∃ m : Nat,n = (m : Int):=⟨n.toNat,oM⟩
  refine .inr ⟨m,q,F,oM,?_⟩
  by_cases hl : m ≤ q.length
  ·exact .inr ⟨hl,by unfold bU;rw [h];dsimp only;rw [Int.toNat_natCast,if_pos hl]⟩
  ·exact .inl ⟨oM,by unfold bU;rw [h];dsimp only;rw [Int.toNat_natCast,if_neg hl]⟩
theorem abu {n r sc : Nat} {qs : List cE} {s : acA} {d : Int} (hd : d = 12 - (n : Int)) (hn : n ≤ 12) (hr : aZ (al qs) [116] = none) (hs : s.length ≤ 1000) :
  di acz 92 [Pt r 0,Ag (em [116])] G [bE r sc s false none 0 0 d] (j6 (rb (al qs) (n + 1) [116]) r sc s false d):=by
 have cx_sign:=@dx G [116] []
 have hrd:=zw (ts:=al qs) (n:=n) (s:=s) hr
 show di acz 92 [Pt r 0,Ag [S [],S [116],S []]] G [bE r sc s false none 0 0 d] _
 rcases fu (s:=s) with ⟨hg,ht⟩ | ⟨m,q,hg,hm,⟨hl,ht⟩ | ⟨hl,ht⟩⟩
 ·rw [ht] at hrd
  dsimp only at hrd
  have cx_nb:=fO (G:=G) (r:=r) (sc:=sc) (m:=0) (c:=0) (b:=false) (a:=none) (d:=d + 1) hg hs
  have cx_tkb:=fB (G:=G) (r:=r) (sc:=sc) (m:=0) (n:=0) (c:=0) (s:=[]) (b:=true) (a:=none) (d:=d + 1) (.inl rfl) ⟨by simp,oM⟩
  have cx_tkb : bV acz 64 [Pt r 0,I 0] G [bE r sc [] true none 0 0 (d + 1)] (fun v L'=>v = S [] ∧ L' = [bE r sc [] true none 0 0 (d + 1)]):=cx_tkb
  refine cn [(0,_),(1,_)] Tryz.func92 kR Tryz.ntmps92 F F tU fun B hok hB hW=>?_
  repeat' (first | refine jM ?_ | (refine jo ?_;first | refine jO fun _=>?_ | refine jL fun _=>?_ | refine ah F ?_ | refine jD F F F ?_ | refine jV (db F F) ?_))
  rename_i x2 x3 x4
  refine jo ?_
  refine co (fi:=[]) (ca:=[Pt x2 0]) (az:=[]) F F ?_
  repeat' (first | refine jR ?_ | (refine jo ?_;first | refine ah F ?_ | refine aK F ?_ | refine ab F F F cx_sign F ?_) | refine ac F F ?_ | (refine ad F (by first | rfl | (refine decide_eq_false ?_;(omega))) ?_))
  (refine aj (am (id:=26) [.blk x2 (.cells (List.toArray [Pt r 0]) fp (0,0))] (by intro y hy;simp only [List.mem_cons,List.not_mem_nil,or_false] at hy ⊢;simp [hy]) ai ?_);(refine jG (aa 5 1) 0 F (aq F F F) ?_);(refine jG (aa 5 3) 1 F (aq F F F) ?_);refine jA 2 F ?_;(refine af F F F cx_nb F ?_;rintro _ _ ⟨rfl,rfl⟩;dsimp only [zA,fA]);refine jK (aa 5 7) ?_;refine jA 3 F ?_;(refine af F F F cx_tkb F ?_;rintro _ _ ⟨rfl,rfl⟩;dsimp only [zA,fA]);refine jK (aa 5 15) ?_;refine jW 0 [4] (aa 5 31) ?_;refine jQ ?_)
  all_goals repeat' (first | refine jR ?_ | (refine jo ?_;first | refine jC F F F ?_ | refine jV (ak F F) ?_ | (refine ab F F F (je ?_) F ?_;(focus ((simp;done);done)))) | refine ad F F ?_)
  all_goals
   refine c0 (.inl F) F (cI (x0:=x2) (r:=r) (sc:=sc) (s:=[]) (b:=true) (a:=none) (n:=0) (c:=0) (d:=d + 1) oM) F ?_
   rintro v G' L' ⟨rfl,rfl⟩
   dsimp only [zA,fA]
   exact ⟨[_],[bE r sc [] true none 0 0 (d + 1 - 1)],⟨aD F F F F,trivial⟩,sB,Gh.le.refl _,cH (c:=⟨116,[],0,none,0,0⟩) (bq dC dC) oM (fun _=>⟨F,F,F⟩) ⟨by simp,fun h=>(by cases h),fun _=>.inr hrd⟩⟩
 ·rw [ht] at hrd
  dsimp only at hrd
  have hql:=bD hg
  have cx_nb:=ec (G:=G) (r:=r) (sc:=sc) (m:=0) (c:=0) (b:=false) (a:=none) (d:=d + 1) hg hs
  have cx_tkb:=fB (G:=G) (r:=r) (sc:=sc) (m:=m) (n:=0) (c:=0) (s:=q) (b:=false) (a:=none) (d:=d + 1) (.inr hl) ⟨oM,oM⟩
  refine cn [(0,_),(1,_)] Tryz.func92 kR Tryz.ntmps92 F F tU fun B hok hB hW=>?_
  repeat' (first | refine jM ?_ | (refine jo ?_;first | refine jO fun _=>?_ | refine jL fun _=>?_ | refine ah F ?_ | refine jD F F F ?_ | refine jV (db F F) ?_))
  rename_i x2 x3 x4
  refine jo ?_
  refine co (fi:=[]) (ca:=[Pt x2 0]) (az:=[]) F F ?_
  repeat' (first | refine jR ?_ | (refine jo ?_;first | refine ah F ?_ | refine aK F ?_ | refine ab F F F cx_sign F ?_) | refine ac F F ?_ | (refine ad F (by first | rfl | (refine decide_eq_false ?_;(omega))) ?_))
  (refine aj (am (id:=26) [.blk x2 (.cells (List.toArray [Pt r 0]) fp (0,0))] (by intro y hy;simp only [List.mem_cons,List.not_mem_nil,or_false] at hy ⊢;simp [hy]) ai ?_);(refine jG (aa 5 1) 0 F (aq F F F) ?_);(refine jG (aa 5 3) 1 F (aq F F F) ?_);refine jA 2 F ?_;(refine af F F F cx_nb F ?_;rintro _ _ ⟨rfl,rfl⟩;dsimp only [zA,fA]);refine jK (aa 5 7) ?_;refine jA 3 F ?_;(refine af F F F cx_tkb F ?_;rintro _ _ ⟨rfl,rfl⟩;dsimp only [zA,fA]);refine jK (aa 5 15) ?_;refine jW 0 [4] (aa 5 31) ?_;refine jQ ?_)
  all_goals repeat' (first | refine jR ?_ | (refine jo ?_;first | refine jC F F F ?_ | refine jV (ak F F) ?_ | (refine ab F F F (je ?_) F ?_;(focus ((simp;done);done)))) | refine ad F F ?_)
  all_goals
   refine c0 (.inl F) F (cI (x0:=x2) (r:=r) (sc:=sc) (s:=q) (b:=true) (a:=none) (n:=0) (c:=0) (d:=d + 1) oM) F ?_
   rintro v G' L' ⟨rfl,rfl⟩
   dsimp only [zA,fA]
   exact ⟨[_],[bE r sc q true none 0 0 (d + 1 - 1)],⟨aD F F F F,trivial⟩,sB,Gh.le.refl _,cH (c:=⟨116,[],0,none,0,0⟩) (bq dC dC) oM (fun _=>⟨F,F,F⟩) ⟨oM,fun h=>(by cases h),fun _=>.inr hrd⟩⟩
 ·rw [ht] at hrd
  dsimp only at hrd
  rw [aa0] at hrd
  have hql:=bD hg
  have hdl : (q.drop m).length = q.length - m:=List.length_drop
  have htl : (q.take m).length ≤ 1000:=by rw [List.length_take];omega
  have cx_nb:=ec (G:=G) (r:=r) (sc:=sc) (m:=0) (c:=0) (b:=false) (a:=none) (d:=d + 1) hg hs
  have cx_tkb:=ja (G:=G) (r:=r) (sc:=sc) (m:=m) (n:=0) (c:=0) (s:=q) (a:=none) (d:=d + 1) ⟨hl,oM⟩
  cases hti : lW (q.take m) with
  | true =>
   rw [hti] at hrd
   rw [if_pos rfl] at hrd
   refine cn [(0,_),(1,_)] Tryz.func92 kR Tryz.ntmps92 F F tU fun B hok hB hW=>?_
   repeat' (first | refine jM ?_ | (refine jo ?_;first | refine jO fun _=>?_ | refine jL fun _=>?_ | refine ah F ?_ | refine jD F F F ?_ | refine jV (db F F) ?_))
   rename_i x2 x3 x4
   refine jo ?_
   refine co (fi:=[]) (ca:=[Pt x2 0]) (az:=[]) F F ?_
   repeat' (first | refine jR ?_ | (refine jo ?_;first | refine ah F ?_ | refine aK F ?_ | refine ab F F F cx_sign F ?_) | refine ac F F ?_ | (refine ad F (by first | rfl | (refine decide_eq_false ?_;(omega))) ?_))
   (refine aj (am (id:=26) [.blk x2 (.cells (List.toArray [Pt r 0]) fp (0,0))] (by intro y hy;simp only [List.mem_cons,List.not_mem_nil,or_false] at hy ⊢;simp [hy]) ai ?_);(refine jG (aa 5 1) 0 F (aq F F F) ?_);(refine jG (aa 5 3) 1 F (aq F F F) ?_);refine jA 2 F ?_;(refine af F F F cx_nb F ?_;rintro _ _ ⟨rfl,rfl⟩;dsimp only [zA,fA]);refine jK (aa 5 7) ?_;refine jA 3 F ?_;(refine af F F F cx_tkb F ?_;rintro _ _ ⟨rfl,rfl⟩;dsimp only [zA,fA]);refine jK (aa 5 15) ?_;refine jW 0 [4] (aa 5 31) ?_;refine jQ ?_)
   all_goals repeat' (first | refine jR ?_ | (refine jo ?_;first | refine jC F F F ?_ | refine jV (ak F F) ?_ | refine ab F F F (je oM) F ?_) | (refine ad F ?_ ?_;(focus ((simp [*];done);done))))
   all_goals
    refine c0 (.inl F) F (cI (x0:=x2) (r:=r) (sc:=sc) (s:=(q.drop m)) (b:=false) (a:=none) (n:=0) (c:=0) (d:=d + 1) oM) F ?_
    rintro v G' L' ⟨rfl,rfl⟩
    dsimp only [zA,fA]
    exact ⟨[_],[bE r sc (q.drop m) false none 0 0 (d + 1 - 1)],⟨aD F F F F,trivial⟩,sB,Gh.le.refl _,cH (c:=⟨116,q.take m,0,none,0,0⟩) (bq dC dC) oM (fun _=>⟨F,F,F⟩) ⟨oM,fun _=>⟨F,hrd⟩,fun h=>(by cases h)⟩⟩
  | false =>
   rw [hti] at hrd
   rw [if_neg (by simp)] at hrd
   refine cn [(0,_),(1,_)] Tryz.func92 kR Tryz.ntmps92 F F tU fun B hok hB hW=>?_
   repeat' (first | refine jM ?_ | (refine jo ?_;first | refine jO fun _=>?_ | refine jL fun _=>?_ | refine ah F ?_ | refine jD F F F ?_ | refine jV (db F F) ?_))
   rename_i x2 x3 x4
   refine jo ?_
   refine co (fi:=[]) (ca:=[Pt x2 0]) (az:=[]) F F ?_
   repeat' (first | refine jR ?_ | (refine jo ?_;first | refine ah F ?_ | refine aK F ?_ | refine ab F F F cx_sign F ?_) | refine ac F F ?_ | (refine ad F (by first | rfl | (refine decide_eq_false ?_;(omega))) ?_))
   (refine aj (am (id:=26) [.blk x2 (.cells (List.toArray [Pt r 0]) fp (0,0))] (by intro y hy;simp only [List.mem_cons,List.not_mem_nil,or_false] at hy ⊢;simp [hy]) ai ?_);(refine jG (aa 5 1) 0 F (aq F F F) ?_);(refine jG (aa 5 3) 1 F (aq F F F) ?_);refine jA 2 F ?_;(refine af F F F cx_nb F ?_;rintro _ _ ⟨rfl,rfl⟩;dsimp only [zA,fA]);refine jK (aa 5 7) ?_;refine jA 3 F ?_;(refine af F F F cx_tkb F ?_;rintro _ _ ⟨rfl,rfl⟩;dsimp only [zA,fA]);refine jK (aa 5 15) ?_;refine jW 0 [4] (aa 5 31) ?_;refine jQ ?_)
   all_goals repeat' (first | refine jR ?_ | (refine jo ?_;first | refine ah F ?_ | refine jD F F F ?_ | refine jC F F F ?_ | refine jV (ak F F) ?_ | refine ab F F F (je oM) F ?_) | (refine ac F ?_ ?_;(focus ((simp [*];done);done))))
   all_goals
    refine c0 (.inl F) F (cI (x0:=x2) (r:=r) (sc:=sc) (s:=(q.drop m)) (b:=true) (a:=none) (n:=0) (c:=0) (d:=d + 1) oM) F ?_
    rintro v G' L' ⟨rfl,rfl⟩
    dsimp only [zA,fA]
    exact ⟨[_],[bE r sc (q.drop m) true none 0 0 (d + 1 - 1)],⟨aD F F F F,trivial⟩,sB,Gh.le.refl _,cH (c:=⟨116,q.take m,0,none,0,0⟩) (bq dC dC) oM (fun _=>⟨F,F,F⟩) ⟨oM,fun h=>(by cases h),fun _=>.inr hrd⟩⟩
theorem ll {p : Nat} {t : Ty} {m : Int} (hT : im G p t) (hw : TyW t) (hm : 0 ≤ m ∧ m ≤ 999999) : ao acz 137 [Pt p 0,I m] G (fun v=>∃ q,v = .pointer q):=by
 have hfl:=hw.len
 cases hft : bN t.fields m with
 | none =>
  obtain ⟨fv,ln,h1,h2⟩:=hT
  exact (d1 h1 h2 oM hft).mono fun v G' L' h=>⟨h.1,h.2.1,_,h.2.2⟩
 | some f =>
  obtain ⟨fv,ln,h1,h2⟩:=hT
  obtain ⟨j,hj,hjn,hjt,hjd⟩:=eo hft
  obtain ⟨bf,of,cf,rfl,hsf⟩:=h2.expl oM
  exact (eP h1 hsf oM hj hjn hjt).mono fun v G' L' h=>⟨h.1,h.2.1,_,h.2.2⟩
theorem abA {n r sc p : Nat} {qs : List cE} {t : Ty} {x s : acA} {d : Int} (hd : d = 12 - (n : Int)) (hn : n ≤ 12) (hS : ScI G sc qs) (hkv : lz (gq qs) x = some (Pt p 0)) (hT : im G p t) (hw : TyW t) (hso : t.sort = 69) (hs : s.length ≤ 1000) :
  di acz 92 [Pt r 0,Ag [S [],S [64],S x]] G [bE r sc s false none 0 0 d] (j6 (bX (al qs) (rb (al qs) n) t) r sc s false d):=by
 obtain ⟨u,m,g1,g2,g3⟩:=hS.at'
 obtain ⟨fv,ln,h1,h2⟩:=hT
 have hfl:=hw.len
 have hso' : (t.sort : Int) = 69:=oM
 have cx_sign:=@dx G [64] x
 have hrd : bX (al qs) (rb (al qs) n) t s = match bi s with
   | none=>none
   | some (m,r)=>match bN t.fields m with
    | none=>none
    | some d=>some (.nd 69 [] d.tag [],r):=by
  unfold bX
  rw [if_neg oM]
  rcases bi s with _ | ⟨m,r⟩
  ·rfl
  ·dsimp only
   rcases bN t.fields m with _ | d
   ·rfl
   ·dsimp only;rw [if_pos hso]
 cases hg : bi s with
 | none =>
  rw [hg] at hrd
  have cx_nb:=fO (G:=G) (r:=r) (sc:=sc) (m:=0) (c:=0) (b:=false) (a:=none) (d:=d + 1) hg hs
  have cx_fld:=d1 h1 h2 oM (jw hw)
  refine cn [(0,_),(1,_)] Tryz.func92 kR Tryz.ntmps92 F F tU fun B hok hB hW=>?_
  repeat' (first | refine jM ?_ | (refine jo ?_;first | refine jO fun _=>?_ | refine jL fun _=>?_ | refine ah F ?_ | refine jD F F F ?_ | refine jV (db F F) ?_))
  rename_i x2 x3 x4
  refine jo ?_
  refine co (fi:=[]) (ca:=[Pt x2 0]) (az:=[]) F F ?_
  repeat' (first | refine jR ?_ | (refine jo ?_;first | refine jL fun _=>?_ | refine ah F ?_ | refine aK F ?_ | refine jV (aJ F F aS F F) ?_ | refine jD F F F ?_ | refine jC F F F ?_ | refine jV (ak F F) ?_ | refine jV (cy F F) ?_ | refine ab F F F cx_sign F ?_ | (refine af F F F cx_nb F ?_;rintro _ _ ⟨rfl,rfl⟩;dsimp only [zA,fA]) | refine ab F F F cx_fld F ?_) | (refine ac F (by first | rfl | (refine decide_eq_true ?_;(assumption))) ?_) | (refine ad F (by first | rfl | (refine decide_eq_false ?_;(omega))) ?_) | (refine aj (am (id:=34) _ (fun _ h=>h) ai ?_);refine jT 10 [7] (aa 11 128) ?_;(refine jG (aa 11 129) 0 F (aq F F F) ?_);refine jT 7 [1,2] (aa 11 135) ?_;(refine jG (aa 11 143) 3 F (aq F F F) ?_);refine jT 4 [4,5] (aa 11 191) ?_;(refine jG (aa 11 255) 6 F (aJ F F aS F F) ?_);(refine jG (aa 11 511) 8 F (aq F F F) ?_);((refine jG (aa 11 1023) 9 F (cF F F (eG aS) aS F) ?_));refine jT 0 [10] (aa 11 2047) ?_;refine jQ ?_))
  all_goals
   refine c0 (.inl F) F (cI (x0:=x2) (r:=r) (sc:=sc) (s:=[]) (b:=true) (a:=none) (n:=0) (c:=0) (d:=d + 1) oM) F ?_
   rintro v G' L' ⟨rfl,rfl⟩
   dsimp only [zA,fA]
   exact ⟨[_],[bE r sc [] true none 0 0 (d + 1 - 1)],⟨aD F F F F,trivial⟩,sB,Gh.le.refl _,cH (c:=⟨69,[],0,none,0,0⟩) (bq dC dC) oM (fun _=>⟨F,F,F⟩) ⟨by simp,fun h=>(by cases h),fun _=>.inr hrd⟩⟩
 | some z =>
  obtain ⟨m,q⟩:=z
  obtain ⟨hm0,hm1,_⟩:=cx hg
  have hl:=bD hg
  rw [hg] at hrd
  dsimp only at hrd
  have cx_nb:=ec (G:=G) (r:=r) (sc:=sc) (m:=0) (c:=0) (b:=false) (a:=none) (d:=d + 1) hg hs
  cases hft : bN t.fields m with
  | none =>
   rw [hft] at hrd
   have cx_fld:=d1 h1 h2 oM hft
   refine cn [(0,_),(1,_)] Tryz.func92 kR Tryz.ntmps92 F F tU fun B hok hB hW=>?_
   repeat' (first | refine jM ?_ | (refine jo ?_;first | refine jO fun _=>?_ | refine jL fun _=>?_ | refine ah F ?_ | refine jD F F F ?_ | refine jV (db F F) ?_))
   rename_i x2 x3 x4
   refine jo ?_
   refine co (fi:=[]) (ca:=[Pt x2 0]) (az:=[]) F F ?_
   repeat' (first | refine jR ?_ | (refine jo ?_;first | refine jL fun _=>?_ | refine ah F ?_ | refine aK F ?_ | refine jV (aJ F F aS F F) ?_ | refine jD F F F ?_ | refine jC F F F ?_ | refine jV (ak F F) ?_ | refine jV (cy F F) ?_ | refine ab F F F cx_sign F ?_ | (refine af F F F cx_nb F ?_;rintro _ _ ⟨rfl,rfl⟩;dsimp only [zA,fA]) | refine ab F F F cx_fld F ?_) | (refine ac F (by first | rfl | (refine decide_eq_true ?_;(assumption))) ?_) | (refine ad F (by first | rfl | (refine decide_eq_false ?_;(omega))) ?_) | (refine aj (am (id:=34) _ (fun _ h=>h) ai ?_);refine jT 10 [7] (aa 11 128) ?_;(refine jG (aa 11 129) 0 F (aq F F F) ?_);refine jT 7 [1,2] (aa 11 135) ?_;(refine jG (aa 11 143) 3 F (aq F F F) ?_);refine jT 4 [4,5] (aa 11 191) ?_;(refine jG (aa 11 255) 6 F (aJ F F aS F F) ?_);(refine jG (aa 11 511) 8 F (aq F F F) ?_);((refine jG (aa 11 1023) 9 F (cF F F (eG aS) aS F) ?_));refine jT 0 [10] (aa 11 2047) ?_;refine jQ ?_))
   all_goals
    refine c0 (.inl F) F (cI (x0:=x2) (r:=r) (sc:=sc) (s:=q) (b:=true) (a:=none) (n:=0) (c:=0) (d:=d + 1) oM) F ?_
    rintro v G' L' ⟨rfl,rfl⟩
    dsimp only [zA,fA]
    exact ⟨[_],[bE r sc q true none 0 0 (d + 1 - 1)],⟨aD F F F F,trivial⟩,sB,Gh.le.refl _,cH (c:=⟨69,[],m,none,0,0⟩) (bq dC oM) oM (fun _=>⟨F,F,F⟩) ⟨oM,fun h=>(by cases h),fun _=>.inr hrd⟩⟩
  | some f =>
   rw [hft] at hrd
   obtain ⟨j,hj,hjn,hjt,hjd⟩:=eo hft
   obtain ⟨bf,of,cf,rfl,hsf⟩:=h2.expl oM
   have cx_fld:=eP h1 hsf oM hj hjn hjt
   have hft2 : f.tag = m:=by rw [← hjd];exact hjt
   dsimp only at hrd
   rw [hft2] at hrd
   refine cn [(0,_),(1,_)] Tryz.func92 kR Tryz.ntmps92 F F tU fun B hok hB hW=>?_
   repeat' (first | refine jM ?_ | (refine jo ?_;first | refine jO fun _=>?_ | refine jL fun _=>?_ | refine ah F ?_ | refine jD F F F ?_ | refine jV (db F F) ?_))
   rename_i x2 x3 x4
   refine jo ?_
   refine co (fi:=[]) (ca:=[Pt x2 0]) (az:=[]) F F ?_
   repeat' (first | refine jR ?_ | (refine jo ?_;first | refine jL fun _=>?_ | refine ah F ?_ | refine aK F ?_ | refine jV (aJ F F aS F F) ?_ | refine jC F F F ?_ | refine jV (ak F F) ?_ | refine jV (cy F F) ?_ | refine ab F F F cx_sign F ?_ | (refine af F F F cx_nb F ?_;rintro _ _ ⟨rfl,rfl⟩;dsimp only [zA,fA]) | refine ab F F F cx_fld F ?_) | refine ac F (ay ‹_›) ?_ | (refine ad F (by first | rfl | (refine decide_eq_false ?_;(omega))) ?_) | (refine aj (am (id:=34) _ (fun _ h=>h) ai ?_);refine jT 10 [7] (aa 11 128) ?_;(refine jG (aa 11 129) 0 F (aq F F F) ?_);refine jT 7 [1,2] (aa 11 135) ?_;(refine jG (aa 11 143) 3 F (aq F F F) ?_);refine jT 4 [4,5] (aa 11 191) ?_;(refine jG (aa 11 255) 6 F (aJ F F aS F F) ?_);(refine jG (aa 11 511) 8 F (aq F F F) ?_);((refine jG (aa 11 1023) 9 F (cF F F (eG aS) aS F) ?_));refine jT 0 [10] (aa 11 2047) ?_;refine jQ ?_))
   all_goals
    refine c0 (.inl F) F (cI (x0:=x2) (r:=r) (sc:=sc) (s:=q) (b:=false) (a:=none) (n:=0) (c:=0) (d:=d + 1) oM) F ?_
    rintro v G' L' ⟨rfl,rfl⟩
    dsimp only [zA,fA]
    exact ⟨[_],[bE r sc q false none 0 0 (d + 1 - 1)],⟨aD F F F F,trivial⟩,sB,Gh.le.refl _,cH (c:=⟨69,[],m,none,0,0⟩) (bq dC oM) oM (fun _=>⟨F,F,F⟩) ⟨oM,fun _=>⟨F,hrd⟩,fun h=>(by cases h)⟩⟩
theorem vv {n r sc p : Nat} {qs : List cE} {t : Ty} {x s q : acA} {m : Int} {d : Int} (hd : d = 12 - (n : Int)) (hn : n ≤ 12) (hS : ScI G sc qs) (hkv : lz (gq qs) x = some (Pt p 0)) (hT : im G p t) (hw : TyW t) (hso : t.sort = 85) (hs : s.length ≤ 1000) (hg : bi s = some (m,q)) (ht : bU q = none) (hrd : bX (al qs) (rb (al qs) n) t s = none) :
  di acz 92 [Pt r 0,Ag [S [],S [64],S x]] G [bE r sc s false none 0 0 d] (j6 (bX (al qs) (rb (al qs) n) t) r sc s false d):=by
 obtain ⟨u,m2,g1,g2,g3⟩:=hS.at'
 have hso' : (t.sort : Int) = 85:=oM
 have cx_sign:=@dx G [64] x
 obtain ⟨hm0,hm1,_⟩:=cx hg
 have hl:=bD hg
 have cx_nb:=ec (G:=G) (r:=r) (sc:=sc) (m:=0) (c:=0) (b:=false) (a:=none) (d:=d + 1) hg hs
 have cx_fldg:=ll hT hw ⟨hm0,hm1⟩
 obtain ⟨fv,ln,h1,h2⟩:=hT
 rcases fu (s:=q) with ⟨hg2,ht2⟩ | ⟨m3,q2,hg2,hm,⟨hl3,ht2⟩ | ⟨hl3,ht2⟩⟩
 ·have cx_nb2:=fO (G:=G) (r:=r) (sc:=sc) (m:=0) (c:=0) (b:=false) (a:=none) (d:=d + 1) hg2 oM
  have cx_tkb:=fB (G:=G) (r:=r) (sc:=sc) (m:=0) (n:=0) (c:=0) (s:=[]) (b:=true) (a:=none) (d:=d + 1) (.inl rfl) ⟨by simp,oM⟩
  have cx_tkb : bV acz 64 [Pt r 0,I 0] G [bE r sc [] true none 0 0 (d + 1)] (fun v L'=>v = S [] ∧ L' = [bE r sc [] true none 0 0 (d + 1)]):=cx_tkb
  refine cn [(0,_),(1,_)] Tryz.func92 kR Tryz.ntmps92 F F tU fun B hok hB hW=>?_
  repeat' (first | refine jM ?_ | (refine jo ?_;first | refine jO fun _=>?_ | refine jL fun _=>?_ | refine ah F ?_ | refine jD F F F ?_ | refine jV (db F F) ?_))
  rename_i x2 x3 x4
  refine jo ?_
  refine co (fi:=[]) (ca:=[Pt x2 0]) (az:=[]) F F ?_
  repeat' (first | refine jR ?_ | (refine jo ?_;first | refine ah F ?_ | refine aK F ?_ | refine ab F F F cx_sign F ?_) | (refine ad F (by first | rfl | (refine decide_eq_false ?_;(omega))) ?_))
  (refine aj (am (id:=34) _ (fun _ h=>h) ai ?_);refine jT 10 [7] (aa 11 128) ?_;(refine jG (aa 11 129) 0 F (aq F F F) ?_);refine jT 7 [1,2] (aa 11 135) ?_;(refine jG (aa 11 143) 3 F (aq F F F) ?_);refine jT 4 [4,5] (aa 11 191) ?_;(refine jG (aa 11 255) 6 F (aJ F F aS F F) ?_);(refine jG (aa 11 511) 8 F (aq F F F) ?_);((refine jG (aa 11 1023) 9 F (cF F F (eG aS) aS F) ?_));refine jT 0 [10] (aa 11 2047) ?_;refine jQ ?_)
  all_goals repeat' (first | refine jR ?_ | (refine jo ?_;first | refine ah F ?_ | refine jV (aJ F F aS F F) ?_ | (refine af F F F cx_nb F ?_;rintro _ _ ⟨rfl,rfl⟩;dsimp only [zA,fA])) | refine ac F (ay ‹_›) ?_ | refine ad F (aB oM) ?_)
  (refine aj (am (id:=43) [.blk x2 (.cells (List.toArray [Pt r 0]) fp (0,0))] (by intro y hy;simp only [List.mem_cons,List.not_mem_nil,or_false] at hy ⊢;simp [hy]) ai ?_);(refine jG (aa 5 1) 0 F (aq F F F) ?_);(refine jG (aa 5 3) 1 F (aq F F F) ?_);refine jA 2 F ?_;(refine af F F F cx_nb2 F ?_;rintro _ _ ⟨rfl,rfl⟩;dsimp only [zA,fA]);refine jK (aa 5 7) ?_;refine jA 3 F ?_;(refine af F F F cx_tkb F ?_;rintro _ _ ⟨rfl,rfl⟩;dsimp only [zA,fA]);refine jK (aa 5 15) ?_;refine jW 0 [4] (aa 5 31) ?_;refine jQ ?_)
  repeat' (refine jR ?_)
  refine jo ?_
  refine cO F F F cx_fldg F ?_
  rintro _ ⟨q9,rfl⟩
  cases q9
  all_goals repeat' (first | refine jR ?_ | (refine jo ?_;first | refine ah F ?_ | refine jD F F F ?_ | refine jC F F F ?_ | refine jV (ak F F) ?_ | refine aH F ?_ | refine av F ?_ | refine jV (cy F F) ?_) | refine aA F F F ?_ | refine an F F F ?_ | refine ac F F ?_)
  all_goals
   refine c0 (.inl F) F (cI (x0:=x2) (r:=r) (sc:=sc) (s:=[]) (b:=true) (a:=none) (n:=0) (c:=0) (d:=d + 1) oM) F ?_
   rintro v G' L' ⟨rfl,rfl⟩
   dsimp only [zA,fA]
   exact ⟨[_],[bE r sc [] true none 0 0 (d + 1 - 1)],⟨aD F F F F,trivial⟩,sB,Gh.le.refl _,cH (c:=⟨0,[],0,none,0,0⟩) fq oM (fun _=>⟨F,F,F⟩) ⟨by simp,fun h=>(by cases h),fun _=>.inr hrd⟩⟩
 ·have hl4:=bD hg2
  have cx_nb2:=ec (G:=G) (r:=r) (sc:=sc) (m:=0) (c:=0) (b:=false) (a:=none) (d:=d + 1) hg2 oM
  have cx_tkb:=fB (G:=G) (r:=r) (sc:=sc) (m:=m3) (n:=0) (c:=0) (s:=q2) (b:=false) (a:=none) (d:=d + 1) (.inr hl3) ⟨oM,oM⟩
  refine cn [(0,_),(1,_)] Tryz.func92 kR Tryz.ntmps92 F F tU fun B hok hB hW=>?_
  repeat' (first | refine jM ?_ | (refine jo ?_;first | refine jO fun _=>?_ | refine jL fun _=>?_ | refine ah F ?_ | refine jD F F F ?_ | refine jV (db F F) ?_))
  rename_i x2 x3 x4
  refine jo ?_
  refine co (fi:=[]) (ca:=[Pt x2 0]) (az:=[]) F F ?_
  repeat' (first | refine jR ?_ | (refine jo ?_;first | refine ah F ?_ | refine aK F ?_ | refine ab F F F cx_sign F ?_) | (refine ad F (by first | rfl | (refine decide_eq_false ?_;(omega))) ?_))
  (refine aj (am (id:=34) _ (fun _ h=>h) ai ?_);refine jT 10 [7] (aa 11 128) ?_;(refine jG (aa 11 129) 0 F (aq F F F) ?_);refine jT 7 [1,2] (aa 11 135) ?_;(refine jG (aa 11 143) 3 F (aq F F F) ?_);refine jT 4 [4,5] (aa 11 191) ?_;(refine jG (aa 11 255) 6 F (aJ F F aS F F) ?_);(refine jG (aa 11 511) 8 F (aq F F F) ?_);((refine jG (aa 11 1023) 9 F (cF F F (eG aS) aS F) ?_));refine jT 0 [10] (aa 11 2047) ?_;refine jQ ?_)
  all_goals repeat' (first | refine jR ?_ | (refine jo ?_;first | refine ah F ?_ | refine jV (aJ F F aS F F) ?_ | (refine af F F F cx_nb F ?_;rintro _ _ ⟨rfl,rfl⟩;dsimp only [zA,fA])) | refine ac F (ay ‹_›) ?_ | refine ad F (aB oM) ?_)
  (refine aj (am (id:=43) [.blk x2 (.cells (List.toArray [Pt r 0]) fp (0,0))] (by intro y hy;simp only [List.mem_cons,List.not_mem_nil,or_false] at hy ⊢;simp [hy]) ai ?_);(refine jG (aa 5 1) 0 F (aq F F F) ?_);(refine jG (aa 5 3) 1 F (aq F F F) ?_);refine jA 2 F ?_;(refine af F F F cx_nb2 F ?_;rintro _ _ ⟨rfl,rfl⟩;dsimp only [zA,fA]);refine jK (aa 5 7) ?_;refine jA 3 F ?_;(refine af F F F cx_tkb F ?_;rintro _ _ ⟨rfl,rfl⟩;dsimp only [zA,fA]);refine jK (aa 5 15) ?_;refine jW 0 [4] (aa 5 31) ?_;refine jQ ?_)
  repeat' (refine jR ?_)
  refine jo ?_
  refine cO F F F cx_fldg F ?_
  rintro _ ⟨q9,rfl⟩
  cases q9
  all_goals repeat' (first | refine jR ?_ | (refine jo ?_;first | refine ah F ?_ | refine jD F F F ?_ | refine jC F F F ?_ | refine jV (ak F F) ?_ | refine aH F ?_ | refine av F ?_ | refine jV (cy F F) ?_) | refine aA F F F ?_ | refine an F F F ?_ | refine ac F F ?_)
  all_goals
   refine c0 (.inl F) F (cI (x0:=x2) (r:=r) (sc:=sc) (s:=q2) (b:=true) (a:=none) (n:=0) (c:=0) (d:=d + 1) oM) F ?_
   rintro v G' L' ⟨rfl,rfl⟩
   dsimp only [zA,fA]
   exact ⟨[_],[bE r sc q2 true none 0 0 (d + 1 - 1)],⟨aD F F F F,trivial⟩,sB,Gh.le.refl _,cH (c:=⟨0,[],0,none,0,0⟩) fq oM (fun _=>⟨F,F,F⟩) ⟨oM,fun h=>(by cases h),fun _=>.inr hrd⟩⟩
 ·rw [ht] at ht2;cases ht2
theorem abt {n r sc p : Nat} {qs : List cE} {t : Ty} {x s : acA} {d : Int} (hd : d = 12 - (n : Int)) (hn : n ≤ 12) (hU : qp n sc qs) (hS : ScI G sc qs) (hkv : lz (gq qs) x = some (Pt p 0)) (hT : im G p t) (hw : TyW t) (hkf : ∀ d ∈ t.fields,aM (al qs) d.kind = true) (hso : t.sort = 85) (hs : s.length ≤ 1000) :
  di acz 92 [Pt r 0,Ag [S [],S [64],S x]] G [bE r sc s false none 0 0 d] (j6 (bX (al qs) (rb (al qs) n) t) r sc s false d):=by
 obtain ⟨u,m2,g1,g2,g3⟩:=hS.at'
 have hT2:=hT
 obtain ⟨fv,ln,h1,h2⟩:=hT
 have hfl:=hw.len
 have hso' : (t.sort : Int) = 85:=oM
 have cx_sign:=@dx G [64] x
 have hrd : bX (al qs) (rb (al qs) n) t s = match bi s with
   | none=>none
   | some (m,r)=>match bN t.fields m with
    | none=>none
    | some d=>match bU r with
     | none=>none
     | some (p,r')=>(cM (rb (al qs) n) d.kind p).map fun v=>(.nd 85 [] d.tag [v],r'):=by
  unfold bX
  rw [if_neg oM]
  rcases bi s with _ | ⟨m,r⟩
  ·rfl
  ·dsimp only
   rcases bN t.fields m with _ | d
   ·rfl
   ·dsimp only;rw [if_neg oM]
    all_goals (rcases bU r with _ | ⟨p,r'⟩ <;> rfl)
 cases hg : bi s with
 | none =>
  rw [hg] at hrd
  have cx_nb:=fO (G:=G) (r:=r) (sc:=sc) (m:=0) (c:=0) (b:=false) (a:=none) (d:=d + 1) hg hs
  have cx_nb2:=fO (G:=G) (r:=r) (sc:=sc) (m:=0) (c:=0) (s:=[]) (b:=true) (a:=none) (d:=d + 1) rfl (by simp)
  have cx_tkb:=fB (G:=G) (r:=r) (sc:=sc) (m:=0) (n:=0) (c:=0) (s:=[]) (b:=true) (a:=none) (d:=d + 1) (.inl rfl) ⟨by simp,oM⟩
  have cx_tkb : bV acz 64 [Pt r 0,I 0] G [bE r sc [] true none 0 0 (d + 1)] (fun v L'=>v = S [] ∧ L' = [bE r sc [] true none 0 0 (d + 1)]):=cx_tkb
  have cx_fld:=d1 h1 h2 oM (jw hw)
  refine cn [(0,_),(1,_)] Tryz.func92 kR Tryz.ntmps92 F F tU fun B hok hB hW=>?_
  repeat' (first | refine jM ?_ | (refine jo ?_;first | refine jO fun _=>?_ | refine jL fun _=>?_ | refine ah F ?_ | refine jD F F F ?_ | refine jV (db F F) ?_))
  rename_i x2 x3 x4
  refine jo ?_
  refine co (fi:=[]) (ca:=[Pt x2 0]) (az:=[]) F F ?_
  repeat' (first | refine jR ?_ | (refine jo ?_;first | refine ah F ?_ | refine aK F ?_ | refine ab F F F cx_sign F ?_) | (refine ad F (by first | rfl | (refine decide_eq_false ?_;(omega))) ?_))
  (refine aj (am (id:=34) _ (fun _ h=>h) ai ?_);refine jT 10 [7] (aa 11 128) ?_;(refine jG (aa 11 129) 0 F (aq F F F) ?_);refine jT 7 [1,2] (aa 11 135) ?_;(refine jG (aa 11 143) 3 F (aq F F F) ?_);refine jT 4 [4,5] (aa 11 191) ?_;(refine jG (aa 11 255) 6 F (aJ F F aS F F) ?_);(refine jG (aa 11 511) 8 F (aq F F F) ?_);((refine jG (aa 11 1023) 9 F (cF F F (eG aS) aS F) ?_));refine jT 0 [10] (aa 11 2047) ?_;refine jQ ?_)
  all_goals repeat' (first | refine jR ?_ | (refine jo ?_;first | refine ah F ?_ | refine jV (aJ F F aS F F) ?_ | (refine af F F F cx_nb F ?_;rintro _ _ ⟨rfl,rfl⟩;dsimp only [zA,fA])) | refine ac F (ay ‹_›) ?_ | refine ad F (aB oM) ?_)
  (refine aj (am (id:=43) [.blk x2 (.cells (List.toArray [Pt r 0]) fp (0,0))] (by intro y hy;simp only [List.mem_cons,List.not_mem_nil,or_false] at hy ⊢;simp [hy]) ai ?_);(refine jG (aa 5 1) 0 F (aq F F F) ?_);(refine jG (aa 5 3) 1 F (aq F F F) ?_);refine jA 2 F ?_;(refine af F F F cx_nb2 F ?_;rintro _ _ ⟨rfl,rfl⟩;dsimp only [zA,fA]);refine jK (aa 5 7) ?_;refine jA 3 F ?_;(refine af F F F cx_tkb F ?_;rintro _ _ ⟨rfl,rfl⟩;dsimp only [zA,fA]);refine jK (aa 5 15) ?_;refine jW 0 [4] (aa 5 31) ?_;refine jQ ?_)
  all_goals repeat' (first | refine jR ?_ | (refine jo ?_;first | refine ah F ?_ | refine jD F F F ?_ | refine jC F F F ?_ | refine jV (ak F F) ?_ | refine aH F ?_ | refine jV (cy F F) ?_ | refine ab F F F cx_fld F ?_) | refine aA F F F ?_ | refine ac F F ?_)
  all_goals
   refine c0 (.inl F) F (cI (x0:=x2) (r:=r) (sc:=sc) (s:=[]) (b:=true) (a:=none) (n:=0) (c:=0) (d:=d + 1) oM) F ?_
   rintro v G' L' ⟨rfl,rfl⟩
   dsimp only [zA,fA]
   exact ⟨[_],[bE r sc [] true none 0 0 (d + 1 - 1)],⟨aD F F F F,trivial⟩,sB,Gh.le.refl _,cH (c:=⟨0,[],0,none,0,0⟩) fq oM (fun _=>⟨F,F,F⟩) ⟨by simp,fun h=>(by cases h),fun _=>.inr hrd⟩⟩
 | some z =>
  obtain ⟨m,q⟩:=z
  obtain ⟨hm0,hm1,_⟩:=cx hg
  have hl:=bD hg
  rw [hg] at hrd
  dsimp only at hrd
  rcases fu (s:=q) with ⟨hg2,ht⟩ | ⟨m3,q2,hg2,hm,⟨hl3,ht⟩ | ⟨hl3,ht⟩⟩
  ·refine vv hd hn hS hkv hT2 hw hso hs hg ht ?_
   rw [hrd,ht]
   cases bN t.fields m <;> rfl
  ·refine vv hd hn hS hkv hT2 hw hso hs hg ht ?_
   rw [hrd,ht]
   cases bN t.fields m <;> rfl
  have hl4:=bD hg2
  have hdl : (q2.drop m3).length = q2.length - m3:=List.length_drop
  have htl : (q2.take m3).length ≤ 1000:=by rw [List.length_take];omega
  have cx_nb:=ec (G:=G) (r:=r) (sc:=sc) (m:=0) (c:=0) (b:=false) (a:=none) (d:=d + 1) hg hs
  have cx_nb2:=ec (G:=G) (r:=r) (sc:=sc) (m:=0) (c:=0) (b:=false) (a:=none) (d:=d + 1) hg2 oM
  have cx_tkb:=ja (G:=G) (r:=r) (sc:=sc) (m:=m3) (n:=0) (c:=0) (s:=q2) (a:=none) (d:=d + 1) ⟨hl3,oM⟩
  cases hft : bN t.fields m with
  | none =>
   rw [hft] at hrd
   have cx_fld:=d1 h1 h2 oM hft
   refine cn [(0,_),(1,_)] Tryz.func92 kR Tryz.ntmps92 F F tU fun B hok hB hW=>?_
   repeat' (first | refine jM ?_ | (refine jo ?_;first | refine jO fun _=>?_ | refine jL fun _=>?_ | refine ah F ?_ | refine jD F F F ?_ | refine jV (db F F) ?_))
   rename_i x2 x3 x4
   refine jo ?_
   refine co (fi:=[]) (ca:=[Pt x2 0]) (az:=[]) F F ?_
   repeat' (first | refine jR ?_ | (refine jo ?_;first | refine ah F ?_ | refine aK F ?_ | refine ab F F F cx_sign F ?_) | (refine ad F (by first | rfl | (refine decide_eq_false ?_;(omega))) ?_))
   (refine aj (am (id:=34) _ (fun _ h=>h) ai ?_);refine jT 10 [7] (aa 11 128) ?_;(refine jG (aa 11 129) 0 F (aq F F F) ?_);refine jT 7 [1,2] (aa 11 135) ?_;(refine jG (aa 11 143) 3 F (aq F F F) ?_);refine jT 4 [4,5] (aa 11 191) ?_;(refine jG (aa 11 255) 6 F (aJ F F aS F F) ?_);(refine jG (aa 11 511) 8 F (aq F F F) ?_);((refine jG (aa 11 1023) 9 F (cF F F (eG aS) aS F) ?_));refine jT 0 [10] (aa 11 2047) ?_;refine jQ ?_)
   all_goals repeat' (first | refine jR ?_ | (refine jo ?_;first | refine ah F ?_ | refine jV (aJ F F aS F F) ?_ | (refine af F F F cx_nb F ?_;rintro _ _ ⟨rfl,rfl⟩;dsimp only [zA,fA])) | refine ac F (ay ‹_›) ?_ | refine ad F (aB oM) ?_)
   (refine aj (am (id:=43) [.blk x2 (.cells (List.toArray [Pt r 0]) fp (0,0))] (by intro y hy;simp only [List.mem_cons,List.not_mem_nil,or_false] at hy ⊢;simp [hy]) ai ?_);(refine jG (aa 5 1) 0 F (aq F F F) ?_);(refine jG (aa 5 3) 1 F (aq F F F) ?_);refine jA 2 F ?_;(refine af F F F cx_nb2 F ?_;rintro _ _ ⟨rfl,rfl⟩;dsimp only [zA,fA]);refine jK (aa 5 7) ?_;refine jA 3 F ?_;(refine af F F F cx_tkb F ?_;rintro _ _ ⟨rfl,rfl⟩;dsimp only [zA,fA]);refine jK (aa 5 15) ?_;refine jW 0 [4] (aa 5 31) ?_;refine jQ ?_)
   all_goals repeat' (first | refine jR ?_ | (refine jo ?_;first | refine ah F ?_ | refine jD F F F ?_ | refine jC F F F ?_ | refine jV (ak F F) ?_ | refine aH F ?_ | refine jV (cy F F) ?_ | refine ab F F F cx_fld F ?_) | refine aA F F F ?_ | refine ac F F ?_)
   all_goals
    refine c0 (.inl F) F (cI (x0:=x2) (r:=r) (sc:=sc) (s:=(q2.drop m3)) (b:=true) (a:=none) (n:=0) (c:=0) (d:=d + 1) oM) F ?_
    rintro v G' L' ⟨rfl,rfl⟩
    dsimp only [zA,fA]
    exact ⟨[_],[bE r sc (q2.drop m3) true none 0 0 (d + 1 - 1)],⟨aD F F F F,trivial⟩,sB,Gh.le.refl _,cH (c:=⟨0,[],0,none,0,0⟩) fq oM (fun _=>⟨F,F,F⟩) ⟨oM,fun h=>(by cases h),fun _=>.inr hrd⟩⟩
  | some f =>
   rw [hft] at hrd
   obtain ⟨j,hj,hjn,hjt,hjd⟩:=eo hft
   obtain ⟨bf,of,cf,rfl,hsf⟩:=h2.expl oM
   have cx_fld:=eP h1 hsf oM hj hjn hjt
   have hft2 : f.tag = m:=by rw [← hjd];exact hjt
   dsimp only at hrd
   rw [ht,hft2] at hrd
   dsimp only at hrd
   subst hjd
   have cx_prt:=tl (G:=G) (r:=r) (sc:=sc) (m:=0) (c:=0) (a:=none) (s:=q2.drop m3) (k:=(ae t.fields j).kind) (p:=q2.take m3) (d:=d + 1) oM oM hU hS (hkf _ (bL hj)) htl
   refine cn [(0,_),(1,_)] Tryz.func92 kR Tryz.ntmps92 F F tU fun B hok hB hW=>?_
   repeat' (first | refine jM ?_ | (refine jo ?_;first | refine jO fun _=>?_ | refine jL fun _=>?_ | refine ah F ?_ | refine jD F F F ?_ | refine jV (db F F) ?_))
   rename_i x2 x3 x4
   refine jo ?_
   refine co (fi:=[]) (ca:=[Pt x2 0]) (az:=[]) F F ?_
   repeat' (first | refine jR ?_ | (refine jo ?_;first | refine ah F ?_ | refine aK F ?_ | refine ab F F F cx_sign F ?_) | (refine ad F (by first | rfl | (refine decide_eq_false ?_;(omega))) ?_))
   (refine aj (am (id:=34) _ (fun _ h=>h) ai ?_);refine jT 10 [7] (aa 11 128) ?_;(refine jG (aa 11 129) 0 F (aq F F F) ?_);refine jT 7 [1,2] (aa 11 135) ?_;(refine jG (aa 11 143) 3 F (aq F F F) ?_);refine jT 4 [4,5] (aa 11 191) ?_;(refine jG (aa 11 255) 6 F (aJ F F aS F F) ?_);(refine jG (aa 11 511) 8 F (aq F F F) ?_);((refine jG (aa 11 1023) 9 F (cF F F (eG aS) aS F) ?_));refine jT 0 [10] (aa 11 2047) ?_;refine jQ ?_)
   all_goals repeat' (first | refine jR ?_ | (refine jo ?_;first | refine ah F ?_ | refine jV (aJ F F aS F F) ?_ | (refine af F F F cx_nb F ?_;rintro _ _ ⟨rfl,rfl⟩;dsimp only [zA,fA])) | refine ac F (ay ‹_›) ?_ | refine ad F (aB oM) ?_)
   (refine aj (am (id:=43) [.blk x2 (.cells (List.toArray [Pt r 0]) fp (0,0))] (by intro y hy;simp only [List.mem_cons,List.not_mem_nil,or_false] at hy ⊢;simp [hy]) ai ?_);(refine jG (aa 5 1) 0 F (aq F F F) ?_);(refine jG (aa 5 3) 1 F (aq F F F) ?_);refine jA 2 F ?_;(refine af F F F cx_nb2 F ?_;rintro _ _ ⟨rfl,rfl⟩;dsimp only [zA,fA]);refine jK (aa 5 7) ?_;refine jA 3 F ?_;(refine af F F F cx_tkb F ?_;rintro _ _ ⟨rfl,rfl⟩;dsimp only [zA,fA]);refine jK (aa 5 15) ?_;refine jW 0 [4] (aa 5 31) ?_;refine jQ ?_)
   all_goals repeat' (first | refine jR ?_ | (refine jo ?_;first | refine ah F ?_ | refine av F ?_ | refine jV (cy F F) ?_ | refine ab F F F cx_fld F ?_) | refine an F F F ?_ | refine ad F F ?_)
   (refine aj (am (id:=48) [.blk x2 (.cells (List.toArray [Pt r 0]) fp (0,0))] (by intro y hy;simp only [List.mem_cons,List.not_mem_nil,or_false] at hy ⊢;simp [hy]) ai ?_);refine jW 11 [0,2,3,4,6] (aa 16 93) ?_;(refine jG (aa 16 95) 1 F (aq F F F) ?_);((refine jG (aa 16 127) 5 F (ia F F aS ?_ F F) ?_;focus omega));refine jA 7 F ?_;(refine cP F F F cx_prt F ?_;rintro _ G1 _ hle ⟨u1,c1,b1,rfl,hrep,rfl,hQ2,hQ3⟩;dsimp only [zA,fA];skip);refine jK (aa 16 255) ?_;refine cl [8,9] kR dC ⟨?_,?_,trivial⟩;(focus (refine bc F F ?_;(refine jF fun _=>?_);refine jK (aa 16 511) ?_;refine jA 9 F ?_;(refine jC F F F ?_);refine jK (aa 16 1023) ?_;refine jW 5 [10] (aa 16 2047) ?_;refine jA 11 F ?_;(refine jD F F F ?_);refine jK (aa 16 4095) ?_;refine jW 3 [12] (aa 16 8191) ?_;refine jA 13 F ?_;(refine jD F F F ?_);refine jK (aa 16 16383) ?_;refine jW 1 [14] (aa 16 32767) ?_;refine jA 15 F ?_;(refine jD F F F ?_);refine jK (aa 16 65535) ?_;refine jQ ?_));rotate_left 1;(focus (refine bc F F ?_;(refine jC F F F ?_);refine jK (aa 16 767) ?_;refine jW 6 [10] (aa 16 1791) ?_;refine cl [8,11] kR dC ⟨?_,?_,trivial⟩;(focus (refine bc F F ?_;(refine jF fun _=>?_);refine jK (aa 16 2047) ?_;refine jA 11 F ?_;(refine jD F F F ?_);refine jK (aa 16 4095) ?_;refine jW 3 [12] (aa 16 8191) ?_;refine jA 13 F ?_;(refine jD F F F ?_);refine jK (aa 16 16383) ?_;refine jW 1 [14] (aa 16 32767) ?_;refine jA 15 F ?_;(refine jD F F F ?_);refine jK (aa 16 65535) ?_;refine jQ ?_));rotate_left 1;(focus (refine bc F F ?_;(refine jD F F F ?_);refine jK (aa 16 3839) ?_;refine jW 4 [12] (aa 16 7935) ?_;refine cl [8,13] kR dC ⟨?_,?_,trivial⟩;(focus (refine bc F F ?_;(refine jF fun _=>?_);refine jK (aa 16 8191) ?_;refine jA 13 F ?_;(refine jD F F F ?_);refine jK (aa 16 16383) ?_;refine jW 1 [14] (aa 16 32767) ?_;refine jA 15 F ?_;(refine jD F F F ?_);refine jK (aa 16 65535) ?_;refine jQ ?_));rotate_left 1;(focus (refine bc F F ?_;(refine jD F F F ?_);refine jK (aa 16 16127) ?_;refine jA 8 F ?_;(refine jF fun _=>?_);refine jK (aa 16 16383) ?_;refine jW 1 [14] (aa 16 32767) ?_;refine jA 15 F ?_;(refine jD F F F ?_);refine jK (aa 16 65535) ?_;refine jQ ?_));rotate_left 1));rotate_left 2));rotate_left 3)
   all_goals repeat' (refine jR ?_)
   all_goals
    rename_i y
    refine Nx.sealC (b:=y) fun G2 hG2 hsy=>?_
    have hsl : bj G2 (.slice (some ⟨y,0,none⟩) 1 1) 4 ([c1] : List VC).length (aF cg [c1]):=⟨rfl,.inr ⟨y,0,1,rfl,Nat.le_refl _,hsy⟩⟩
    refine c0 (.inl F) F (cI (x0:=x2) (r:=r) (sc:=sc) (s:=(q2.drop m3)) (b:=b1) (a:=none) (n:=0) (c:=0) (d:=d + 1) oM) F ?_
    rintro v G' L' ⟨rfl,rfl⟩
    dsimp only [zA,fA]
    exact ⟨[_],[bE r sc (q2.drop m3) b1 none 0 0 (d + 1 - 1)],⟨aD F F F F,trivial⟩,sB,(hle.trans hG2),cH (c:=⟨85,[],m,some ⟨y,0,none⟩,1,1⟩) (cV (ks:=[u1]) dC oM (fun _=>rfl) F hsl ⟨_,[],F,f2 hG2 hrep,F⟩) oM (fun _=>⟨F,F,F⟩) ⟨oM,fun h=>⟨F,by rw [hrd,(hQ2 h).1];rfl⟩,fun h=>.inr (by rw [hrd,hQ3 h];rfl)⟩⟩
abbrev tI : TypeId:=76
abbrev w5 : TypeId:=3
theorem aau {n r sc p : Nat} {qs : List cE} {t : Ty} {s : acA} {d : Int} (hd : d = 13 - (n : Int)) (hn : n ≤ 12) (hU : qp n sc qs) (hS : ScI G sc qs) (hW0 : SchW (al qs)) (hT : im G p t) (hw : TyW t) (hkf : ∀ d ∈ t.fields,aM (al qs) d.kind = true) (hs : s.length ≤ 1000) :
  di acz 139 [Pt r 0,Pt p 0] G [bE r sc s false none 0 0 d] (fun v G' L'=>∃ u c s' b' a m k,v = Ag (cg c) ∧ V.rep G' u c ∧ L' = [bE r sc s' b' a m k d] ∧ (d ≠ 1 → a = none ∧ m = 0 ∧ k = 0) ∧ r9 (fun s=>(bJ (al qs) (rb (al qs) n) t (s.length + 1) 0 s []).map fun x=>(.nd 82 [] 0 x.1,x.2)) s false u s' b'):=by
 have hT2:=hT
 obtain ⟨fv,ln,h1',h2⟩:=hT
 have hfl:=hw.len
 refine bI [(0,_),(1,_)] Tryz.func139 kR Tryz.ntmps139 F F tU fun B hB hW=>?_
 repeat' (first | refine jR ?_ | (refine jo ?_;first | refine jL fun _=>?_ | refine jV (ak F F) ?_ | refine jC F F F ?_))
 rename_i x4 x5
 refine Nx.addNil tI 4 (Nx.addNil w5 1 (Nx.perm (List.perm_append_comm (l₁:=[_,_,_,_]) (l₂:=[_])) ?_))
 dsimp only [zA,fA]
 refine aR (ι:=List V × List VC × Option Addr × Nat × List Int × Option Addr × Nat × acA × Bool × Nat × Int × Gh) (fun y=>(V.reps y.2.2.2.2.2.2.2.2.2.2.2 y.1 y.2.1 ∧ Gh.le G y.2.2.2.2.2.2.2.2.2.2.2) ∧ (y.2.2.2.2.2.2.2.2.1 = false → bJ (al qs) (rb (al qs) n) t (s.length + 1) 0 s [] = bJ (al qs) (rb (al qs) n) t y.2.2.2.2.2.2.2.2.2.1 y.2.2.2.2.2.2.2.2.2.2.1 y.2.2.2.2.2.2.2.1 y.1 ∧ y.2.2.2.2.2.2.2.1.length < y.2.2.2.2.2.2.2.2.2.1) ∧ (y.2.2.2.2.2.2.2.2.1 = true → bJ (al qs) (rb (al qs) n) t (s.length + 1) 0 s [] = none) ∧ (y.1.length + y.2.2.2.2.1.length + y.2.2.2.2.2.2.2.1.length ≤ s.length ∧ 0 ≤ y.2.2.2.2.2.2.2.2.2.2.1 ∧ y.2.2.2.2.2.2.2.2.2.2.1 ≤ 999999) ∧ (d ≠ 1 → y.2.2.2.2.1 = [] ∧ y.2.2.2.2.2.1 = none ∧ y.2.2.2.2.2.2.1 = 0)) (fun y=>[(0,Pt r 0),(1,Pt p 0),(4,Pt x4 0),(5,Pt x5 0),(6,I y.2.2.2.2.2.2.2.2.2.2.1)]) (fun y=>y.2.2.2.2.2.2.2.2.2.2.2) (fun y=>[bE r sc y.2.2.2.2.2.2.2.1 y.2.2.2.2.2.2.2.2.1 y.2.2.2.2.2.1 y.2.2.2.2.1.length y.2.2.2.2.2.2.1 d,.acc (.slice y.2.2.2.2.2.1 y.2.2.2.2.1.length y.2.2.2.2.2.2.1) w5 1 y.2.2.2.2.1.length (aF gg y.2.2.2.2.1),.acc (.slice y.2.2.1 y.1.length y.2.2.2.1) tI 4 y.1.length (aF cg y.2.1),.blk x5 (.cells (List.toArray [U8 82,S [],I 0,.slice y.2.2.1 y.1.length y.2.2.2.1]) tI (0,0)),.blk x4 (.cells (List.toArray [U8 (0 : Nat),S [],I 0,aL]) tI (0,0))]) (fun y=>y.2.2.2.2.2.2.2.1.length) ([],[],none,0,[],none,0,s,false,s.length + 1,0,G) ?_ tU F aX (fun y Hy=>?_)
 ·exact ⟨⟨F,Gh.le.refl _⟩,fun _=>⟨F,Nat.lt_succ_self _⟩,fun h=>(by cases h),⟨by simp,Int.le_refl 0,by show (0 : Int) ≤ 999999;omega⟩,fun _=>⟨rfl,rfl,rfl⟩⟩
 obtain ⟨vs,cs,a,cap,sk,sa,scap,t',b,m',last,Gq⟩:=y
 dsimp only at Hy ⊢
 obtain ⟨⟨hreps,hgq⟩,hI0,hI1,⟨hlen,hla0,hla1⟩,hsk⟩:=Hy
 have hcl:=gH hreps
 have hskF : d ≠ 1 → sa = none ∧ sk.length = 0 ∧ scap = 0:=fun h=>by obtain ⟨h1,h2,h3⟩:=hsk h;subst h1;exact ⟨h2,F,h3⟩
 cases b with
 | true =>
  have hno:=hI1 rfl
  repeat' (first | refine jR ?_ | (refine jo ?_;first | refine jC F F F ?_ | refine ah F ?_ | refine aK F ?_) | refine ad F F ?_)
  all_goals
   refine Nx.sealS (v:=.slice a vs.length cap) fun G2 hG2 hsl=>?_
   refine aN (vs:=[_]) F ⟨aD F F F F,trivial⟩ F sB ⟨hgq.trans hG2,.nd 82 [] 0 vs,⟨82,[],0,a,vs.length,cap⟩,t',true,sa,sk.length,scap,F,cV dC dC (fun h=>absurd h dC) F (by rw [hcl];exact hsl) (b7 hG2 hreps),F,hskF,⟨oM,fun h=>(by cases h),fun _=>.inr (by dsimp only;rw [hno];rfl)⟩⟩
 | false =>
  obtain ⟨hit,htm⟩:=hI0 rfl
  clear hI0 hI1
  obtain ⟨m',rfl⟩ : ∃ j,m' = j + 1:=⟨m' - 1,oM⟩
  cases hg : bi t' with
  | none =>
   rw [ot hg] at hit
   have cx_nb:=fO (G:=Gq) (r:=r) (sc:=sc) (m:=sk.length) (c:=scap) (b:=false) (a:=sa) (d:=d) hg oM
   repeat' (first | refine jR ?_ | (refine jo ?_;first | refine jC F F F ?_ | refine ah F ?_ | refine aK F ?_ | (refine af F F F cx_nb F ?_;rintro _ _ ⟨rfl,rfl⟩;dsimp only [zA,fA])) | refine ac F F ?_)
   all_goals
    refine Nx.sealS (v:=.slice a vs.length cap) fun G2 hG2 hsl=>?_
    refine aN (vs:=[_]) F ⟨aD F F F F,trivial⟩ F sB ⟨hgq.trans hG2,.nd 82 [] 0 vs,⟨82,[],0,a,vs.length,cap⟩,[],true,sa,sk.length,scap,F,cV dC dC (fun h=>absurd h dC) F (by rw [hcl];exact hsl) (b7 hG2 hreps),F,hskF,⟨by simp,fun h=>(by cases h),fun _=>.inr (by dsimp only;rw [hit];rfl)⟩⟩
  | some z =>
   obtain ⟨tg,q⟩:=z
   obtain ⟨h0,h1,_⟩:=cx hg
   have hl:=bD hg
   have cx_nb:=ec (G:=Gq) (r:=r) (sc:=sc) (m:=sk.length) (c:=scap) (b:=false) (a:=sa) (d:=d) hg oM
   by_cases htz : tg = 0
   ·subst htz
    rw [qQ hg] at hit
    repeat' (first | refine jR ?_ | (refine jo ?_;first | refine jC F F F ?_ | refine ah F ?_ | refine aK F ?_ | (refine af F F F cx_nb F ?_;rintro _ _ ⟨rfl,rfl⟩;dsimp only [zA,fA])) | refine ac F F ?_)
    all_goals
     refine Nx.sealS (v:=.slice a vs.length cap) fun G2 hG2 hsl=>?_
     refine aN (vs:=[_]) F ⟨aD F F F F,trivial⟩ F sB ⟨hgq.trans hG2,.nd 82 [] 0 vs,⟨82,[],0,a,vs.length,cap⟩,q,false,sa,sk.length,scap,F,cV dC dC (fun h=>absurd h dC) F (by rw [hcl];exact hsl) (b7 hG2 hreps),F,hskF,⟨oM,fun _=>⟨F,by dsimp only;rw [hit];rfl⟩,fun h=>(by cases h)⟩⟩
   rcases fu (s:=q) with ⟨hg2,ht⟩ | ⟨m3,q2,hg2,hm3,⟨hl3,ht⟩ | ⟨hl3,ht⟩⟩
   ·rw [kP hg htz ht] at hit
    have cx_nb2:=fO (G:=Gq) (r:=r) (sc:=sc) (m:=sk.length) (c:=scap) (b:=false) (a:=sa) (d:=d) hg2 oM
    have cx_tkb:=fB (G:=Gq) (r:=r) (sc:=sc) (m:=0) (n:=sk.length) (c:=scap) (s:=[]) (b:=true) (a:=sa) (d:=d) (.inl rfl) ⟨by simp,oM⟩
    have cx_tkb : bV acz 64 [Pt r 0,I 0] Gq [bE r sc [] true sa sk.length scap d] (fun v L'=>v = S [] ∧ L' = [bE r sc [] true sa sk.length scap d]):=cx_tkb
    have cx_fldg:=ll (hT2.mono hgq) hw ⟨h0,h1⟩
    repeat' (first | refine jR ?_ | (refine jo ?_;first | refine jD F F F ?_ | refine ah F ?_ | (refine af F F F cx_nb F ?_;rintro _ _ ⟨rfl,rfl⟩;dsimp only [zA,fA]) | (refine af F F F cx_nb2 F ?_;rintro _ _ ⟨rfl,rfl⟩;dsimp only [zA,fA]) | (refine af F F F cx_tkb F ?_;rintro _ _ ⟨rfl,rfl⟩;dsimp only [zA,fA])) | refine ac F F ?_ | refine ad F (aB ‹_›) ?_ | refine cB F (fun _=>?_) (fun _=>?_))
    all_goals
     refine jo ?_
     refine cO F F F cx_fldg F ?_
     rintro _ ⟨q9,rfl⟩
     repeat' (first | refine jR ?_ | (refine jo ?_;refine ah F ?_) | refine ac F F ?_)
     exact aW (vs,cs,a,cap,sk,sa,scap,[],true,m',tg,Gq) ⟨⟨hreps,hgq⟩,fun h=>(by cases h),fun _=>hit,⟨by dsimp only;simp only [List.length_nil];omega,h0,h1⟩,hsk⟩ (by dsimp only;simp only [List.length_nil];omega) tU rfl aX
   ·have hl4:=bD hg2
    rw [kP hg htz ht] at hit
    have cx_nb2:=ec (G:=Gq) (r:=r) (sc:=sc) (m:=sk.length) (c:=scap) (b:=false) (a:=sa) (d:=d) hg2 oM
    have cx_tkb:=fB (G:=Gq) (r:=r) (sc:=sc) (m:=m3) (n:=sk.length) (c:=scap) (s:=q2) (b:=false) (a:=sa) (d:=d) (.inr hl3) ⟨oM,oM⟩
    have cx_fldg:=ll (hT2.mono hgq) hw ⟨h0,h1⟩
    repeat' (first | refine jR ?_ | (refine jo ?_;first | refine jD F F F ?_ | refine ah F ?_ | (refine af F F F cx_nb F ?_;rintro _ _ ⟨rfl,rfl⟩;dsimp only [zA,fA]) | (refine af F F F cx_nb2 F ?_;rintro _ _ ⟨rfl,rfl⟩;dsimp only [zA,fA]) | (refine af F F F cx_tkb F ?_;rintro _ _ ⟨rfl,rfl⟩;dsimp only [zA,fA])) | refine ac F F ?_ | refine ad F (aB ‹_›) ?_ | refine cB F (fun _=>?_) (fun _=>?_))
    all_goals
     refine jo ?_
     refine cO F F F cx_fldg F ?_
     rintro _ ⟨q9,rfl⟩
     repeat' (first | refine jR ?_ | (refine jo ?_;refine ah F ?_) | refine ac F F ?_)
     exact aW (vs,cs,a,cap,sk,sa,scap,q2,true,m',tg,Gq) ⟨⟨hreps,hgq⟩,fun h=>(by cases h),fun _=>hit,⟨by dsimp only;omega,h0,h1⟩,hsk⟩ (by dsimp only;omega) tU rfl aX
   have hl4:=bD hg2
   have hdl : (q2.drop m3).length = q2.length - m3:=List.length_drop
   have htl : (q2.take m3).length ≤ 1000:=by rw [List.length_take];omega
   have cx_nb2:=ec (G:=Gq) (r:=r) (sc:=sc) (m:=sk.length) (c:=scap) (b:=false) (a:=sa) (d:=d) hg2 oM
   have cx_tkb:=ja (G:=Gq) (r:=r) (sc:=sc) (m:=m3) (n:=sk.length) (c:=scap) (s:=q2) (a:=sa) (d:=d) ⟨hl3,oM⟩
   by_cases hlast : tg ≤ last
   ·rw [oo hg htz ht hlast] at hit
    have cx_fldg:=ll (hT2.mono hgq) hw ⟨h0,h1⟩
    repeat' (first | refine jR ?_ | (refine jo ?_;first | refine jD F F F ?_ | refine ah F ?_ | (refine af F F F cx_nb F ?_;rintro _ _ ⟨rfl,rfl⟩;dsimp only [zA,fA]) | (refine af F F F cx_nb2 F ?_;rintro _ _ ⟨rfl,rfl⟩;dsimp only [zA,fA]) | (refine af F F F cx_tkb F ?_;rintro _ _ ⟨rfl,rfl⟩;dsimp only [zA,fA])) | (refine ac F (by first | rfl | (refine decide_eq_true ?_;(assumption))) ?_) | refine ad F (aB ‹_›) ?_)
    all_goals
     refine jo ?_
     refine cO F F F cx_fldg F ?_
     rintro _ ⟨q9,rfl⟩
     repeat' (first | refine jR ?_ | (refine jo ?_;refine ah F ?_) | refine ac F F ?_)
     exact aW (vs,cs,a,cap,sk,sa,scap,(q2.drop m3),true,m',tg,Gq) ⟨⟨hreps,hgq⟩,fun h=>(by cases h),fun _=>hit,⟨by dsimp only;omega,h0,h1⟩,hsk⟩ (by dsimp only;omega) tU rfl aX
   cases hft : bN t.fields tg with
   | none =>
    rw [mX hg htz ht hlast hft] at hit
    have cx_fld:=d1 (h1'.mono hgq) (h2.mono hgq) oM hft
    by_cases hd1 : d = 1
    ·have hskl : (sk ++ [tg]).length = sk.length + 1:=by simp
     have hrs : aF gg sk ++ [I tg] = aF gg (sk ++ [tg]):=(cj gg sk tg).symm
     repeat' (first | refine jR ?_ | (refine jo ?_;first | refine jD F F F ?_ | refine ah F ?_ | refine jV (cy F F) ?_ | refine jF fun _=>?_ | refine bW F F F F F F F F F oM fun _ _=>?_ | (refine af F F F cx_nb F ?_;rintro _ _ ⟨rfl,rfl⟩;dsimp only [zA,fA]) | (refine af F F F cx_nb2 F ?_;rintro _ _ ⟨rfl,rfl⟩;dsimp only [zA,fA]) | (refine af F F F cx_tkb F ?_;rintro _ _ ⟨rfl,rfl⟩;dsimp only [zA,fA]) | refine ab F F F cx_fld F ?_) | (refine ac F (by first | rfl | (refine decide_eq_true ?_;(assumption))) ?_) | (refine ad F (by first | rfl | (refine decide_eq_false ?_;(assumption))) ?_))
     rename_i _ y1 yc
     rw [hrs]
     refine Nx.perm (List.Perm.append_right _ (List.perm_append_comm (l₁:=[_,_]) (l₂:=[_]))) ?_
     dsimp only [zA,fA]
     exact aW (vs,cs,a,cap,sk ++ [tg],some ⟨y1,0,none⟩,yc,q2.drop m3,false,m',tg,Gq) ⟨⟨hreps,hgq⟩,fun _=>⟨hit,by dsimp only;omega⟩,fun h=>(by cases h),⟨by dsimp only;omega,h0,h1⟩,fun h=>absurd hd1 h⟩ (by dsimp only;omega) tU rfl (by rw [hskl];repeat (first | exact List.Sublist.refl _ | apply List.Sublist.cons_cons | apply List.Sublist.cons))
    ·repeat' (first | refine jR ?_ | (refine jo ?_;first | refine ah F ?_ | refine jV (cy F F) ?_ | (refine af F F F cx_nb F ?_;rintro _ _ ⟨rfl,rfl⟩;dsimp only [zA,fA]) | (refine af F F F cx_nb2 F ?_;rintro _ _ ⟨rfl,rfl⟩;dsimp only [zA,fA]) | (refine af F F F cx_tkb F ?_;rintro _ _ ⟨rfl,rfl⟩;dsimp only [zA,fA]) | refine ab F F F cx_fld F ?_) | refine ac F F ?_ | (refine ad F (by first | rfl | (refine decide_eq_false ?_;(assumption))) ?_))
     all_goals
      exact aW (vs,cs,a,cap,sk,sa,scap,q2.drop m3,false,m',tg,Gq) ⟨⟨hreps,hgq⟩,fun _=>⟨hit,by dsimp only;omega⟩,fun h=>(by cases h),⟨by dsimp only;omega,h0,h1⟩,hsk⟩ (by dsimp only;omega) tU rfl aX
   | some f =>
    obtain ⟨j,hj,hjn,hjt,hjd⟩:=eo hft
    obtain ⟨bf,of,cf,rfl,hsf⟩:=h2.expl oM
    subst hjd
    have hsf:=hsf.mono hgq
    have cx_fld:=eP (h1'.mono hgq) hsf oM hj hjn hjt
    have cx_prt:=tl (G:=Gq) (r:=r) (sc:=sc) (m:=sk.length) (c:=scap) (a:=sa) (s:=q2.drop m3) (k:=(ae t.fields j).kind) (p:=q2.take m3) (d:=d) hd hn hU (hS.mono hgq) (hkf _ (bL hj)) htl
    repeat' (first | refine jR ?_ | (refine jo ?_;first | refine jL fun _=>?_ | refine jC F F F ?_ | refine ah F ?_ | (refine jV (ia F F aS ?_ F F) ?_;focus omega) | refine jV (cy F F) ?_ | (refine af F F F cx_nb F ?_;rintro _ _ ⟨rfl,rfl⟩;dsimp only [zA,fA]) | (refine af F F F cx_nb2 F ?_;rintro _ _ ⟨rfl,rfl⟩;dsimp only [zA,fA]) | (refine af F F F cx_tkb F ?_;rintro _ _ ⟨rfl,rfl⟩;dsimp only [zA,fA]) | refine ab F F F cx_fld F ?_ | (refine cP F F F cx_prt F ?_;rintro _ G1 _ hle ⟨u1,c1,b1,rfl,hrep,rfl,hQ2,hQ3⟩;dsimp only [zA,fA];skip)) | refine ac F F ?_ | (refine ad F (by first | rfl | (refine decide_eq_false ?_;(assumption))) ?_))
    rename_i x10
    have hgl:=hgq.trans hle
    have hS1:=hS.mono hgl
    have hsf1:=hsf.mono hle
    have cx_of:=xu hS1 hW0 hsf1 hj (hkf _ (bL hj))
    obtain ⟨u',m2',g1',g2',g3'⟩:=hS1.at'
    cases b1 with
    | true =>
     rw [om hg htz ht hlast hft (hQ3 rfl)] at hit
     repeat' (first | refine jR ?_ | refine ad F F ?_ | (refine aj (am (id:=12) _ (fun _ h=>h) ai ?_);refine jT 13 [0,1,2] (aa 16 7) ?_;(refine jG (aa 16 15) 3 F (aq F F F) ?_);refine jT 10 [4,5] (aa 16 63) ?_;(try (refine Nx.re (d:=47) (v':=Bo false) F (congrArg Value.bool F) ?_));refine jT 6 [8,9,10,12] (aa 16 5951) ?_;(refine jN (aa 16 6015) 6 F ?_);(refine jN (aa 16 8063) 11 F ?_);(refine jN (aa 16 8191) 7 F ?_);(refine jN (aa 16 16383) 13 F ?_);refine jT 1 [14] (aa 16 32767) ?_;(refine jG (aa 16 65535) 15 F (aG F F F) ?_);refine jQ ?_))
     all_goals exact aW (vs,cs,a,cap,sk,sa,scap,q2.drop m3,true,m',tg,G1) ⟨⟨b7 hle hreps,hgl⟩,fun h=>(by cases h),fun _=>hit,⟨by dsimp only;omega,h0,h1⟩,hsk⟩ (by dsimp only;omega) tU rfl sB
    | false =>
     obtain ⟨hra,htot⟩:=hQ2 rfl
     rw [ol hg htz ht hlast hft hra] at hit
     have cx_pr:=mE (G:=G1) u1.tot (Nat.le_refl _) oM hrep
     have hotl:=pd hrep
     by_cases heq : u1.out = cS (al qs) (ae t.fields j)
     ·rw [if_pos heq] at hit
      repeat' (first | refine jR ?_ | (refine ad F ?_ ?_;(focus ((simp [*];done);done))) | (refine aj (am (id:=12) _ (fun _ h=>h) ai ?_);refine jT 13 [0,1,2] (aa 16 7) ?_;(refine jG (aa 16 15) 3 F (aq F F F) ?_);refine jT 10 [4,5] (aa 16 63) ?_;(try (refine Nx.re (d:=47) (v':=Bo true) F (congrArg Value.bool F) ?_));refine jT 6 [8,9,10,12] (aa 16 5951) ?_;(refine jG (aa 16 6015) 6 F (bB F F F F) ?_);(refine jG (aa 16 8063) 11 F (aq F F F) ?_);(refine jA 7 F ?_;(refine ab F F F cx_pr F ?_);refine jS (aa 16 8191) ?_);(refine jA 13 F ?_;(refine ab F F F cx_of F ?_);refine jS (aa 16 16383) ?_);refine jT 1 [14] (aa 16 32767) ?_;(refine jG (aa 16 65535) 15 F (aY F F F) ?_);refine jQ ?_))
      all_goals exact aW (vs,cs,a,cap,sk,sa,scap,q2.drop m3,false,m',tg,G1) ⟨⟨b7 hle hreps,hgl⟩,fun _=>⟨hit,by dsimp only;omega⟩,fun h=>(by cases h),⟨by dsimp only;omega,h0,h1⟩,hsk⟩ (by dsimp only;omega) tU rfl sB
     ·rw [if_neg heq] at hit
      repeat' (first | refine jR ?_ | (refine jo ?_;first | refine jV (ak F F) ?_ | refine jD F F F ?_ | refine ah F ?_ | refine aK F ?_ | refine jF fun _=>?_ | refine bW F F F F F F F F F oM fun _ _=>?_) | refine ac F (ay ‹_›) ?_ | (refine aj (am (id:=12) _ (fun _ h=>h) ai ?_);refine jT 13 [0,1,2] (aa 16 7) ?_;(refine jG (aa 16 15) 3 F (aq F F F) ?_);refine jT 10 [4,5] (aa 16 63) ?_;(try (refine Nx.re (d:=47) (v':=Bo true) F (congrArg Value.bool F) ?_));refine jT 6 [8,9,10,12] (aa 16 5951) ?_;(refine jG (aa 16 6015) 6 F (bB F F F F) ?_);(refine jG (aa 16 8063) 11 F (aq F F F) ?_);(refine jA 7 F ?_;(refine ab F F F cx_pr F ?_);refine jS (aa 16 8191) ?_);(refine jA 13 F ?_;(refine ab F F F cx_of F ?_);refine jS (aa 16 16383) ?_);refine jT 1 [14] (aa 16 32767) ?_;(refine jG (aa 16 65535) 15 F (aY F F F) ?_);refine jQ ?_))
      rename_i y z y1 yc
      rw [hjt] at hit
      refine Nx.sealC (b:=y) fun G2 hG2 hsy=>?_
      have hsl : bj G2 (.slice (some ⟨y,0,none⟩) 1 1) 4 ([c1] : List VC).length (aF cg [c1]):=⟨rfl,.inr ⟨y,0,1,rfl,Nat.le_refl _,hsy⟩⟩
      have hrow : aF cg cs ++ [U8 61,S [],I tg,.slice (some ⟨y,0,none⟩) 1 1] = aF cg (cs ++ [⟨61,[],tg,some ⟨y,0,none⟩,1,1⟩]):=(cj cg cs (⟨61,[],tg,some ⟨y,0,none⟩,1,1⟩ : VC)).symm
      have hr1 : V.rep G2 (.nd 61 [] tg [u1]) (⟨61,[],tg,some ⟨y,0,none⟩,1,1⟩ : VC):=cV (ks:=[u1]) dC oM (fun _=>rfl) rfl hsl ⟨c1,[],rfl,f2 hG2 hrep,rfl⟩
      have hr2 : V.reps G2 (vs ++ [.nd 61 [] tg [u1]]) (cs ++ [⟨61,[],tg,some ⟨y,0,none⟩,1,1⟩]):=hO hr1 (b7 (hle.trans hG2) hreps)
      have hvl : (vs ++ [V.nd 61 [] tg [u1]]).length = vs.length + 1:=by simp
      refine Nx.perm (List.Perm.append_right _ (List.perm_append_comm (l₁:=[_,_,_]) (l₂:=[_,_]))) ?_
      dsimp only [zA,fA]
      rw [hrow]
      exact aW (vs ++ [.nd 61 [] tg [u1]],cs ++ [⟨61,[],tg,some ⟨y,0,none⟩,1,1⟩],some ⟨y1,0,none⟩,yc,sk,sa,scap,q2.drop m3,false,m',tg,G2) ⟨⟨hr2,hgl.trans hG2⟩,fun _=>⟨hit,by dsimp only;omega⟩,fun h=>(by cases h),⟨by dsimp only;omega,h0,h1⟩,hsk⟩ (by dsimp only;omega) tU rfl (by rw [hvl];repeat (first | exact List.Sublist.refl _ | apply List.Sublist.cons_cons | apply List.Sublist.cons))
theorem aby {n r sc : Nat} {qs : List cE} {k s : acA} {d : Int} (hd : d = 12 - (n : Int)) (hn : n ≤ 12) (hU : qp n sc qs) (hS : ScI G sc qs) (hk : aM (al qs) (91 :: k) = true) (hs : s.length ≤ 1000) :
  di acz 92 [Pt r 0,Ag (em (91 :: k))] G [bE r sc s false none 0 0 d] (j6 (rb (al qs) (n + 1) (91 :: k)) r sc s false d):=by
 have hk2:=dt (.inl rfl) hk
 obtain ⟨e1,e2,e3,_⟩:=i1 (c:=91) (k:=k) (.inl rfl)
 have hrd:=uP (ts:=al qs) (n:=n) (k:=k) (s:=s)
 unfold em
 rw [e1,e2,e3]
 have cx_sign:=@iN G 91 (sg k) (bs k) (nm k)
 have cx_ptA : ∀ G,ao acz 134 [Ag [S (91 :: sg k),S (bs k),S (nm k)]] G (· = Ag [S (sg k),S (bs k),S (nm k)]):=fun G=>@oU G 91 (sg k) (bs k) (nm k)
 cases hg : bi s with
 | none =>
  rw [hg] at hrd
  have cx_nb:=fO (G:=G) (r:=r) (sc:=sc) (m:=0) (c:=0) (b:=false) (a:=none) (d:=d + 1) hg hs
  refine cn [(0,_),(1,_)] Tryz.func92 kR Tryz.ntmps92 F F tU fun B hok hB hW=>?_
  repeat' (first | refine jM ?_ | (refine jo ?_;first | refine jO fun _=>?_ | refine jL fun _=>?_ | refine ah F ?_ | refine jD F F F ?_ | refine jV (db F F) ?_))
  rename_i x2 x3 x4
  refine jo ?_
  refine co (fi:=[]) (ca:=[Pt x2 0]) (az:=[]) F F ?_
  repeat' (first | refine jR ?_ | (refine jo ?_;first | refine jL fun _=>?_ | refine ah F ?_ | refine aK F ?_ | refine jC F F F ?_ | refine jV (ak F F) ?_ | refine ab F F F cx_sign F ?_ | (refine af F F F cx_nb F ?_;rintro _ _ ⟨rfl,rfl⟩;dsimp only [zA,fA])) | refine ac F F ?_ | (refine ad F (by first | rfl | (refine decide_eq_false ?_;(omega))) ?_))
  rename_i x5
  refine aR (ι:=Unit) (fun j=>True) (fun j=>[(2,Pt x2 0),(3,Pt x3 0),(4,Pt x4 0),(5,I 0),(6,Pt x5 0),(7,I 0)]) (fun _=>G) (fun j=>[.blk x5 (.cells (List.toArray [U8 91,S [],I 0,aL]) lD (0,0)),bE r sc [] true none 0 0 (d + 1),.blk x4 (.cells (List.toArray [U8 (0 : Nat),S [],I 0,aL]) lD (0,0)),.blk x3 (.cells (List.toArray [S (91 :: sg k),S (bs k),S (nm k)]) qI (0,0)),.blk x2 (.cells (List.toArray [Pt r 0]) fp (0,0))]) (fun j=>0) () ?_ tU F aX (fun j Hj=>?_)
  ·trivial
  repeat' (first | refine jR ?_ | (refine jo ?_;first | refine aK F ?_ | refine jC F F F ?_ | refine av F ?_) | refine an F F F ?_ | refine ad F F ?_)
  all_goals
   refine c0 (.inl F) F (cI (x0:=x2) (r:=r) (sc:=sc) (s:=[]) (b:=true) (a:=none) (n:=0) (c:=0) (d:=d + 1) oM) F ?_
   rintro v G' L' ⟨rfl,rfl⟩
   dsimp only [zA,fA]
   exact ⟨[_],[bE r sc [] true none 0 0 (d + 1 - 1)],⟨aD F F F F,trivial⟩,sB,Gh.le.refl _,cH (c:=⟨91,[],0,none,0,0⟩) (bq dC dC) oM (fun _=>⟨F,F,F⟩) ⟨by simp,fun h=>(by cases h),fun _=>.inr hrd⟩⟩
 | some z =>
  obtain ⟨m,q⟩:=z
  obtain ⟨h1,h2,_⟩:=cx hg
  have hl:=bD hg
  rw [hg] at hrd
  dsimp only at hrd
  have cx_nb:=ec (G:=G) (r:=r) (sc:=sc) (m:=0) (c:=0) (b:=false) (a:=none) (d:=d + 1) hg hs
  by_cases h20 : m ≤ 20
  case neg =>
   rw [if_neg h20] at hrd
   refine cn [(0,_),(1,_)] Tryz.func92 kR Tryz.ntmps92 F F tU fun B hok hB hW=>?_
   repeat' (first | refine jM ?_ | (refine jo ?_;first | refine jO fun _=>?_ | refine jL fun _=>?_ | refine ah F ?_ | refine jD F F F ?_ | refine jV (db F F) ?_))
   rename_i x2 x3 x4
   refine jo ?_
   refine co (fi:=[]) (ca:=[Pt x2 0]) (az:=[]) F F ?_
   repeat' (first | refine jR ?_ | (refine jo ?_;first | refine jL fun _=>?_ | refine ah F ?_ | refine aK F ?_ | refine jD F F F ?_ | refine jC F F F ?_ | refine jV (ak F F) ?_ | refine ab F F F cx_sign F ?_ | (refine af F F F cx_nb F ?_;rintro _ _ ⟨rfl,rfl⟩;dsimp only [zA,fA])) | (refine ac F (by first | rfl | (refine decide_eq_true ?_;(omega))) ?_) | (refine ad F (by first | rfl | (refine decide_eq_false ?_;(omega))) ?_))
   rename_i x5
   refine aR (ι:=Unit) (fun j=>True) (fun j=>[(2,Pt x2 0),(3,Pt x3 0),(4,Pt x4 0),(5,I m),(6,Pt x5 0),(7,I 0)]) (fun _=>G) (fun j=>[.blk x5 (.cells (List.toArray [U8 91,S [],I 0,aL]) lD (0,0)),bE r sc q true none 0 0 (d + 1),.blk x4 (.cells (List.toArray [U8 (0 : Nat),S [],I 0,aL]) lD (0,0)),.blk x3 (.cells (List.toArray [S (91 :: sg k),S (bs k),S (nm k)]) qI (0,0)),.blk x2 (.cells (List.toArray [Pt r 0]) fp (0,0))]) (fun j=>0) () ?_ tU F aX (fun j Hj=>?_)
   ·trivial
   repeat' (first | refine jR ?_ | (refine jo ?_;first | refine ah F ?_ | refine aK F ?_ | refine jC F F F ?_ | refine aH F ?_) | refine aA F F (ay oM) ?_ | refine ad F F ?_)
   all_goals
    refine c0 (.inl F) F (cI (x0:=x2) (r:=r) (sc:=sc) (s:=q) (b:=true) (a:=none) (n:=0) (c:=0) (d:=d + 1) oM) F ?_
    rintro v G' L' ⟨rfl,rfl⟩
    dsimp only [zA,fA]
    exact ⟨[_],[bE r sc q true none 0 0 (d + 1 - 1)],⟨aD F F F F,trivial⟩,sB,Gh.le.refl _,cH (c:=⟨91,[],0,none,0,0⟩) (bq dC dC) oM (fun _=>⟨F,F,F⟩) ⟨oM,fun h=>(by cases h),fun _=>.inr hrd⟩⟩
  rw [if_pos h20] at hrd
  obtain ⟨m,rfl⟩ : ∃ m' : Nat,m = (m' : Int):=⟨m.toNat,oM⟩
  rw [Int.toNat_natCast] at hrd
  refine cn [(0,_),(1,_)] Tryz.func92 kR Tryz.ntmps92 F F tU fun B hok hB hW=>?_
  repeat' (first | refine jM ?_ | (refine jo ?_;first | refine jO fun _=>?_ | refine jL fun _=>?_ | refine ah F ?_ | refine jD F F F ?_ | refine jV (db F F) ?_))
  rename_i x2 x3 x4
  refine jo ?_
  refine co (fi:=[]) (ca:=[Pt x2 0]) (az:=[]) F F ?_
  repeat' (first | refine jR ?_ | (refine jo ?_;first | refine jL fun _=>?_ | refine ah F ?_ | refine aK F ?_ | refine jC F F F ?_ | refine jV (ak F F) ?_ | refine ab F F F cx_sign F ?_ | (refine af F F F cx_nb F ?_;rintro _ _ ⟨rfl,rfl⟩;dsimp only [zA,fA])) | refine ac F F ?_ | (refine ad F (by first | rfl | (refine decide_eq_false ?_;(omega))) ?_))
  rename_i x5
  refine Nx.addNil lD 4 (Nx.perm (List.Perm.cons _ (List.Perm.swap _ _ _)) ?_)
  refine aR (ι:=List V × List VC × Option Addr × Nat × acA × Bool × Gh) (fun y=>(V.reps y.2.2.2.2.2.2 y.1 y.2.1 ∧ Gh.le G y.2.2.2.2.2.2) ∧ (y.2.2.2.2.2.1 = false → bA (rb (al qs) n k) m q [] = bA (rb (al qs) n k) (m - y.1.length) y.2.2.2.2.1 y.1) ∧ (y.2.2.2.2.2.1 = true → bA (rb (al qs) n k) m q [] = none) ∧ (y.1.length ≤ m ∧ y.2.2.2.2.1.length ≤ q.length)) (fun y=>[(2,Pt x2 0),(3,Pt x3 0),(4,Pt x4 0),(5,I (m : Nat)),(6,Pt x5 0),(7,I (y.1.length : Nat))]) (fun y=>y.2.2.2.2.2.2) (fun y=>[.acc (.slice y.2.2.1 y.1.length y.2.2.2.1) lD 4 y.1.length (aF cg y.2.1),bE r sc y.2.2.2.2.1 y.2.2.2.2.2.1 none 0 0 (d + 1),.blk x5 (.cells (List.toArray [U8 91,S [],I 0,.slice y.2.2.1 y.1.length y.2.2.2.1]) lD (0,0)),.blk x4 (.cells (List.toArray [U8 (0 : Nat),S [],I 0,aL]) lD (0,0)),.blk x3 (.cells (List.toArray [S (91 :: sg k),S (bs k),S (nm k)]) qI (0,0)),.blk x2 (.cells (List.toArray [Pt r 0]) fp (0,0))]) (fun y=>m - y.1.length) ([],[],none,0,q,false,G) ?_ tU F aX (fun y Hy=>?_)
  ·exact ⟨⟨F,Gh.le.refl _⟩,fun _=>rfl,fun h=>(by cases h),Nat.zero_le _,Nat.le_refl _⟩
  obtain ⟨vs,cs,a,cap,t,b,Gq⟩:=y
  dsimp only at Hy ⊢
  obtain ⟨⟨hreps,hgq⟩,hI0,hI1,hlm,htl'⟩:=Hy
  have hcl:=gH hreps
  by_cases hi : b = false ∧ vs.length < m
  case neg =>
   have hres : r9 (rb (al qs) (n + 1) (91 :: k)) s false (.nd 91 [] 0 vs) t b:=by
    refine ⟨oM,fun h=>⟨F,?_⟩,fun h=>.inr ?_⟩
    ·have h2:=hI0 h
     have h9 : ¬ vs.length < m:=fun h3=>hi ⟨h,h3⟩
     have e0 : m - vs.length = 0:=oM
     rw [e0,bA] at h2
     rw [hrd,h2];rfl
    ·rw [hrd,hI1 h];rfl
   cases b with
   | true =>
    repeat' (first | refine jR ?_ | (refine jo ?_;first | refine ah F ?_ | refine aK F ?_ | refine jC F F F ?_ | refine aH F ?_ | refine av F ?_) | refine dF F F (fun _=>?_) (fun _=>?_) | refine ad F F ?_)
    all_goals
     refine Nx.sealS (v:=.slice a vs.length cap) fun G2 hG2 hsl=>?_
     refine c0 (.inl F) F (cI (x0:=x2) (r:=r) (sc:=sc) (s:=t) (b:=true) (a:=none) (n:=0) (c:=0) (d:=d + 1) oM) F ?_
     rintro v G' L' ⟨rfl,rfl⟩
     dsimp only [zA,fA]
     exact ⟨[_],[bE r sc t true none 0 0 (d + 1 - 1)],⟨aD F F F F,trivial⟩,sB,(hgq.trans hG2),cH (c:=⟨91,[],0,a,vs.length,cap⟩) (cV dC dC (fun h=>absurd h dC) F (by rw [hcl];exact hsl) (b7 hG2 hreps)) oM (fun _=>⟨F,F,F⟩) hres⟩
   | false =>
    have hi2 : ¬ vs.length < m:=fun h=>hi ⟨rfl,h⟩
    repeat' (first | refine jR ?_ | (refine jo ?_;first | refine aK F ?_ | refine jC F F F ?_ | refine av F ?_) | refine an F F (aB oM) ?_ | refine ad F F ?_)
    all_goals
     refine Nx.sealS (v:=.slice a vs.length cap) fun G2 hG2 hsl=>?_
     refine c0 (.inl F) F (cI (x0:=x2) (r:=r) (sc:=sc) (s:=t) (b:=false) (a:=none) (n:=0) (c:=0) (d:=d + 1) oM) F ?_
     rintro v G' L' ⟨rfl,rfl⟩
     dsimp only [zA,fA]
     exact ⟨[_],[bE r sc t false none 0 0 (d + 1 - 1)],⟨aD F F F F,trivial⟩,sB,(hgq.trans hG2),cH (c:=⟨91,[],0,a,vs.length,cap⟩) (cV dC dC (fun h=>absurd h dC) F (by rw [hcl];exact hsl) (b7 hG2 hreps)) oM (fun _=>⟨F,F,F⟩) hres⟩
  obtain ⟨rfl,hi2⟩:=hi
  have hit:=hI0 rfl
  clear hI0 hI1
  obtain ⟨m',hm'⟩ : ∃ m',m - vs.length = m' + 1:=⟨m - vs.length - 1,oM⟩
  rw [hm'] at hit
  have cx_vl:=v6 (r:=r) (d:=d + 1) oM oM (hU Gq r k t false (hS.mono hgq) hk2 oM)
  have cx_pt:=cx_ptA Gq
  repeat' (first | refine jR ?_ | (refine jo ?_;first | refine ah F ?_ | refine aH F ?_) | refine aA F F (ay oM) ?_ | refine ac F F ?_)
  (refine aj (am (id:=16) [.blk x3 (.cells (List.toArray [S (91 :: sg k),S (bs k),S (nm k)]) qI (0,0)),.blk x2 (.cells (List.toArray [Pt r 0]) fp (0,0))] (by intro y hy;simp only [List.mem_cons,List.not_mem_nil,or_false] at hy ⊢;rcases hy with hy | hy <;> simp [hy]) ai ?_);refine jW 9 [0] (aa 10 1) ?_;(refine jG (aa 10 5) 2 F (aq F F F) ?_);(refine jG (aa 10 13) 3 F (bB F F F F) ?_);refine cl [1,4] kR dC ⟨?_,?_,trivial⟩;(focus (refine bc F F ?_;(refine ah F ?_);refine jK (aa 10 15) ?_;refine jA 4 F ?_;(refine ab F F F cx_pt F ?_);refine jK (aa 10 31) ?_;refine jA 5 F ?_;(refine cP F F F cx_vl F ?_;rintro _ G1 _ hle ⟨u1,c1,t1,b1,rfl,hrep,rfl,hP⟩;dsimp only [zA,fA];skip);refine jK (aa 10 63) ?_;refine jA 6 F ?_;(refine jF fun _=>?_);refine jK (aa 10 127) ?_;refine jA 7 F ?_;((refine bW F F F F F F F F F ?_ fun _ _=>?_;focus omega));refine jK (aa 10 255) ?_;refine jW 1 [8] (aa 10 511) ?_;refine jA 9 F ?_;(refine jD F F F ?_);refine jK (aa 10 1023) ?_;refine jQ ?_));rotate_left 1;(focus (refine bc F F ?_;(refine ab F F F cx_pt F ?_);refine jK (aa 10 29) ?_;refine cl [1,5] kR dC ⟨?_,?_,trivial⟩;(focus (refine bc F F ?_;(refine ah F ?_);refine jK (aa 10 31) ?_;refine jA 5 F ?_;(refine cP F F F cx_vl F ?_;rintro _ G1 _ hle ⟨u1,c1,t1,b1,rfl,hrep,rfl,hP⟩;dsimp only [zA,fA];skip);refine jK (aa 10 63) ?_;refine jA 6 F ?_;(refine jF fun _=>?_);refine jK (aa 10 127) ?_;refine jA 7 F ?_;((refine bW F F F F F F F F F ?_ fun _ _=>?_;focus omega));refine jK (aa 10 255) ?_;refine jW 1 [8] (aa 10 511) ?_;refine jA 9 F ?_;(refine jD F F F ?_);refine jK (aa 10 1023) ?_;refine jQ ?_));rotate_left 1;(focus (refine bc F F ?_;(refine cP F F F cx_vl F ?_;rintro _ G1 _ hle ⟨u1,c1,t1,b1,rfl,hrep,rfl,hP⟩;dsimp only [zA,fA];skip);refine jK (aa 10 61) ?_;refine cl [1,6] kR dC ⟨?_,?_,trivial⟩;(focus (refine bc F F ?_;(refine ah F ?_);refine jK (aa 10 63) ?_;refine jA 6 F ?_;(refine jF fun _=>?_);refine jK (aa 10 127) ?_;refine jA 7 F ?_;((refine bW F F F F F F F F F ?_ fun _ _=>?_;focus omega));refine jK (aa 10 255) ?_;refine jW 1 [8] (aa 10 511) ?_;refine jA 9 F ?_;(refine jD F F F ?_);refine jK (aa 10 1023) ?_;refine jQ ?_));rotate_left 1;(focus (refine bc F F ?_;(refine jF fun _=>?_);refine jK (aa 10 125) ?_;refine jA 1 F ?_;(refine ah F ?_);refine jK (aa 10 127) ?_;refine jA 7 F ?_;((refine bW F F F F F F F F F ?_ fun _ _=>?_;focus omega));refine jK (aa 10 255) ?_;refine jW 1 [8] (aa 10 511) ?_;refine jA 9 F ?_;(refine jD F F F ?_);refine jK (aa 10 1023) ?_;refine jQ ?_));rotate_left 1));rotate_left 2));rotate_left 3)
  all_goals
   rename_i y1 yc
   have hrow : aF cg cs ++ [U8 (c1.what : Nat),S c1.text,I c1.tag,c1.sl] = aF cg (cs ++ [c1]):=(cj cg cs c1).symm
   have hr2 : V.reps G1 (vs ++ [u1]) (cs ++ [c1]):=hO hrep (b7 hle hreps)
   have hvl : (vs ++ [u1]).length = vs.length + 1:=by simp
   have hgl:=hgq.trans hle
   obtain ⟨hQ1,hQ2,hQ3⟩:=kp hP
   rw [hrow]
   have hm2 : m - (vs ++ [u1]).length = m':=by rw [hvl];omega
   have hno1 : b1 = true → bA (rb (al qs) n k) m q [] = none:=fun h=>by rw [hit,oh (hQ3 h)]
   have hyes1 : b1 = false → bA (rb (al qs) n k) m q [] = bA (rb (al qs) n k) (m - (vs ++ [u1]).length) t1 (vs ++ [u1]):=fun h2=>by rw [hit,lO (hQ2 h2).1,hm2]
   repeat' (refine jM ?_)
   refine Nx.re (d:=7) (v':=I ((vs ++ [u1]).length : Nat)) F (congrArg (Value.int .i64) (by rw [hvl];omega)) ?_
   exact aW (vs ++ [u1],cs ++ [c1],some ⟨y1,0,none⟩,yc,t1,b1,G1) ⟨⟨hr2,hgl⟩,hyes1,hno1,by dsimp only;omega,by dsimp only;omega⟩ (by dsimp only;omega) tU rfl (by rw [hvl];repeat (first | exact List.Sublist.refl _ | apply List.Sublist.cons_cons | apply List.Sublist.cons))
theorem abw {n r sc : Nat} {qs : List cE} {k s : acA} {d : Int} (hd : d = 12 - (n : Int)) (hn : n ≤ 12) (hU : qp n sc qs) (hS : ScI G sc qs) (hk : aM (al qs) (63 :: k) = true) (hs : s.length ≤ 1000) :
  di acz 92 [Pt r 0,Ag (em (63 :: k))] G [bE r sc s false none 0 0 d] (j6 (rb (al qs) (n + 1) (63 :: k)) r sc s false d):=by
 have hk2:=dt (.inr rfl) hk
 obtain ⟨e1,e2,e3,_⟩:=i1 (c:=63) (k:=k) (.inr rfl)
 have hrd:=uO (ts:=al qs) (n:=n) (k:=k) (s:=s)
 unfold em
 rw [e1,e2,e3]
 have cx_sign:=@iN G 63 (sg k) (bs k) (nm k)
 have cx_pt:=@oU G 63 (sg k) (bs k) (nm k)
 cases hf : cq s with
 | none =>
  rw [hf] at hrd
  have cx_fl:=rQ (G:=G) (r:=r) (sc:=sc) (n:=0) (c:=0) (s:=s) (b:=false) (a:=none) (d:=d + 1) (.inr hf) oM
  refine cn [(0,_),(1,_)] Tryz.func92 kR Tryz.ntmps92 F F tU fun B hok hB hW=>?_
  repeat' (first | refine jM ?_ | (refine jo ?_;first | refine jO fun _=>?_ | refine jL fun _=>?_ | refine ah F ?_ | refine jD F F F ?_ | refine jV (db F F) ?_))
  rename_i x2 x3 x4
  refine jo ?_
  refine co (fi:=[]) (ca:=[Pt x2 0]) (az:=[]) F F ?_
  repeat' (first | refine jR ?_ | (refine jo ?_;first | refine ah F ?_ | refine aK F ?_ | refine jC F F F ?_ | refine jV (ak F F) ?_ | refine ab F F F cx_sign F ?_ | (refine af F F F cx_fl F ?_;rintro _ _ ⟨q1,⟨rfl,hql⟩,rfl⟩;dsimp only [zA,fA])) | refine ac F F ?_ | (refine ad F (by first | rfl | (refine decide_eq_false ?_;(omega))) ?_))
  all_goals
   refine c0 (.inl F) F (cI (x0:=x2) (r:=r) (sc:=sc) (s:=q1) (b:=true) (a:=none) (n:=0) (c:=0) (d:=d + 1) oM) F ?_
   rintro v G' L' ⟨rfl,rfl⟩
   dsimp only [zA,fA]
   exact ⟨[_],[bE r sc q1 true none 0 0 (d + 1 - 1)],⟨aD F F F F,trivial⟩,sB,Gh.le.refl _,cH (c:=⟨63,[],0,none,0,0⟩) (bq dC dC) oM (fun _=>⟨F,F,F⟩) ⟨hql,fun h=>(by cases h),fun _=>.inr hrd⟩⟩
 | some y =>
  obtain ⟨x,q⟩:=y
  rw [hf] at hrd
  have hin:=eU hf
  have hl : s.length = q.length + 1:=by rw [hin];rfl
  have cx_fl:=rP (G:=G) (r:=r) (sc:=sc) (n:=0) (c:=0) (s:=s) (q:=q) (x:=x) (a:=none) (d:=d + 1) hf oM
  cases x with
  | false =>
   refine cn [(0,_),(1,_)] Tryz.func92 kR Tryz.ntmps92 F F tU fun B hok hB hW=>?_
   repeat' (first | refine jM ?_ | (refine jo ?_;first | refine jO fun _=>?_ | refine jL fun _=>?_ | refine ah F ?_ | refine jD F F F ?_ | refine jV (db F F) ?_))
   rename_i x2 x3 x4
   refine jo ?_
   refine co (fi:=[]) (ca:=[Pt x2 0]) (az:=[]) F F ?_
   repeat' (first | refine jR ?_ | (refine jo ?_;first | refine ah F ?_ | refine aK F ?_ | refine jC F F F ?_ | refine jV (ak F F) ?_ | refine ab F F F cx_sign F ?_ | (refine af F F F cx_fl F ?_;rintro _ _ ⟨rfl,rfl⟩;dsimp only [zA,fA])) | refine ac F F ?_ | (refine ad F (by first | rfl | (refine decide_eq_false ?_;(omega))) ?_))
   all_goals
    refine c0 (.inl F) F (cI (x0:=x2) (r:=r) (sc:=sc) (s:=q) (b:=false) (a:=none) (n:=0) (c:=0) (d:=d + 1) oM) F ?_
    rintro v G' L' ⟨rfl,rfl⟩
    dsimp only [zA,fA]
    exact ⟨[_],[bE r sc q false none 0 0 (d + 1 - 1)],⟨aD F F F F,trivial⟩,sB,Gh.le.refl _,cH (c:=⟨63,[],0,none,0,0⟩) (bq dC dC) oM (fun _=>⟨F,F,F⟩) ⟨oM,fun _=>⟨F,hrd⟩,fun h=>(by cases h)⟩⟩
  | true =>
   dsimp only at hrd
   have cx_vl:=v6 (r:=r) (d:=d + 1) oM oM (hU G r k q false hS hk2 oM)
   refine cn [(0,_),(1,_)] Tryz.func92 kR Tryz.ntmps92 F F tU fun B hok hB hW=>?_
   repeat' (first | refine jM ?_ | (refine jo ?_;first | refine jO fun _=>?_ | refine jL fun _=>?_ | refine ah F ?_ | refine jD F F F ?_ | refine jV (db F F) ?_))
   rename_i x2 x3 x4
   refine jo ?_
   refine co (fi:=[]) (ca:=[Pt x2 0]) (az:=[]) F F ?_
   repeat' (first | refine jR ?_ | (refine jo ?_;first | refine ah F ?_ | refine aK F ?_ | refine ab F F F cx_sign F ?_ | (refine af F F F cx_fl F ?_;rintro _ _ ⟨rfl,rfl⟩;dsimp only [zA,fA])) | refine ac F F ?_ | (refine ad F (by first | rfl | (refine decide_eq_false ?_;(omega))) ?_))
   (refine aj (am (id:=21) [.blk x3 (.cells (List.toArray [S (63 :: sg k),S (bs k),S (nm k)]) qI (0,0)),.blk x2 (.cells (List.toArray [Pt r 0]) fp (0,0))] (by intro y hy;simp only [List.mem_cons,List.not_mem_nil,or_false] at hy ⊢;rcases hy with hy | hy <;> simp [hy]) ai ?_);(refine jG (aa 7 1) 0 F (aq F F F) ?_);(refine jG (aa 7 3) 1 F (bB F F F F) ?_);refine jA 2 F ?_;(refine ab F F F cx_pt F ?_);refine jK (aa 7 7) ?_;refine jA 3 F ?_;(refine cP F F F cx_vl F ?_;rintro _ G1 _ hle ⟨u1,c1,t1,b1,rfl,hrep,rfl,hP⟩;dsimp only [zA,fA];skip);refine jK (aa 7 15) ?_;refine jA 4 F ?_;(refine jF fun _=>?_);refine jK (aa 7 31) ?_;(refine jG (aa 7 63) 5 F (ak F F) ?_);refine jA 6 F ?_;(refine jC F F F ?_);refine jK (aa 7 127) ?_;refine jQ ?_)
   all_goals repeat' (refine jR ?_)
   rename_i y
   refine Nx.sealC (b:=y) fun G2 hG2 hsy=>?_
   have hsl : bj G2 (.slice (some ⟨y,0,none⟩) 1 1) 4 ([c1] : List VC).length (aF cg [c1]):=⟨rfl,.inr ⟨y,0,1,rfl,Nat.le_refl _,hsy⟩⟩
   obtain ⟨hQ1,hQ2,hQ3⟩:=kp hP
   refine c0 (.inl F) F (cI (x0:=x2) (r:=r) (sc:=sc) (s:=t1) (b:=b1) (a:=none) (n:=0) (c:=0) (d:=d + 1) oM) F ?_
   rintro v G' L' ⟨rfl,rfl⟩
   dsimp only [zA,fA]
   exact ⟨[_],[bE r sc t1 b1 none 0 0 (d + 1 - 1)],⟨aD F F F F,trivial⟩,sB,(hle.trans hG2),cH (c:=⟨63,[],0,some ⟨y,0,none⟩,1,1⟩) (cV (ks:=[u1]) dC dC (fun h=>absurd h dC) F hsl ⟨_,[],F,f2 hG2 hrep,F⟩) oM (fun _=>⟨F,F,F⟩) ⟨oM,fun h=>⟨F,by rw [hrd,(hQ2 h).1];rfl⟩,fun h=>.inr (by rw [hrd,hQ3 h];rfl)⟩⟩
theorem abv {n r sc p : Nat} {qs : List cE} {t : Ty} {x s : acA} {d : Int} (hd : d = 12 - (n : Int)) (hn : n ≤ 12) (hU : qp n sc qs) (hS : ScI G sc qs) (hW0 : SchW (al qs)) (hkv : lz (gq qs) x = some (Pt p 0)) (hT : im G p t) (hw : TyW t) (hkf : ∀ d ∈ t.fields,aM (al qs) d.kind = true) (hso : t.sort = 82) (hs : s.length ≤ 1000) :
  di acz 92 [Pt r 0,Ag [S [],S [64],S x]] G [bE r sc s false none 0 0 d] (j6 (bX (al qs) (rb (al qs) n) t) r sc s false d):=by
 obtain ⟨u,m2,g1,g2,g3⟩:=hS.at'
 have hso' : (t.sort : Int) = 82:=oM
 have cx_sign:=@dx G [64] x
 have cx_rcd:=aau (G:=G) (r:=r) (s:=s) (d:=d + 1) oM hn hU hS hW0 hT hw hkf hs
 have hrd : bX (al qs) (rb (al qs) n) t = fun s=>(bJ (al qs) (rb (al qs) n) t (s.length + 1) 0 s []).map fun x=>(.nd 82 [] 0 x.1,x.2):=by
  funext s
  unfold bX;rw [if_pos hso]
 rw [hrd]
 obtain ⟨fv,ln,h1,h2⟩:=hT
 refine cn [(0,_),(1,_)] Tryz.func92 kR Tryz.ntmps92 F F tU fun B hok hB hW=>?_
 repeat' (first | refine jM ?_ | (refine jo ?_;first | refine jO fun _=>?_ | refine jL fun _=>?_ | refine ah F ?_ | refine jD F F F ?_ | refine jV (db F F) ?_))
 rename_i x2 x3 x4
 refine jo ?_
 refine co (fi:=[]) (ca:=[Pt x2 0]) (az:=[]) F F ?_
 repeat' (first | refine jR ?_ | (refine jo ?_;first | refine ah F ?_ | refine aK F ?_ | refine ab F F F cx_sign F ?_) | (refine ad F (by first | rfl | (refine decide_eq_false ?_;(omega))) ?_))
 (refine aj (am (id:=34) _ (fun _ h=>h) ai ?_);refine jT 10 [7] (aa 11 128) ?_;(refine jG (aa 11 129) 0 F (aq F F F) ?_);refine jT 7 [1,2] (aa 11 135) ?_;(refine jG (aa 11 143) 3 F (aq F F F) ?_);refine jT 4 [4,5] (aa 11 191) ?_;(refine jG (aa 11 255) 6 F (aJ F F aS F F) ?_);(refine jG (aa 11 511) 8 F (aq F F F) ?_);((refine jG (aa 11 1023) 9 F (cF F F (eG aS) aS F) ?_));refine jT 0 [10] (aa 11 2047) ?_;refine jQ ?_)
 all_goals repeat' (first | refine jR ?_ | (refine jo ?_;first | refine ah F ?_ | refine jV (aJ F F aS F F) ?_ | refine jC F F F ?_ | (refine cP F F F cx_rcd F ?_;rintro _ G1 _ hle ⟨u1,c1,t1,b1,a1,n1,k1,rfl,hrep,rfl,hsk,hP⟩;dsimp only [zA,fA];skip)) | refine ad F (aB oM) ?_)
 all_goals
  refine c0 (.inl F) F (cI (x0:=x2) (r:=r) (sc:=sc) (s:=t1) (b:=b1) (a:=a1) (n:=n1) (c:=k1) (d:=d + 1) oM) F ?_
  rintro v G' L' ⟨rfl,rfl⟩
  dsimp only [zA,fA]
  exact ⟨[_],[bE r sc t1 b1 a1 n1 k1 (d + 1 - 1)],⟨aD F F F F,trivial⟩,sB,hle,cH (c:=c1) hrep oM (fun h=>hsk oM) hP⟩
theorem abB {n r sc : Nat} {qs : List cE} {c : UInt8} {k s : acA} {t : Ty} {d : Int} (h91 : ¬ (c.toNat = 91 ∨ c.toNat = 63)) (hd : d = 12 - (n : Int)) (hn : n ≤ 12) (hU : qp n sc qs) (hS : ScI G sc qs) (hw : SchW (al qs)) (hk : aM (al qs) (c :: k) = true) (hrf : aZ (al qs) (c :: k) = some t) (hs : s.length ≤ 1000) :
  di acz 92 [Pt r 0,Ag (em (c :: k))] G [bE r sc s false none 0 0 d] (j6 (rb (al qs) (n + 1) (c :: k)) r sc s false d):=by
 have hko:=cZ hk
 have hsg:=mo (r:=k) h91
 have hcs:=fy (r:=k) h91
 have hrn : (bG (br (c :: k))).isSome = true:=by
  rw [hcs];unfold aZ at hrf
  cases hx : bG (c :: k) with
  | none=>rw [hx] at hrf;cases hrf
  | some x=>rfl
 have hbs : bs (c :: k) = [64]:=(mH hko).2 hrn
 have hnm : bG (c :: k) = some (nm (c :: k)):=by
  unfold nm;rw [hcs] at hrn ⊢
  cases hx : bG (c :: k) with
  | none=>rw [hx] at hrn;cases hrn
  | some x=>rfl
 have hft : gw (al qs) (nm (c :: k)) = some t:=by unfold aZ at hrf;rw [hnm] at hrf;exact hrf
 have hkv:=gN qs (nm (c :: k))
 rw [← gR] at hft
 rcases hfq : eH qs (nm (c :: k)) with _ | ⟨p,t'⟩
 ·rw [hfq] at hft;cases hft
 rw [hfq] at hft hkv
 dsimp only [Option.map_some] at hft hkv
 have htt : t' = t:=Option.some.inj hft
 subst htt
 have hqm:=ic hfq
 have htm:=ce hrf
 have hW:=hw.ty t' htm
 have hT : im G p t':=hS.ty _ hqm
 have hrd : rb (al qs) (n + 1) (c :: k) = bX (al qs) (rb (al qs) n) t':=by
  funext s
  rw [rb];unfold fj
  dsimp only
  rw [if_neg (fun h=>h91 (.inl h)),if_neg (fun h=>h91 (.inr h)),hrf]
 unfold em
 rw [hsg,hbs,hrd]
 rcases hW.sort with h | h | h
 ·exact abv hd hn hU hS hw hkv hT hW (fun d hd=>dP hw htm oM hd) h hs
 ·exact abt hd hn hU hS hkv hT hW (fun d hd=>dP hw htm oM hd) h hs
 ·exact abA hd hn hS hkv hT hW h hs
theorem o7 {sc : Nat} {qs : List cE} (hw : SchW (al qs)) : ∀ n,n ≤ 13 → qp n sc qs
 | 0,_=>fun G r k s b _ _ hs=>td (.inr rfl) hs oM
 | n + 1,hn=>fun G r k s b hS hk hs=>by
  have hU:=o7 (sc:=sc) hw n oM
  have ed : (13 : Int) - ((n + 1 : Nat) : Int) = 12 - (n : Int):=oM
  cases b with
  | true=>exact td (.inl F) hs hn
  | false =>
   match k,hk with
   | [],hk=>cases hk
   | c :: k,hk =>
    by_cases h1 : c.toNat = 91
    ·obtain rfl:=bm h1 dC
     exact aby ed oM hU hS hk hs
    by_cases h2 : c.toNat = 63
    ·obtain rfl:=bm h2 dC
     exact abw ed oM hU hS hk hs
    have h91 : ¬ (c.toNat = 91 ∨ c.toNat = 63):=fun h=>by rcases h with h | h <;> omega
    cases hr : aZ (al qs) (c :: k) with
    | some t=>exact abB h91 ed oM hU hS hw hk hr hs
    | none =>
     rcases eB hk h91 hr with e | e | e
     ·rw [e] at hr ⊢;exact abx ed oM hr hs
     ·rw [e] at hr ⊢;exact abu ed oM hr hs
     ·rw [e] at hr ⊢;exact abz ed oM hr hs
theorem vO {v : V} {c : VC} (h : V.rep G v c) (ht : v.tot ≤ 1000000) : ao acz 93 [Ag (cg c)] G (· = Bo (decide (v.out.length ≤ 400 ∧ v.deep ≤ 12))):=by
 have cx_pr:=mE (G:=G) v.tot (Nat.le_refl _) ht h
 have cx_dp:=vQ (G:=G) v.tot (Nat.le_refl _) ht h
 have hdl:=nC v
 obtain ⟨w,tx,tg,a,m,kc⟩:=c
 have e0 : cg ⟨w,tx,tg,a,m,kc⟩ = [U8 (w : Nat),S tx,I tg,.slice a m kc]:=rfl
 rw [e0] at cx_pr cx_dp ⊢
 by_cases h1 : v.out.length ≤ 400
 ·by_cases h2 : v.deep ≤ 12
  ·rw [decide_eq_true (p:=v.out.length ≤ 400 ∧ v.deep ≤ 12) ⟨h1,h2⟩]
   refine jE [(0,_)] Tryz.func93 Tryz.ntmps93 fun B hB=>?_
   repeat' (first | refine jR ?_ | (refine jo ?_;first | refine jO fun _=>?_ | refine aK F ?_ | refine aH F ?_ | refine ab F F F cx_pr F ?_ | refine ab F F F cx_dp F ?_) | refine aA F F (ay oM) ?_)
   all_goals refine jY (vs:=[_]) ?_
   all_goals (rw [ax,decide_eq_true oM])
  ·rw [decide_eq_false (p:=v.out.length ≤ 400 ∧ v.deep ≤ 12) (fun h=>h2 h.2)]
   refine jE [(0,_)] Tryz.func93 Tryz.ntmps93 fun B hB=>?_
   repeat' (first | refine jR ?_ | (refine jo ?_;first | refine jO fun _=>?_ | refine aK F ?_ | refine aH F ?_ | refine ab F F F cx_pr F ?_ | refine ab F F F cx_dp F ?_) | refine aA F F (ay oM) ?_)
   all_goals refine jY (vs:=[_]) ?_
   all_goals (rw [ax,decide_eq_false oM])
 ·rw [decide_eq_false (p:=v.out.length ≤ 400 ∧ v.deep ≤ 12) (fun h=>h1 h.1)]
  refine jE [(0,_)] Tryz.func93 Tryz.ntmps93 fun B hB=>?_
  repeat' (first | refine jR ?_ | (refine jo ?_;first | refine jO fun _=>?_ | refine aK F ?_ | refine av F ?_ | refine ab F F F cx_pr F ?_) | refine an F F (aB oM) ?_)
  all_goals refine jY (vs:=[_]) ?_
  all_goals rfl
theorem wR {sc : Nat} {qs : List cE} {k b : acA} (hS : ScI G sc qs) (hw : SchW (al qs)) (hk : aM (al qs) k = true) (hb : b.length ≤ 1048576) (hno : ¬ (b.length ≤ 600 ∧ ∃ v,cM (rb (al qs) 13) k b = some v ∧ v.out.length ≤ 400 ∧ v.deep ≤ 12)) :
  bo acz 51 [Pt sc 0,Ag [S (sg k),S (bs k),S (nm k)],S b] G (fun v _=>∃ a n c,v = Tu [Ag [U8 (0 : Nat),S [],I 0,aL],.slice a n c,Bo false]):=by
 by_cases hl : b.length ≤ 600
 case neg =>
  refine jB [(0,_),(1,_),(2,_)] Tryz.func51 Tryz.ntmps51 fun B hok hB hW=>?_
  repeat' (first | refine jR ?_ | (refine jo ?_;first | refine jO fun _=>?_ | refine jL fun _=>?_ | refine jV (ak F F) ?_ | refine jC F F F ?_) | refine ac F (ay oM) ?_)
  all_goals refine jZ (vs:=[_,_,_]) F ⟨aD F F F F,F,F,trivial⟩ F ⟨Gh.le.refl _,F,?_⟩
  all_goals exact ⟨_,_,_,F⟩
 refine jB [(0,_),(1,_),(2,_)] Tryz.func51 Tryz.ntmps51 fun B hok hB hW=>?_
 repeat' (first | refine jR ?_ | (refine jo ?_;first | refine jO fun _=>?_ | refine jL fun _=>?_ | refine jV (ak F F) ?_ | refine aK F ?_) | refine ad F (aB oM) ?_)
 rename_i x4 x6 y
 have hv:=o7 (sc:=sc) hw 13 (Nat.le_refl _) G y k b false hS hk oM
 rw [show (13 : Int) - ((13 : Nat) : Int) = 0 from rfl] at hv
 refine jo ?_
 refine cP F F F hv F ?_
 rintro _ G1 _ hle ⟨u1,c1,t1,b1,a1,n1,k1,rfl,hrep,rfl,hsk,hP⟩
 dsimp only [zA,fA]
 obtain ⟨hQ1,hQ2,hQ3⟩:=kp hP
 clear hv hP
 cases b1 with
 | true =>
  repeat' (first | refine jR ?_ | (refine jo ?_;first | refine jL fun _=>?_ | refine jV (ak F F) ?_ | refine jC F F F ?_ | refine ah F ?_ | refine aH F ?_) | refine aA F F F ?_ | refine ac F F ?_)
  all_goals refine jZ (vs:=[_,_,_]) F ⟨aD F F F F,F,F,trivial⟩ F ⟨hle,F,?_⟩
  all_goals exact ⟨_,_,_,F⟩
 | false =>
  obtain ⟨h1,h2,h3⟩:=hQ2 rfl
  cases t1 with
  | cons e t1 =>
   repeat' (first | refine jR ?_ | (refine jo ?_;first | refine jL fun _=>?_ | refine jV (ak F F) ?_ | refine jC F F F ?_ | refine ah F ?_ | refine aH F ?_ | refine av F ?_) | refine aA F F F ?_ | refine an F F F ?_ | refine ac F F ?_)
   all_goals refine jZ (vs:=[_,_,_]) F ⟨aD F F F F,F,F,trivial⟩ F ⟨hle,F,?_⟩
   all_goals exact ⟨_,_,_,F⟩
  | nil =>
   simp only [List.length_nil] at h2
   have hnf : ¬ (u1.out.length ≤ 400 ∧ u1.deep ≤ 12):=fun h=>hno ⟨hl,u1,f3 h1,h⟩
   have cx_fit:=vO hrep oM
   rw [decide_eq_false hnf] at cx_fit
   simp only [cg,VC.sl] at cx_fit
   dsimp only [cg,VC.sl]
   repeat' (first | refine jR ?_ | (refine jo ?_;first | refine jL fun _=>?_ | refine jV (ak F F) ?_ | refine jC F F F ?_ | refine ah F ?_ | refine aK F ?_ | refine av F ?_ | refine ab F F F cx_fit F ?_) | refine an F F F ?_ | refine ac F F ?_)
   all_goals refine jZ (vs:=[_,_,_]) F ⟨aD F F F F,F,F,trivial⟩ F ⟨hle,F,?_⟩
   all_goals exact ⟨_,_,_,F⟩
theorem wQ {sc : Nat} {qs : List cE} {k b : acA} {v : V} (hS : ScI G sc qs) (hw : SchW (al qs)) (hk : aM (al qs) k = true) (hl : b.length ≤ 600) (hv : cM (rb (al qs) 13) k b = some v) (ho : v.out.length ≤ 400) (hd : v.deep ≤ 12) :
  bo acz 51 [Pt sc 0,Ag [S (sg k),S (bs k),S (nm k)],S b] G (fun r G'=>∃ c a n k',r = Tu [Ag (cg c),.slice a n k',Bo true] ∧ V.rep G' v c):=by
 have hin:=cK hv
 refine jB [(0,_),(1,_),(2,_)] Tryz.func51 Tryz.ntmps51 fun B hok hB hW=>?_
 repeat' (first | refine jR ?_ | (refine jo ?_;first | refine jO fun _=>?_ | refine jL fun _=>?_ | refine jV (ak F F) ?_ | refine aK F ?_) | refine ad F (aB oM) ?_)
 rename_i x4 x6 y
 have hv2:=o7 (sc:=sc) hw 13 (Nat.le_refl _) G y k b false hS hk oM
 rw [show (13 : Int) - ((13 : Nat) : Int) = 0 from rfl] at hv2
 refine jo ?_
 refine cP F F F hv2 F ?_
 rintro _ G1 _ hle ⟨u1,c1,t1,b1,a1,n1,k1,rfl,hrep,rfl,hsk,hP⟩
 dsimp only [zA,fA]
 obtain ⟨hQ1,hQ2,hQ3⟩:=kp hP
 clear hv2 hP
 cases b1 with
 | true=>have:=hQ3 rfl;rw [hin] at this;cases this
 | false =>
  obtain ⟨h1,h2,h3⟩:=hQ2 rfl
  rw [hin] at h1
  simp only [Option.some.injEq,Prod.mk.injEq] at h1
  obtain ⟨rfl,rfl⟩:=h1
  simp only [List.length_nil] at h2
  have cx_fit:=vO hrep oM
  rw [decide_eq_true ⟨ho,hd⟩] at cx_fit
  simp only [cg,VC.sl] at cx_fit
  dsimp only [cg,VC.sl]
  repeat' (first | refine jR ?_ | (refine jo ?_;first | refine jL fun _=>?_ | refine jC F F F ?_ | refine ah F ?_ | refine aK F ?_ | refine av F ?_ | refine ab F F F cx_fit F ?_) | refine an F F F ?_ | refine ad F F ?_ | (refine aj (dU (id:=7) (tt:=6) F ai ?_);refine jW 5 [1,2,3] (aa 8 14) ?_;(refine jG (aa 8 15) 0 F (bB F F F F) ?_);(refine jG (aa 8 31) 4 F (aq F F F) ?_);refine jA 5 F ?_;(refine jC F F F ?_);refine jK (aa 8 63) ?_;refine jW 0 [6,7] (aa 8 255) ?_;refine jQ ?_))
  all_goals refine jZ (vs:=[_,_,_]) F ⟨aD F F F F,F,F,trivial⟩ F ⟨hle,F,?_⟩
  all_goals exact ⟨c1,_,_,_,F,hrep⟩
theorem zH {s k b : acA} (h : bM s k = false) : ir s k b = none:=by
 unfold ir
 unfold bM at h
 cases hs : aO s with
 | none=>rfl
 | some ts=>rw [hs] at h;dsimp only at h ⊢;rw [if_neg (by rw [h];simp)]
theorem m9 {s k b : acA} (h : s.length ≤ 1048576 ∧ k.length ≤ 1048576 ∧ b.length ≤ 1048576) : ao acz 19 [S s,S k,S b] G (· = lP ((ir s k b).map V.out)):=by
 by_cases hk : bM s k = true
 case neg =>
  have hk2 : bM s k = false:=by simpa using hk
  have cx_bo1 : ∀ G,bo acz 50 [S s,S k] G (fun v _=>∃ p a b c,v = Tu [p,Ag [S a,S b,S c],Bo false]):=fun G=>by
   refine (jg (G:=G) (s:=s) (k:=k) oM oM).mono ?_
   rintro v G' L' ⟨h1,h2,⟨h4,p,a,b,c,rfl⟩ | ⟨b,qs,rfl,h4,h5,h6⟩⟩
   ·exact ⟨h1,h2,p,a,b,c,F⟩
   ·unfold bM at hk;rw [h4] at hk;exact absurd h5 hk
  rw [zH hk2]
  refine jB (Post:=fun v G' L'=>G' = G ∧ L' = [] ∧ _) [(0,_),(1,_),(2,_)] Tryz.func19 Tryz.ntmps19 fun B hok hB hW=>?_
  repeat' (first | refine jR ?_ | (refine jo ?_;first | refine jL fun _=>?_ | refine jC F F F ?_ | (refine aI F F F (cx_bo1 _) F ?_;rintro _ G hle ⟨p1,a1,b1,c1,rfl⟩;skip)) | refine ac F F ?_)
  all_goals refine Nx.base hok hB ?_
  all_goals refine jY (vs:=[_,_]) ?_
  all_goals rfl
 case pos =>
  obtain ⟨ts,hs,hki⟩ : ∃ ts,aO s = some ts ∧ aM ts k = true:=by
   unfold bM at hk
   cases hs : aO s with
   | none=>rw [hs] at hk;cases hk
   | some ts=>rw [hs] at hk;exact ⟨ts,F,hk⟩
  have hw:=cG hs
  have cx_boa : ∀ G,bo acz 50 [S s,S k] G (fun v G'=>∃ b qs,v = Tu [Pt b 0,Ag [S (sg k),S (bs k),S (nm k)],Bo true] ∧ al qs = ts ∧ ScI G' b qs):=fun G=>by
   refine (jg (G:=G) (s:=s) (k:=k) oM oM).mono ?_
   rintro v G' L' ⟨h1,h2,⟨h4,_⟩ | ⟨b,qs,rfl,h4,h5,h6⟩⟩
   ·rw [h4] at hk;cases hk
   ·rw [hs] at h4;exact ⟨h1,h2,b,qs,F,(Option.some.inj h4).symm,h6⟩
  cases hg : ir s k b with
  | none =>
   refine jB (Post:=fun v G' L'=>G' = G ∧ L' = [] ∧ _) [(0,_),(1,_),(2,_)] Tryz.func19 Tryz.ntmps19 fun B hok hB hW=>?_
   repeat' (first | refine jR ?_ | (refine jo ?_;first | refine jL fun _=>?_ | refine jC F F F ?_ | refine aK F ?_ | (refine aI F F F (cx_boa _) F ?_;rintro _ G hle ⟨ba,qa,rfl,hT1,hR1⟩;skip)) | refine ad F F ?_)
   subst hT1
   have cx_fb0:=wR (G:=G) (b:=b) hR1 hw hki oM (fun h=>by
    obtain ⟨a1,v,a2,a3⟩:=h
    unfold ir at hg
    rw [hs] at hg
    dsimp only at hg
    rw [if_pos ⟨hki,a1⟩,a2] at hg
    dsimp only at hg
    rw [if_pos a3] at hg
    cases hg)
   repeat' (first | refine jR ?_ | (refine jo ?_;first | refine jL fun _=>?_ | refine jC F F F ?_ | (refine aI F F F cx_fb0 F ?_;rintro _ G hle ⟨za,zn,zk,rfl⟩;skip)) | refine ac F F ?_)
   all_goals refine Nx.base hok hB ?_
   all_goals refine jY (vs:=[_,_]) ?_
   all_goals rfl
  | some v =>
   obtain ⟨ts',hs',_,hl,hr,ho,hd⟩:=pj hg
   obtain rfl : ts = ts':=by rw [hs] at hs';exact Option.some.inj hs'
   have htot:=iX _ _ _ _ _ (cK hr)
   simp only [List.length_nil] at htot
   refine jB (Post:=fun v G' L'=>G' = G ∧ L' = [] ∧ _) [(0,_),(1,_),(2,_)] Tryz.func19 Tryz.ntmps19 fun B hok hB hW=>?_
   repeat' (first | refine jR ?_ | (refine jo ?_;first | refine jL fun _=>?_ | refine jC F F F ?_ | refine aK F ?_ | (refine aI F F F (cx_boa _) F ?_;rintro _ G hle ⟨ba,qa,rfl,hT1,hR1⟩;skip)) | refine ad F F ?_)
   subst hT1
   have cx_fb1:=wQ (G:=G) (b:=b) hR1 hw hki hl hr ho hd
   clear hr
   unfold lP
   dsimp only [Option.map,Option.getD,Option.isSome]
   repeat' (first | refine jR ?_ | (refine jo ?_;first | refine jL fun _=>?_ | refine jC F F F ?_ | refine aK F ?_ | (refine aI F F F cx_fb1 F ?_;rintro _ G hle ⟨c1,za,zn,zk,rfl,hrep⟩;skip)) | refine ad F F ?_)
   have cx_pr:=mE (G:=G) v.tot (Nat.le_refl _) oM hrep
   simp only [cg,VC.sl] at cx_pr
   generalize v.out = vo at cx_pr ⊢
   repeat' (first | refine jR ?_ | (refine jo ?_;refine ab F F F cx_pr F ?_))
   all_goals refine Nx.base hok hB ?_
   all_goals refine jY (vs:=[_,_]) ?_
   all_goals rfl
theorem qx {s k b : acA} (h : s.length ≤ 1048576 ∧ k.length ≤ 1048576 ∧ b.length ≤ 1048576) : ao acz 32 [S s,S k,S b] G (· = Bo (cD s k b).isSome):=by
 have cx_bg1:=m9 (G:=G) h
 cases hg : ir s k b with
 | none =>
  rw [hg] at cx_bg1
  unfold lP at cx_bg1
  dsimp only [Option.map,Option.getD,Option.isSome] at cx_bg1
  rw [xU hg]
  refine jE [(0,_),(1,_),(2,_)] Tryz.func32 Tryz.ntmps32 fun B hB=>?_
  repeat' (first | refine jR ?_ | (refine jo ?_;refine ab F F F cx_bg1 F ?_) | refine ac F F ?_)
  all_goals refine jY (vs:=[_]) ?_
  all_goals rfl
 | some v =>
  obtain ⟨ts,hs,hki,hl,hr,ho,hd⟩:=pj hg
  rw [hg] at cx_bg1
  unfold lP at cx_bg1
  dsimp only [Option.map,Option.getD,Option.isSome] at cx_bg1
  have hpb:=na hs hki (kN _ _ _ _ (cK hr)).1 hd ho
  have cx_bp1:=m8 (G:=G) (s:=s) (k:=k) (w:=v.out) oM
  rw [hpb] at cx_bp1
  have hcn:=t3 hg
  clear hg hpb hr
  generalize v.out = vo at cx_bg1 cx_bp1
  by_cases h6 : v.bys.length ≤ 600
  ·rw [if_pos h6] at cx_bp1
   dsimp only [Option.getD,Option.isSome] at cx_bp1
   have hres : (cD s k b).isSome = decide (v.bys = b):=by
    rw [hcn]
    by_cases h1 : v.bys = b
    ·rw [if_pos h1,decide_eq_true h1];rfl
    ·rw [if_neg h1,decide_eq_false h1];rfl
   rw [hres]
   clear hres hcn
   generalize v.bys = vb at cx_bp1 ⊢
   refine jE [(0,_),(1,_),(2,_)] Tryz.func32 Tryz.ntmps32 fun B hB=>?_
   repeat' (first | refine jR ?_ | (refine jo ?_;first | refine aH F ?_ | refine ab F F F cx_bg1 F ?_ | refine ab F F F cx_bp1 F ?_) | refine aA F F F ?_ | refine ad F F ?_)
   all_goals refine jY (vs:=[_]) ?_
   all_goals rfl
  ·rw [if_neg h6] at cx_bp1
   dsimp only [Option.getD,Option.isSome] at cx_bp1
   rw [if_neg (fun h1=>by rw [h1] at h6;exact h6 hl)] at hcn
   rw [hcn]
   refine jE [(0,_),(1,_),(2,_)] Tryz.func32 Tryz.ntmps32 fun B hB=>?_
   repeat' (first | refine jR ?_ | (refine jo ?_;first | refine av F ?_ | refine ab F F F cx_bg1 F ?_ | refine ab F F F cx_bp1 F ?_) | refine an F F F ?_ | refine ad F F ?_)
   all_goals refine jY (vs:=[_]) ?_
   all_goals rfl
theorem vD {s x : acA} {u : Value} {a : List Mt} (hu : bj G u 3 a.length (aF fR a)) (hn : a.length ≤ 1048576) : ao acz 65 [Ag [S s,u],S x] G (fun v=>∃ m1 m2 m3 b,v = Tu [Ag [S m1,S m2,S m3],Bo b]):=by
 have h2:=nP (s:=s) (x:=x) hu hn
 cases hf : dv a x with
 | none=>rw [hf] at h2;exact h2.mono fun v G' L' h=>⟨h.1,h.2.1,_,_,_,_,h.2.2⟩
 | some m=>rw [hf] at h2;exact h2.mono fun v G' L' h=>⟨h.1,h.2.1,_,_,_,_,h.2.2⟩
theorem iM {s x : acA} {a : List Mt} (h : eg x = none ∨ (∃ n r,eg x = some (n,r) ∧ bU r = none) ∨ du s a = false) : fN s a x = none:=by
 unfold fN
 rcases h with h | ⟨n,r,h1,h2⟩ | h
 ·rw [h]
 ·rw [h1];dsimp only;rw [h2]
 ·cases eg x with
  | none=>rfl
  | some z =>
   obtain ⟨n,r⟩:=z
   dsimp only
   cases bU r with
   | none=>rfl
   | some y =>
    obtain ⟨nm,b⟩:=y
    dsimp only
    cases dv a nm with
    | none=>rfl
    | some m=>dsimp only;rw [if_neg (by rw [h];simp)]
theorem ux {s x : acA} {u : Value} {a : List Mt} (h : s.length ≤ 1048576 ∧ x.length ≤ 1048576) (hu : bj G u 3 a.length (aF fR a)) (hn : a.length ≤ 1048576) (ha : ∀ x ∈ a,kB x) :
  ao acz 23 [Ag [S s,u],S x] G (· = mC (fN s a x)):=by
 have hu1:=hu.one
 have cx_jf:=su (G:=G) (s:=x) h.2
 unfold lP at cx_jf
 have cx_so:=md h.1 hu hn ha
 cases hj : en x with
 | none =>
  rw [hj] at cx_jf
  dsimp only [Option.getD,Option.isSome] at cx_jf
  rw [iM (.inl (by unfold eg;rw [hj]))]
  cases e1 : du s a with
  | false =>
   have cx_so1 : ao acz 62 [Ag [S s,u]] G (· = Bo false):=by rw [← e1];exact cx_so
   clear cx_so
   refine jE [(0,_),(1,_)] Tryz.func23 Tryz.ntmps23 fun B hB=>?_
   repeat' (first | refine jR ?_ | (refine jo ?_;first | refine jO fun _=>?_ | refine aH F ?_ | refine ab F F F cx_jf F ?_) | refine aA F F F ?_ | refine ac F F ?_)
   all_goals refine jY (vs:=[_,_,_,_]) ?_
   all_goals rfl
  | true =>
   have cx_so1 : ao acz 62 [Ag [S s,u]] G (· = Bo true):=by rw [← e1];exact cx_so
   clear cx_so
   refine jE [(0,_),(1,_)] Tryz.func23 Tryz.ntmps23 fun B hB=>?_
   repeat' (first | refine jR ?_ | (refine jo ?_;first | refine jO fun _=>?_ | refine aH F ?_ | refine ab F F F cx_jf F ?_) | refine aA F F F ?_ | refine ac F F ?_)
   all_goals refine jY (vs:=[_,_,_,_]) ?_
   all_goals rfl
 | some body =>
  have hbl:=nv hj
  rw [hj] at cx_jf
  dsimp only [Option.getD,Option.isSome] at cx_jf
  cases e1 : du s a with
  | false =>
   have cx_so1 : ao acz 62 [Ag [S s,u]] G (· = Bo false):=by rw [← e1];exact cx_so
   clear cx_so
   rw [iM (.inr (.inr e1))]
   refine jE [(0,_),(1,_)] Tryz.func23 Tryz.ntmps23 fun B hB=>?_
   repeat' (first | refine jR ?_ | (refine jo ?_;first | refine jO fun _=>?_ | refine aK F ?_ | refine av F ?_ | refine ab F F F cx_jf F ?_ | refine ab F F F cx_so1 F ?_) | refine an F F F ?_ | refine ac F F ?_)
   all_goals refine jY (vs:=[_,_,_,_]) ?_
   all_goals rfl
  | true =>
   have cx_so1 : ao acz 62 [Ag [S s,u]] G (· = Bo true):=by rw [← e1];exact cx_so
   clear cx_so
   have hma:=fun x=>vD (G:=G) (s:=s) (x:=x) hu hn
   cases hg : bi body with
   | none =>
    rw [iM (.inl (by unfold eg;rw [hj];dsimp only;rw [hg]))]
    have hnb : ∀ y,bV acz 63 [Pt y 0] G [d3 y body false none 0 0 0] (fun v L'=>v = I 0 ∧ L' = [d3 y [] true none 0 0 0]):=fun y=>pA hg oM
    have hnb2 : ∀ y,bV acz 63 [Pt y 0] G [d3 y [] true none 0 0 0] (fun v L'=>v = I 0 ∧ L' = [d3 y [] true none 0 0 0]):=fun y=>pA rfl (by simp)
    have htk : ∀ y,bV acz 64 [Pt y 0,I 0] G [d3 y [] true none 0 0 0] (fun v L'=>v = S [] ∧ L' = [d3 y [] true none 0 0 0]):=fun y=>nM (m:=0) (.inl rfl) ⟨by simp,oM⟩
    refine jE [(0,_),(1,_)] Tryz.func23 Tryz.ntmps23 fun B hB=>?_
    repeat' (first | refine jR ?_ | (refine jo ?_;first | refine jO fun _=>?_ | refine aK F ?_ | refine av F ?_ | refine jV (ak F F) ?_ | refine ab F F F cx_jf F ?_ | refine ab F F F cx_so1 F ?_) | refine an F F F ?_ | refine ad F F ?_)
    rename_i xs y
    have cx_nb:=hnb y
    have cx_nb2:=hnb2 y
    have cx_tkb:=htk y
    repeat' (first | refine jR ?_ | (refine jo ?_;first | refine aK F ?_ | (refine af F F F cx_nb F ?_;rintro _ _ ⟨rfl,rfl⟩;dsimp only [zA,fA]) | (refine af F F F cx_nb2 F ?_;rintro _ _ ⟨rfl,rfl⟩;dsimp only [zA,fA]) | (refine af F F F cx_tkb F ?_;rintro _ _ ⟨rfl,rfl⟩;dsimp only [zA,fA])))
    refine jo ?_
    refine cO F F F (hma _) F ?_
    rintro _ ⟨m1,m2,m3,b2,rfl⟩
    cases b2
    all_goals repeat' (first | refine jR ?_ | (refine jo ?_;first | refine jL fun _=>?_ | refine jC F F F ?_) | refine ac F F ?_ | (refine aj (am (id:=8) _ (fun _ h=>h) ai ?_);refine jT 22 [0,1,2] (aa 25 7) ?_;(try (first | refine Nx.re (d:=45) (v':=Bo true) F (congrArg Value.bool F) ?_ | refine Nx.re (d:=45) (v':=Bo false) F (congrArg Value.bool F) ?_));refine jT 19 [3,4,5] (aa 25 63) ?_;(first | refine jG (aa 25 127) 6 F (aq F F F) ?_ | refine jN (aa 25 127) 6 F ?_);(first | refine jG (aa 25 255) 7 F (aY F F F) ?_ | refine jG (aa 25 255) 7 F (aG F F F) ?_);refine jT 16 [8] (aa 25 511) ?_;(try (refine Nx.re (d:=51) (v':=Bo true) F (congrArg Value.bool F) ?_));refine jT 15 [9] (aa 25 1023) ?_;(refine jN (aa 25 2047) 10 F ?_);refine jT 13 [11] (aa 25 4095) ?_;(refine jG (aa 25 8191) 12 F (aY F F F) ?_);refine jT 11 [13] (aa 25 16383) ?_;(try (refine Nx.re (d:=56) (v':=Bo true) F (congrArg Value.bool F) ?_));refine jT 6 [14,16,18,19,20] (aa 25 1933311) ?_;(refine jN (aa 25 1966079) 15 F ?_);(refine jN (aa 25 2097151) 17 F ?_);(refine jN (aa 25 4194303) 21 F ?_);(refine jN (aa 25 8388607) 22 F ?_);refine jT 1 [23] (aa 25 16777215) ?_;(refine jG (aa 25 33554431) 24 F (aY F F F) ?_);refine jQ ?_))
    all_goals refine jY (vs:=[_,_,_,_]) ?_
    all_goals rfl
   | some z =>
    obtain ⟨m,q⟩:=z
    obtain ⟨hm0,hm1,_⟩:=cx hg
    have hql:=bD hg
    have hbad : bU q = none → fN s a x = none:=fun ht=>by
     by_cases hm9 : m ≤ 999
     ·exact iM (.inr (.inl ⟨m,q,by unfold eg;rw [hj];dsimp only;rw [hg];dsimp only;rw [if_pos hm9],ht⟩))
     ·exact iM (.inl (by unfold eg;rw [hj];dsimp only;rw [hg];dsimp only;rw [if_neg hm9]))
    rcases fu (s:=q) with ⟨hg2,ht⟩ | ⟨m3,q2,hg2,hm3,⟨hl3,ht⟩ | ⟨hl3,ht⟩⟩
    ·rw [hbad ht]
     have hnb : ∀ y,bV acz 63 [Pt y 0] G [d3 y body false none 0 0 0] (fun v L'=>v = I m ∧ L' = [d3 y q false none 0 0 0]):=fun y=>kx hg oM
     have hnb2 : ∀ y,bV acz 63 [Pt y 0] G [d3 y q false none 0 0 0] (fun v L'=>v = I 0 ∧ L' = [d3 y [] true none 0 0 0]):=fun y=>pA hg2 oM
     have htk : ∀ y,bV acz 64 [Pt y 0,I 0] G [d3 y [] true none 0 0 0] (fun v L'=>v = S [] ∧ L' = [d3 y [] true none 0 0 0]):=fun y=>nM (m:=0) (.inl rfl) ⟨by simp,oM⟩
     refine jE [(0,_),(1,_)] Tryz.func23 Tryz.ntmps23 fun B hB=>?_
     repeat' (first | refine jR ?_ | (refine jo ?_;first | refine jO fun _=>?_ | refine aK F ?_ | refine av F ?_ | refine jV (ak F F) ?_ | refine ab F F F cx_jf F ?_ | refine ab F F F cx_so1 F ?_) | refine an F F F ?_ | refine ad F F ?_)
     rename_i xs y
     have cx_nb:=hnb y
     have cx_nb2:=hnb2 y
     have cx_tkb:=htk y
     repeat' (first | refine jR ?_ | (refine jo ?_;first | refine aK F ?_ | (refine af F F F cx_nb F ?_;rintro _ _ ⟨rfl,rfl⟩;dsimp only [zA,fA]) | (refine af F F F cx_nb2 F ?_;rintro _ _ ⟨rfl,rfl⟩;dsimp only [zA,fA]) | (refine af F F F cx_tkb F ?_;rintro _ _ ⟨rfl,rfl⟩;dsimp only [zA,fA])))
     refine jo ?_
     refine cO F F F (hma _) F ?_
     rintro _ ⟨m1,m2,m3,b2,rfl⟩
     cases b2
     all_goals repeat' (first | refine jR ?_ | (refine jo ?_;first | refine jL fun _=>?_ | refine jC F F F ?_) | refine ac F F ?_ | (refine aj (am (id:=8) _ (fun _ h=>h) ai ?_);refine jT 22 [0,1,2] (aa 25 7) ?_;(try (first | refine Nx.re (d:=45) (v':=Bo true) F (congrArg Value.bool F) ?_ | refine Nx.re (d:=45) (v':=Bo false) F (congrArg Value.bool F) ?_));refine jT 19 [3,4,5] (aa 25 63) ?_;(first | refine jG (aa 25 127) 6 F (aq F F F) ?_ | refine jN (aa 25 127) 6 F ?_);(first | refine jG (aa 25 255) 7 F (aY F F F) ?_ | refine jG (aa 25 255) 7 F (aG F F F) ?_);refine jT 16 [8] (aa 25 511) ?_;(try (refine Nx.re (d:=51) (v':=Bo true) F (congrArg Value.bool F) ?_));refine jT 15 [9] (aa 25 1023) ?_;(refine jN (aa 25 2047) 10 F ?_);refine jT 13 [11] (aa 25 4095) ?_;(refine jG (aa 25 8191) 12 F (aY F F F) ?_);refine jT 11 [13] (aa 25 16383) ?_;(try (refine Nx.re (d:=56) (v':=Bo true) F (congrArg Value.bool F) ?_));refine jT 6 [14,16,18,19,20] (aa 25 1933311) ?_;(refine jN (aa 25 1966079) 15 F ?_);(refine jN (aa 25 2097151) 17 F ?_);(refine jN (aa 25 4194303) 21 F ?_);(refine jN (aa 25 8388607) 22 F ?_);refine jT 1 [23] (aa 25 16777215) ?_;(refine jG (aa 25 33554431) 24 F (aY F F F) ?_);refine jQ ?_))
     all_goals refine jY (vs:=[_,_,_,_]) ?_
     all_goals rfl
    ·rw [hbad ht]
     have hql2:=bD hg2
     have hnb : ∀ y,bV acz 63 [Pt y 0] G [d3 y body false none 0 0 0] (fun v L'=>v = I m ∧ L' = [d3 y q false none 0 0 0]):=fun y=>kx hg oM
     have hnb2 : ∀ y,bV acz 63 [Pt y 0] G [d3 y q false none 0 0 0] (fun v L'=>v = I (m3 : Nat) ∧ L' = [d3 y q2 false none 0 0 0]):=fun y=>kx hg2 oM
     have htk : ∀ y,bV acz 64 [Pt y 0,I (m3 : Nat)] G [d3 y q2 false none 0 0 0] (fun v L'=>v = S [] ∧ L' = [d3 y q2 true none 0 0 0]):=fun y=>nM (m:=m3) (.inr hl3) ⟨oM,oM⟩
     refine jE [(0,_),(1,_)] Tryz.func23 Tryz.ntmps23 fun B hB=>?_
     repeat' (first | refine jR ?_ | (refine jo ?_;first | refine jO fun _=>?_ | refine aK F ?_ | refine av F ?_ | refine jV (ak F F) ?_ | refine ab F F F cx_jf F ?_ | refine ab F F F cx_so1 F ?_) | refine an F F F ?_ | refine ad F F ?_)
     rename_i xs y
     have cx_nb:=hnb y
     have cx_nb2:=hnb2 y
     have cx_tkb:=htk y
     repeat' (first | refine jR ?_ | (refine jo ?_;first | refine aK F ?_ | (refine af F F F cx_nb F ?_;rintro _ _ ⟨rfl,rfl⟩;dsimp only [zA,fA]) | (refine af F F F cx_nb2 F ?_;rintro _ _ ⟨rfl,rfl⟩;dsimp only [zA,fA]) | (refine af F F F cx_tkb F ?_;rintro _ _ ⟨rfl,rfl⟩;dsimp only [zA,fA])))
     refine jo ?_
     refine cO F F F (hma _) F ?_
     rintro _ ⟨m1,m2,m3,b2,rfl⟩
     cases b2
     all_goals repeat' (first | refine jR ?_ | (refine jo ?_;first | refine jL fun _=>?_ | refine jC F F F ?_) | refine ac F F ?_ | (refine aj (am (id:=8) _ (fun _ h=>h) ai ?_);refine jT 22 [0,1,2] (aa 25 7) ?_;(try (first | refine Nx.re (d:=45) (v':=Bo true) F (congrArg Value.bool F) ?_ | refine Nx.re (d:=45) (v':=Bo false) F (congrArg Value.bool F) ?_));refine jT 19 [3,4,5] (aa 25 63) ?_;(first | refine jG (aa 25 127) 6 F (aq F F F) ?_ | refine jN (aa 25 127) 6 F ?_);(first | refine jG (aa 25 255) 7 F (aY F F F) ?_ | refine jG (aa 25 255) 7 F (aG F F F) ?_);refine jT 16 [8] (aa 25 511) ?_;(try (refine Nx.re (d:=51) (v':=Bo true) F (congrArg Value.bool F) ?_));refine jT 15 [9] (aa 25 1023) ?_;(refine jN (aa 25 2047) 10 F ?_);refine jT 13 [11] (aa 25 4095) ?_;(refine jG (aa 25 8191) 12 F (aY F F F) ?_);refine jT 11 [13] (aa 25 16383) ?_;(try (refine Nx.re (d:=56) (v':=Bo true) F (congrArg Value.bool F) ?_));refine jT 6 [14,16,18,19,20] (aa 25 1933311) ?_;(refine jN (aa 25 1966079) 15 F ?_);(refine jN (aa 25 2097151) 17 F ?_);(refine jN (aa 25 4194303) 21 F ?_);(refine jN (aa 25 8388607) 22 F ?_);refine jT 1 [23] (aa 25 16777215) ?_;(refine jG (aa 25 33554431) 24 F (aY F F F) ?_);refine jQ ?_))
     all_goals refine jY (vs:=[_,_,_,_]) ?_
     all_goals rfl
    have hql2:=bD hg2
    have htl : (q2.take m3).length ≤ 100:=by rw [List.length_take];omega
    have hdl : (q2.drop m3).length ≤ 100:=by rw [List.length_drop];omega
    have hnb : ∀ y,bV acz 63 [Pt y 0] G [d3 y body false none 0 0 0] (fun v L'=>v = I m ∧ L' = [d3 y q false none 0 0 0]):=fun y=>kx hg oM
    have hnb2 : ∀ y,bV acz 63 [Pt y 0] G [d3 y q false none 0 0 0] (fun v L'=>v = I (m3 : Nat) ∧ L' = [d3 y q2 false none 0 0 0]):=fun y=>kx hg2 oM
    have htk : ∀ y,bV acz 64 [Pt y 0,I (m3 : Nat)] G [d3 y q2 false none 0 0 0] (fun v L'=>v = S (q2.take m3) ∧ L' = [d3 y (q2.drop m3) false none 0 0 0]):=fun y=>wG (m:=m3) ⟨hl3,oM⟩
    have cx_f0:=nP (s:=s) (x:=q2.take m3) hu hn
    have ho : m ≤ 999 → eg x = some (m,q):=fun hm9=>by unfold eg;rw [hj];dsimp only;rw [hg];dsimp only;rw [if_pos hm9]
    have ho2 : ¬ m ≤ 999 → fN s a x = none:=fun hm9=>iM (.inl (by unfold eg;rw [hj];dsimp only;rw [hg];dsimp only;rw [if_neg hm9]))
    have hco : m ≤ 999 → fN s a x = match dv a (q2.take m3) with
     | some mt=>(cD s mt.2.1 (q2.drop m3)).map fun v=>(m,q2.take m3,v)
     | none=>none:=fun hm9=>by
      unfold fN
      rw [ho hm9];dsimp only;rw [ht];dsimp only
      cases dv a (q2.take m3) with
      | none=>rfl
      | some mt=>dsimp only;rw [if_pos e1]
    clear ho hbad hg hg2 ht hj
    cases hf : dv a (q2.take m3) with
    | none =>
     rw [hf] at cx_f0
     have cx_find : ao acz 65 [Ag [S s,u],S (q2.take m3)] G (· = Tu [Ag [S [],S [],S []],Bo false]):=cx_f0
     clear cx_f0
     have hres : fN s a x = none:=by
      by_cases hm9 : m ≤ 999
      ·rw [hco hm9,hf]
      ·exact ho2 hm9
     rw [hres]
     clear hco ho2 hf hres
     refine jE [(0,_),(1,_)] Tryz.func23 Tryz.ntmps23 fun B hB=>?_
     repeat' (first | refine jR ?_ | (refine jo ?_;first | refine jO fun _=>?_ | refine aK F ?_ | refine av F ?_ | refine jV (ak F F) ?_ | refine ab F F F cx_jf F ?_ | refine ab F F F cx_so1 F ?_) | refine an F F F ?_ | refine ad F F ?_)
     rename_i xs y
     have cx_nb:=hnb y
     have cx_nb2:=hnb2 y
     have cx_tkb:=htk y
     repeat' (first | refine jR ?_ | (refine jo ?_;first | refine aK F ?_ | refine jL fun _=>?_ | refine jC F F F ?_ | (refine af F F F cx_nb F ?_;rintro _ _ ⟨rfl,rfl⟩;dsimp only [zA,fA]) | (refine af F F F cx_nb2 F ?_;rintro _ _ ⟨rfl,rfl⟩;dsimp only [zA,fA]) | (refine af F F F cx_tkb F ?_;rintro _ _ ⟨rfl,rfl⟩;dsimp only [zA,fA]) | refine ab F F F cx_find F ?_) | refine ac F F ?_ | (refine aj (am (id:=8) _ (fun _ h=>h) ai ?_);refine jT 22 [0,1,2] (aa 25 7) ?_;(try (refine Nx.re (d:=45) (v':=Bo true) F (congrArg Value.bool F) ?_));refine jT 19 [3,4,5] (aa 25 63) ?_;(refine jN (aa 25 127) 6 F ?_);(refine jG (aa 25 255) 7 F (aY F F F) ?_);refine jT 16 [8] (aa 25 511) ?_;(try (refine Nx.re (d:=51) (v':=Bo true) F (congrArg Value.bool F) ?_));refine jT 15 [9] (aa 25 1023) ?_;(refine jN (aa 25 2047) 10 F ?_);refine jT 13 [11] (aa 25 4095) ?_;(refine jG (aa 25 8191) 12 F (aY F F F) ?_);refine jT 11 [13] (aa 25 16383) ?_;(try (refine Nx.re (d:=56) (v':=Bo true) F (congrArg Value.bool F) ?_));refine jT 6 [14,16,18,19,20] (aa 25 1933311) ?_;(refine jN (aa 25 1966079) 15 F ?_);(refine jN (aa 25 2097151) 17 F ?_);(refine jN (aa 25 4194303) 21 F ?_);(refine jN (aa 25 8388607) 22 F ?_);refine jT 1 [23] (aa 25 16777215) ?_;(refine jG (aa 25 33554431) 24 F (aY F F F) ?_);refine jQ ?_))
     all_goals refine jY (vs:=[_,_,_,_]) ?_
     all_goals rfl
    | some mt =>
     rw [hf] at cx_f0
     have cx_find : ao acz 65 [Ag [S s,u],S (q2.take m3)] G (· = Tu [Ag [S mt.1,S mt.2.1,S mt.2.2],Bo true]):=cx_f0
     clear cx_f0
     have hxm:=ha _ (List.mem_of_find?_eq_some hf)
     have cx_bc1:=qx (G:=G) (s:=s) (k:=mt.2.1) (b:=q2.drop m3) ⟨h.1,oM,oM⟩
     have cx_bg1:=m9 (G:=G) (s:=s) (k:=mt.2.1) (b:=q2.drop m3) ⟨h.1,oM,oM⟩
     by_cases hm9 : m ≤ 999
     case neg =>
      have cx_nok : ao acz 66 [I m] G (· = Bo false):=by
       rw [← gJ (n:=m) (b:=false) (decide_eq_false fun h=>hm9 h.2)];exact iE
      rw [ho2 hm9]
      clear hco ho2 hf
      generalize (cD s mt.2.1 (q2.drop m3)).isSome = cb at *
      refine jE [(0,_),(1,_)] Tryz.func23 Tryz.ntmps23 fun B hB=>?_
      repeat' (first | refine jR ?_ | (refine jo ?_;first | refine jO fun _=>?_ | refine aK F ?_ | refine av F ?_ | refine jV (ak F F) ?_ | refine ab F F F cx_jf F ?_ | refine ab F F F cx_so1 F ?_) | refine an F F F ?_ | refine ad F F ?_)
      rename_i xs y
      have cx_nb:=hnb y
      have cx_nb2:=hnb2 y
      have cx_tkb:=htk y
      repeat' (first | refine jR ?_ | (refine jo ?_;first | refine aK F ?_ | refine jL fun _=>?_ | refine jC F F F ?_ | (refine af F F F cx_nb F ?_;rintro _ _ ⟨rfl,rfl⟩;dsimp only [zA,fA]) | (refine af F F F cx_nb2 F ?_;rintro _ _ ⟨rfl,rfl⟩;dsimp only [zA,fA]) | (refine af F F F cx_tkb F ?_;rintro _ _ ⟨rfl,rfl⟩;dsimp only [zA,fA]) | refine ab F F F cx_find F ?_) | refine ac F F ?_ | (refine aj (am (id:=8) _ (fun _ h=>h) ai ?_);refine jT 22 [0,1,2] (aa 25 7) ?_;(try (refine Nx.re (d:=45) (v':=Bo false) F (congrArg Value.bool F) ?_));refine jT 19 [3,4,5] (aa 25 63) ?_;(refine jG (aa 25 127) 6 F (aq F F F) ?_);(refine jG (aa 25 255) 7 F (aG F F F) ?_);refine jT 16 [8] (aa 25 511) ?_;(try (refine Nx.re (d:=51) (v':=Bo false) F (congrArg Value.bool F) ?_));refine jT 15 [9] (aa 25 1023) ?_;(refine jA 10 F ?_;(refine ab F F F cx_nok F ?_);refine jS (aa 25 2047) ?_);refine jT 13 [11] (aa 25 4095) ?_;(refine jG (aa 25 8191) 12 F (aG F F F) ?_);refine jT 11 [13] (aa 25 16383) ?_;(try (refine Nx.re (d:=56) (v':=Bo true) F (congrArg Value.bool F) ?_));refine jT 6 [14,16,18,19,20] (aa 25 1933311) ?_;(refine jN (aa 25 1966079) 15 F ?_);(refine jN (aa 25 2097151) 17 F ?_);(refine jN (aa 25 4194303) 21 F ?_);(refine jN (aa 25 8388607) 22 F ?_);refine jT 1 [23] (aa 25 16777215) ?_;(refine jG (aa 25 33554431) 24 F (aY F F F) ?_);refine jQ ?_))
      all_goals refine jY (vs:=[_,_,_,_]) ?_
      all_goals rfl
     have cx_nok : ao acz 66 [I m] G (· = Bo true):=by
      rw [← gJ (n:=m) (b:=true) (decide_eq_true ⟨hm0,hm9⟩)];exact iE
     rw [hco hm9,hf]
     dsimp only
     cases hc : cD s mt.2.1 (q2.drop m3) with
     | none =>
      rw [hc] at cx_bc1
      dsimp only [Option.isSome] at cx_bc1
      clear hco ho2 hf hc cx_bg1
      refine jE [(0,_),(1,_)] Tryz.func23 Tryz.ntmps23 fun B hB=>?_
      repeat' (first | refine jR ?_ | (refine jo ?_;first | refine jO fun _=>?_ | refine aK F ?_ | refine av F ?_ | refine jV (ak F F) ?_ | refine ab F F F cx_jf F ?_ | refine ab F F F cx_so1 F ?_) | refine an F F F ?_ | refine ad F F ?_)
      rename_i xs y
      have cx_nb:=hnb y
      have cx_nb2:=hnb2 y
      have cx_tkb:=htk y
      repeat' (first | refine jR ?_ | (refine jo ?_;first | refine aK F ?_ | refine jL fun _=>?_ | refine jC F F F ?_ | (refine af F F F cx_nb F ?_;rintro _ _ ⟨rfl,rfl⟩;dsimp only [zA,fA]) | (refine af F F F cx_nb2 F ?_;rintro _ _ ⟨rfl,rfl⟩;dsimp only [zA,fA]) | (refine af F F F cx_tkb F ?_;rintro _ _ ⟨rfl,rfl⟩;dsimp only [zA,fA]) | refine ab F F F cx_find F ?_) | refine ac F F ?_ | (refine aj (am (id:=8) _ (fun _ h=>h) ai ?_);refine jT 22 [0,1,2] (aa 25 7) ?_;(try (refine Nx.re (d:=45) (v':=Bo false) F (congrArg Value.bool F) ?_));refine jT 19 [3,4,5] (aa 25 63) ?_;(refine jG (aa 25 127) 6 F (aq F F F) ?_);(refine jG (aa 25 255) 7 F (aG F F F) ?_);refine jT 16 [8] (aa 25 511) ?_;(try (refine Nx.re (d:=51) (v':=Bo false) F (congrArg Value.bool F) ?_));refine jT 15 [9] (aa 25 1023) ?_;(refine jA 10 F ?_;(refine ab F F F cx_nok F ?_);refine jS (aa 25 2047) ?_);refine jT 13 [11] (aa 25 4095) ?_;(refine jG (aa 25 8191) 12 F (aG F F F) ?_);refine jT 11 [13] (aa 25 16383) ?_;(try (refine Nx.re (d:=56) (v':=Bo false) F (congrArg Value.bool F) ?_));refine jT 6 [14,16,18,19,20] (aa 25 1933311) ?_;(refine jG (aa 25 1966079) 15 F (aq F F F) ?_);(refine jG (aa 25 2097151) 17 F (aq F F F) ?_);(refine jG (aa 25 4194303) 21 F (aq F F F) ?_);(refine jA 22 F ?_;(refine ab F F F cx_bc1 F ?_);refine jS (aa 25 8388607) ?_);refine jT 1 [23] (aa 25 16777215) ?_;(refine jG (aa 25 33554431) 24 F (aG F F F) ?_);refine jQ ?_))
      all_goals refine jY (vs:=[_,_,_,_]) ?_
      all_goals rfl
     | some v =>
      rw [hc] at cx_bc1
      rw [oQ hc] at cx_bg1
      unfold lP at cx_bg1
      dsimp only [Option.map,Option.getD,Option.isSome,mC] at cx_bc1 cx_bg1 ⊢
      clear hco ho2 hf hc
      generalize v.out = vo at *
      refine jE [(0,_),(1,_)] Tryz.func23 Tryz.ntmps23 fun B hB=>?_
      repeat' (first | refine jR ?_ | (refine jo ?_;first | refine jO fun _=>?_ | refine aK F ?_ | refine av F ?_ | refine jV (ak F F) ?_ | refine ab F F F cx_jf F ?_ | refine ab F F F cx_so1 F ?_) | refine an F F F ?_ | refine ad F F ?_)
      rename_i xs y
      have cx_nb:=hnb y
      have cx_nb2:=hnb2 y
      have cx_tkb:=htk y
      repeat' (first | refine jR ?_ | (refine jo ?_;first | refine aK F ?_ | refine jL fun _=>?_ | refine jC F F F ?_ | (refine af F F F cx_nb F ?_;rintro _ _ ⟨rfl,rfl⟩;dsimp only [zA,fA]) | (refine af F F F cx_nb2 F ?_;rintro _ _ ⟨rfl,rfl⟩;dsimp only [zA,fA]) | (refine af F F F cx_tkb F ?_;rintro _ _ ⟨rfl,rfl⟩;dsimp only [zA,fA]) | refine ab F F F cx_find F ?_) | refine ad F F ?_ | (refine aj (am (id:=8) _ (fun _ h=>h) ai ?_);refine jT 22 [0,1,2] (aa 25 7) ?_;(try (refine Nx.re (d:=45) (v':=Bo false) F (congrArg Value.bool F) ?_));refine jT 19 [3,4,5] (aa 25 63) ?_;(refine jG (aa 25 127) 6 F (aq F F F) ?_);(refine jG (aa 25 255) 7 F (aG F F F) ?_);refine jT 16 [8] (aa 25 511) ?_;(try (refine Nx.re (d:=51) (v':=Bo false) F (congrArg Value.bool F) ?_));refine jT 15 [9] (aa 25 1023) ?_;(refine jA 10 F ?_;(refine ab F F F cx_nok F ?_);refine jS (aa 25 2047) ?_);refine jT 13 [11] (aa 25 4095) ?_;(refine jG (aa 25 8191) 12 F (aG F F F) ?_);refine jT 11 [13] (aa 25 16383) ?_;(try (refine Nx.re (d:=56) (v':=Bo false) F (congrArg Value.bool F) ?_));refine jT 6 [14,16,18,19,20] (aa 25 1933311) ?_;(refine jG (aa 25 1966079) 15 F (aq F F F) ?_);(refine jG (aa 25 2097151) 17 F (aq F F F) ?_);(refine jG (aa 25 4194303) 21 F (aq F F F) ?_);(refine jA 22 F ?_;(refine ab F F F cx_bc1 F ?_);refine jS (aa 25 8388607) ?_);refine jT 1 [23] (aa 25 16777215) ?_;(refine jG (aa 25 33554431) 24 F (aG F F F) ?_);refine jQ ?_) | (refine aj (am (id:=10) _ (fun _ h=>h) ai ?_);refine jT 9 [0,2,4,5,6] (aa 14 117) ?_;(refine jG (aa 14 119) 1 F (aq F F F) ?_);(refine jG (aa 14 127) 3 F (aq F F F) ?_);(refine jG (aa 14 255) 7 F (aq F F F) ?_);refine jA 8 F ?_;(refine ab F F F cx_bg1 F ?_);refine jS (aa 14 511) ?_;refine jT 0 [9,10,11,12,13] (aa 14 16383) ?_;refine jQ ?_))
      all_goals refine jY (vs:=[_,_,_,_]) ?_
      all_goals rfl
abbrev cR : TypeId:=101
theorem wL {v : Value} {l : acA} (h : bj G v 1 l.length (bz l)) : bV acz 26 [v] G [] (fun v L'=>∃ b code l',v = Pt b 0 ∧ L' = [dy b code 0 cR] ∧ bj G code 1 l'.length (bz l') ∧ l'.length ≤ 2000):=by
 obtain ⟨h1,⟨rfl,h2⟩ | ⟨c,o,cap,rfl,h2,h3⟩⟩:=id h
 ·refine jH [(0,_)] Tryz.func26 Tryz.ntmps26 fun B hB hW=>?_
  repeat' (first | refine jR ?_ | (refine jo ?_;first | refine jV (ar F) ?_ | refine jV (ak F F) ?_ | refine jO fun _=>?_) | refine ad F F ?_)
  refine aN (vs:=[_]) F ⟨F,trivial⟩ F (List.Sublist.refl _) ⟨F,_,_,[],F,F,⟨by simp [bz],.inl ⟨F,F⟩⟩,by simp⟩
 ·refine jH [(0,_)] Tryz.func26 Tryz.ntmps26 fun B hB hW=>?_
  repeat' (first | refine jR ?_ | (refine jo ?_;first | refine jV (ar F) ?_ | refine jV (rf F F oM) ?_ | refine jV (ak F F) ?_ | refine jO fun _=>?_) | refine cB F (fun _=>?_) (fun _=>?_))
  ·refine aN (vs:=[_]) F ⟨F,trivial⟩ F (List.Sublist.refl _) ⟨F,_,_,l.take 2000,F,F,?_,by simp;omega⟩
   have e : (l.take 2000).length = 2000:=by simp;omega
   rw [e]
   refine ⟨by simp [bz];omega,.inr ⟨c,o,cap,rfl,oM,?_⟩⟩
   have:=h3.take 2000
   simpa [bz] using this
  ·exact aN (vs:=[_]) F ⟨F,trivial⟩ F (List.Sublist.refl _) ⟨F,_,_,l,F,F,h,oM⟩
theorem cA {b : Nat} {code : Value} {p n : Int} {l : acA} (hp : 0 ≤ p ∧ p ≤ 1000000000000 ∧ n ≤ 1000000000000) (hs : bj G code 1 l.length (bz l)) :
  bV acz 28 [Pt b 0,I n] G [dy b code p cR] (fun v L'=>∃ k,v = I k ∧ L' = [dy b code (p + 1) cR] ∧ 0 ≤ k ∧ (k < n ∨ k = 0)):=by
 obtain ⟨h1,⟨rfl,h2⟩ | ⟨c,o,cap,rfl,h2,h3⟩⟩:=id hs
 ·refine jH [(0,_),(1,_)] Tryz.func28 Tryz.ntmps28 fun B hB hW=>?_
  repeat' (first | (refine run (t:=tb) 400 F ?_ ?_;(focus (repeat' (first | exact trivial | apply And.intro | omega)))) | (refine jo ?_;first | refine ah F ?_ | refine jD F F F ?_ | refine jV (ar F) ?_ | refine aH F ?_ | refine av F ?_) | refine dF F F (fun _=>?_) (fun _=>?_) | refine ac F F ?_)
  all_goals exact aN (vs:=[_]) F ⟨F,trivial⟩ F (List.Sublist.refl _) ⟨F,_,F,F,oM,oM⟩
 ·have b1:=gD l (p + 1 - 1).toNat
  have b2:=gD l ((p + 1 - 1) % (l.length : Int)).toNat
  have b3:=gD l (((p + 1 - 1) * 7 + 3) % (l.length : Int)).toNat
  have e1:=fun h=>Int.emod_nonneg (p + 1 - 1) (b:=(l.length : Int)) h
  have e2:=fun h=>Int.emod_lt_of_pos (p + 1 - 1) (b:=(l.length : Int)) h
  have e3:=fun h=>Int.emod_nonneg ((p + 1 - 1) * 7 + 3) (b:=(l.length : Int)) h
  have e4:=fun h=>Int.emod_lt_of_pos ((p + 1 - 1) * 7 + 3) (b:=(l.length : Int)) h
  have e5:=fun h=>Int.ediv_nonneg (a:=p + 1 - 1) (b:=(l.length : Int)) h oM
  have e6:=fun h=>Int.ediv_le_self (a:=p + 1 - 1) (l.length : Int) h
  refine jH [(0,_),(1,_)] Tryz.func28 Tryz.ntmps28 fun B hB hW=>?_
  repeat' (first | (refine run (t:=tb) 400 F ?_ ?_;(focus (repeat' (first | exact trivial | apply And.intro | omega)))) | (refine jo ?_;first | refine ah F ?_ | (refine jV (t5 F aS ?_) ?_;focus omega) | refine jD F F F ?_ | refine jV (ar F) ?_ | refine aH F ?_ | refine av F ?_ | refine jV (aQ F F oM) ?_ | refine jV (zI F F oM) ?_) | refine dF F F (fun _=>?_) (fun _=>?_) | refine ac F F ?_ | refine cB F (fun _=>?_) (fun _=>?_) | (refine aj (am (id:=7) _ (fun _ h=>h) ai ?_);refine jU 24 [0,1,2,4,5,6,7,15,16,17,19,20,21,22,23,24,33,34,36,37,38,39] (aa 46 1056595214583) ?_ ?_;(focus (repeat' (first | exact trivial | apply And.intro | omega)));(refine jG (aa 46 1056595214591) 3 F (aq F F F) ?_);(refine jG (aa 46 1056595214847) 8 F (aq F F F) ?_);(refine jG (aa 46 1056595215359) 9 F (ar F) ?_);refine jU 20 [10] (aa 46 1056595216383) ?_ ?_;(focus (repeat' (first | exact trivial | apply And.intro | omega)));(refine jG (aa 46 1056595218431) 11 F (aQ F F oM) ?_);((refine jG (aa 46 1056595222527) 12 F (t5 F aS ?_) ?_;focus omega));refine jU 16 [13,14] (aa 46 1056595247103) ?_ ?_;(focus (repeat' (first | exact trivial | apply And.intro | omega)));(refine jG (aa 46 1056595509247) 18 F (aq F F F) ?_);(refine jG (aa 46 1056629063679) 25 F (aq F F F) ?_);(refine jG (aa 46 1056696172543) 26 F (ar F) ?_);refine jU 12 [27] (aa 46 1056830390271) ?_ ?_;(focus (repeat' (first | exact trivial | apply And.intro | omega)));(refine jG (aa 46 1057098825727) 28 F (aQ F F oM) ?_);((refine jG (aa 46 1057635696639) 29 F (t5 F aS ?_) ?_;focus omega));refine jU 6 [30,31,32,35] (aa 46 1099511627775) ?_ ?_;(focus (repeat' (first | exact trivial | apply And.intro | omega)));(refine jG (aa 46 2199023255551) 40 F (aq F F F) ?_);(refine jG (aa 46 4398046511103) 41 F (ar F) ?_);refine jU 0 [42,43,44,45] (aa 46 70368744177663) ?_ ?_;(focus (repeat' (first | exact trivial | apply And.intro | omega)));refine jQ ?_))
  all_goals (first | exact aN (vs:=[_]) F ⟨F,trivial⟩ F (List.Sublist.refl _) ⟨F,_,F,F,oM,oM⟩ | exact aN (vs:=[_]) F ⟨F,trivial⟩ F (List.Sublist.refl _) ⟨F,_,F,F,Int.emod_nonneg _ oM,.inl (Int.emod_lt_of_pos _ oM)⟩ | exact xz _ _)
theorem qm {r : Nat} {code : Value} {p : Int} {l : acA} (hp : 0 ≤ p ∧ p ≤ 900000000000) (hs : bj G code 1 l.length (bz l)) :
  bV acz 110 [Pt r 0] G [dy r code p cR] (fun v L'=>∃ x q,v = S x ∧ x.length ≤ 400 ∧ L' = [dy r code q cR] ∧ p ≤ q ∧ q ≤ p + 10):=by
 refine jH [(0,_)] Tryz.func110 Tryz.ntmps110 fun B hB hW=>?_
 repeat' (first | refine jR ?_ | (refine jo ?_;first | refine jF fun _=>?_ | refine jV (aQ F F oM) ?_ | (refine eK 64 F F F ?_ F (fun xs hxs=>?_);(focus ((simp only [List.length_append,List.length_cons,List.length_nil,List.length_take];omega);done))) | (refine af F F F (cA ?_ (by (repeat (assumption));done)) rfl ?_;(focus omega);rintro _ _ ⟨k,rfl,rfl,hk0,hk1⟩;dsimp only [zA,fA])))
 refine aR (ι:=acA × Int × Int) (fun j=>(0 ≤ j.2.1 ∧ j.2.1 ≤ 3) ∧ ((j.1.length : Nat) : Int) ≤ 64 * (4 - j.2.1) ∧ p ≤ j.2.2 ∧ j.2.2 ≤ p + 5 - j.2.1) (fun j=>[(0,Pt r 0),(3,S j.1),(4,I j.2.1)]) (fun _=>G) (fun j=>[dy r code j.2.2 cR]) (fun j=>j.2.1.toNat) (xs,k,p + 1 + 1) ?_ tU F sB (fun j Hj=>?_)
 ·dsimp only;omega
 obtain ⟨s,kk,q⟩:=j
 dsimp only at Hj ⊢
 obtain ⟨hk,hsl,hq0,hq1⟩:=Hj
 by_cases h1 : 1 < kk
 ·repeat' (first | refine jM ?_ | (refine jo ?_;first | refine jF fun _=>?_ | refine jV (aQ F F oM) ?_ | (refine eK 64 F F F ?_ F (fun xs hxs=>?_);(focus ((simp only [List.length_append,List.length_cons,List.length_nil,List.length_take];omega);done))) | (refine af F F F (cA ?_ (by (repeat (assumption));done)) rfl ?_;(focus omega);rintro _ _ ⟨k,rfl,rfl,hk0,hk1⟩;dsimp only [zA,fA])) | refine ac F (ay ‹_›) ?_)
  exact aW (xs ++ s,kk - 1,q + 1) (by dsimp only;rw [List.length_append];omega) (by dsimp only;omega) tU rfl sB
 ·repeat' (first | refine jR ?_ | (refine jo ?_;first | refine jF fun _=>?_ | refine jV (aQ F F oM) ?_ | (refine eK 64 F F F ?_ F (fun xs hxs=>?_);(focus ((simp only [List.length_append,List.length_cons,List.length_nil,List.length_take];omega);done))) | (refine af F F F (cA ?_ (by (repeat (assumption));done)) rfl ?_;(focus omega);rintro _ _ ⟨k,rfl,rfl,hk0,hk1⟩;dsimp only [zA,fA])) | refine ad F (aB ‹_›) ?_ | refine cB F (fun _=>?_) (fun _=>?_))
  all_goals exact aN (vs:=[_]) F ⟨F,trivial⟩ F sB ⟨F,_,_,F,oM,F,oM,oM⟩
theorem vJ {r : Nat} {code : Value} {p : Int} {l : acA} (hp : 0 ≤ p ∧ p ≤ 900000000000) (hs : bj G code 1 l.length (bz l)) :
  bV acz 147 [Pt r 0] G [dy r code p cR] (fun v L'=>∃ x q,v = S (39 :: (x ++ [39])) ∧ x.length ≤ 64 ∧ L' = [dy r code q cR] ∧ p ≤ q ∧ q ≤ p + 10):=by
 refine jH [(0,_)] Tryz.func147 Tryz.ntmps147 fun B hB hW=>?_
 repeat' (first | refine jX ?_ | (refine jo ?_;first | refine jF fun _=>?_ | refine jV (aQ F F oM) ?_ | (refine eK 64 F F F ?_ F (fun xs hxs=>?_);(focus ((simp only [List.length_append,List.length_cons,List.length_nil,List.length_take];omega);done))) | (refine af F F F (cA ?_ (by (repeat (assumption));done)) rfl ?_;(focus omega);rintro _ _ ⟨k,rfl,rfl,hk0,hk1⟩;dsimp only [zA,fA])))
 exact aN (vs:=[_]) F ⟨F,trivial⟩ F sB ⟨F,xs,_,F,oM,F,oM,oM⟩
theorem ui {r : Nat} {code : Value} {p tag : Int} {l so nm : acA} (hp : 0 ≤ p ∧ p ≤ 800000000000) (hs : bj G code 1 l.length (bz l)) (ht : 0 ≤ tag ∧ tag ≤ 1000000) (hnm : nm.length ≤ 100) :
  bV acz 150 [Pt r 0,S so,I tag,S nm] G [dy r code p cR] (fun v L'=>∃ x q,v = S x ∧ x.length ≤ 1000 ∧ L' = [dy r code q cR] ∧ p ≤ q ∧ q ≤ p + 20):=by
 have hdl:=f5 (n:=tag) oM
 refine jH [(0,_),(1,_),(2,_),(3,_)] Tryz.func150 Tryz.ntmps150 fun B hB hW=>?_
 repeat' (first | refine jX ?_ | (refine jo ?_;first | refine aH F ?_ | refine av F ?_ | refine jF fun _=>?_ | refine jV (aQ F F oM) ?_ | (refine eK 64 F F F ?_ F (fun xs hxs=>?_);(focus ((simp only [List.length_append,List.length_cons,List.length_nil,List.length_take];omega);done))) | refine ab F F F (eL oM) F ?_ | (refine af F F F (qm ?_ (by (repeat (assumption));done)) rfl ?_;(focus omega);rintro _ _ ⟨kd,q1,rfl,hkd,rfl,hq1,hq2⟩;dsimp only [zA,fA]) | (refine af F F F (cA ?_ (by (repeat (assumption));done)) rfl ?_;(focus omega);rintro _ _ ⟨k,rfl,rfl,hk0,hk1⟩;dsimp only [zA,fA])) | refine dF F F (fun _=>?_) (fun _=>?_) | refine ad F F ?_ | refine cB F (fun _=>?_) (fun _=>?_))
 all_goals exact aN (vs:=[_]) F ⟨F,trivial⟩ F sB ⟨F,_,_,F,by simp only [List.length_append,List.length_cons,List.length_nil];omega,rfl,oM,oM⟩
theorem vI {r : Nat} {code : Value} {p : Int} {l so nm : acA} (hp : 0 ≤ p ∧ p ≤ 700000000000) (hs : bj G code 1 l.length (bz l)) (hso : so.length ≤ 64) (hnm : nm.length ≤ 64) :
  bV acz 109 [Pt r 0,S so,S nm] G [dy r code p cR] (fun v L'=>∃ x q,v = S x ∧ x.length ≤ 6000 ∧ 1 ≤ x.length ∧ L' = [dy r code q cR] ∧ p ≤ q ∧ q ≤ p + 200):=by
 refine jH [(0,_),(1,_),(2,_)] Tryz.func109 Tryz.ntmps109 fun B hB hW=>?_
 repeat' (first | refine jX ?_ | (refine jo ?_;first | refine aH F ?_ | refine av F ?_ | (refine af F F F (cA ?_ (by (repeat (assumption));done)) rfl ?_;(focus omega);rintro _ _ ⟨k,rfl,rfl,hk0,hk1⟩;dsimp only [zA,fA])) | refine dF F F (fun _=>?_) (fun _=>?_) | refine ad F F ?_ | refine cB F (fun _=>?_) (fun _=>?_))
 all_goals
  have cx_pk2 : ∀ {p : Int},0 ≤ p ∧ p ≤ 1000000000000 → bV acz 28 [Pt r 0,I 2] G [dy r code p cR] (fun v L'=>L' = [dy r code (p + 1) cR] ∧ (v = I 0 ∨ v = I 1)):=fun {p} hp=>(cA (b:=r) (p:=p) (n:=2) ⟨hp.1,hp.2,by decide⟩ hs).mono fun v G' L' ⟨h1,k,h2,h3,h4,h5⟩=>⟨h1,h3,by subst h2;rcases (show k = 0 ∨ k = 1 by omega) with rfl | rfl;exact .inl F;exact .inr F⟩
  refine aR (ι:=acA × Int × Int × Int × Int) (fun j=>(0 ≤ j.2.2.1 ∧ j.2.2.1 ≤ j.2.2.2.1 ∧ j.2.2.2.1 ≤ 4) ∧ (0 ≤ j.2.1 ∧ j.2.1 ≤ 10 * j.2.2.1) ∧ (1 ≤ j.1.length ∧ ((j.1.length : Nat) : Int) ≤ 200 + 1001 * j.2.2.1) ∧ p ≤ j.2.2.2.2 ∧ j.2.2.2.2 ≤ p + 4 + 30 * j.2.2.1) (fun j=>[(0,Pt r 0),(1,S so),(7,S j.1),(8,I j.2.1),(9,I j.2.2.2.1),(10,I j.2.2.1)]) (fun _=>G) (fun j=>[dy r code j.2.2.2.2 cR]) (fun j=>(j.2.2.2.1 - j.2.2.1).toNat) (so ++ nm ++ [61],0,0,_,_) ?_ tU F aX (fun j Hj=>?_)
  ·dsimp only;simp only [List.length_append,List.length_cons,List.length_nil];omega
  obtain ⟨s,tag,kk,n,q⟩:=j
  dsimp only at Hj ⊢
  obtain ⟨hk,htg,hsl,hq0,hq1⟩:=Hj
  by_cases h1 : kk < n
  ·repeat' (first | refine jX ?_ | (refine jo ?_;first | refine jF fun _=>?_ | refine jV (dc F F (by (repeat (first | exact BL.nil | apply BL.cons));done)) ?_ | (refine af F F F (cx_pk2 oM) F ?_;rintro _ _ ⟨rfl,rfl | rfl⟩ <;> dsimp only [zA,fA]) | (refine af F F F (cA ?_ (by (repeat (assumption));done)) rfl ?_;(focus omega);rintro _ _ ⟨k,rfl,rfl,hk0,hk1⟩;dsimp only [zA,fA]) | (refine af F F F (ui ?_ (by (repeat (assumption));done) ?_ ?_) rfl ?_;(focus omega);(focus omega);(focus ((simp;done);done));rintro _ _ ⟨fd,q1,rfl,hfd,rfl,hq1,hq2⟩;dsimp only [zA,fA])) | refine ac F (ay ‹_›) ?_ | refine cB F (fun _=>?_) (fun _=>?_))
   all_goals (refine aW (_,_,kk + 1,n,_) ?_ ?_ tU F sB)
   all_goals (first | (dsimp only;simp only [List.length_append,List.length_cons,List.length_nil];omega) | (dsimp only;omega))
  ·repeat' (first | refine jX ?_ | refine ad F (aB ‹_›) ?_)
   exact aN (vs:=[_]) F ⟨F,trivial⟩ F aX ⟨F,_,_,F,by simp only [List.length_append,List.length_cons,List.length_nil];omega,by simp only [List.length_append,List.length_cons,List.length_nil];omega,rfl,oM,oM⟩
theorem sr {r : Nat} {code : Value} {p : Int} {l : acA} (hp : 0 ≤ p ∧ p ≤ 600000000000) (hs : bj G code 1 l.length (bz l)) :
  bV acz 72 [Pt r 0] G [dy r code p cR] (fun v L'=>∃ x q,v = S x ∧ x.length ≤ 20000 ∧ L' = [dy r code q cR] ∧ p ≤ q ∧ q ≤ p + 700):=by
 refine jH [(0,_)] Tryz.func72 Tryz.ntmps72 fun B hB hW=>?_
 repeat' (first | refine jX ?_ | (refine jo ?_;first | refine jF fun _=>?_ | refine jV (aQ F F oM) ?_ | (refine eK 64 F F F ?_ F (fun xs hxs=>?_);(focus ((simp only [List.length_append,List.length_cons,List.length_nil,List.length_take];omega);done))) | refine aH F ?_ | refine av F ?_ | (refine af F F F (vI ?_ (by (repeat (assumption));done) ?_ ?_) rfl ?_;(focus omega);(focus ((first | assumption | (simp;done));done));(focus ((simp;done);done));rintro _ _ ⟨ty,q1,rfl,hty,hty1,rfl,hq1,hq2⟩;dsimp only [zA,fA]) | (refine af F F F (cA ?_ (by (repeat (assumption));done)) rfl ?_;(focus ((first | omega | (simp;omega));done));rintro _ _ ⟨k,rfl,rfl,hk0,hk1⟩;dsimp only [zA,fA]) | (refine ab F F F (m5 ?_) F ?_;(focus ((simp;omega);done)))) | refine i2 F F (fun _=>?_) (fun _=>?_) | refine ad F F ?_ | refine cB F (fun _=>?_) (fun _=>?_))
 all_goals (first | exact aN (vs:=[_]) F ⟨F,trivial⟩ F sB ⟨F,_,_,F,by (simp only [List.length_append,List.length_cons,List.length_nil,List.length_take,List.length_drop];omega),rfl,oM,oM⟩ | skip)
 all_goals simp only [List.length_append,List.length_cons,List.length_nil] at hk1
 all_goals (refine aj (am (id:=6) [] (fun _ h=>absurd h (by simp)) ai ?_);refine jW 7 [0,1,2,4,9,10,11,12] (aa 15 7703) ?_;refine cl [3,5] kR dC ⟨?_,?_,trivial⟩;(focus (refine bc F F ?_;(refine jF fun _=>?_);refine jK (aa 15 7711) ?_;refine jA 5 F ?_;((refine af F F F (cA ?_ (by (repeat (assumption));done)) rfl ?_;(focus omega);rintro _ _ ⟨k,rfl,rfl,hk0,hk1⟩;dsimp only [zA,fA]));refine jK (aa 15 7743) ?_;((refine jG (aa 15 7807) 6 F (aQ F F ?_) ?_;focus omega));refine jA 7 F ?_;((refine eK 64 F F F ?_ F (fun xs hxs=>?_);(focus ((simp only [List.length_append,List.length_cons,List.length_nil,List.length_take];omega);done))));refine jK (aa 15 7935) ?_;refine jW 0 [8,13,14] (aa 15 32767) ?_;refine jQ ?_));rotate_left 1;(focus (refine bc F F ?_;((refine af F F F (cA ?_ (by (repeat (assumption));done)) rfl ?_;(focus omega);rintro _ _ ⟨k,rfl,rfl,hk0,hk1⟩;dsimp only [zA,fA]));refine jK (aa 15 7735) ?_;refine jA 3 F ?_;(refine jF fun _=>?_);refine jK (aa 15 7743) ?_;((refine jG (aa 15 7807) 6 F (aQ F F ?_) ?_;focus omega));refine jA 7 F ?_;((refine eK 64 F F F ?_ F (fun xs hxs=>?_);(focus ((simp only [List.length_append,List.length_cons,List.length_nil,List.length_take];omega);done))));refine jK (aa 15 7935) ?_;refine jW 0 [8,13,14] (aa 15 32767) ?_;refine jQ ?_));rotate_left 1)
 all_goals repeat' (refine jR ?_)
 all_goals exact aN (vs:=[_]) F ⟨F,trivial⟩ F sB ⟨F,_,_,F,by (simp only [List.length_append,List.length_cons,List.length_nil,List.length_take,List.length_drop];omega),rfl,oM,oM⟩
theorem ij {r : Nat} {code : Value} {p : Int} {l s : acA} (hp : 0 ≤ p ∧ p ≤ 600000000000) (hs : bj G code 1 l.length (bz l)) (hsl : s.length ≤ 10000000) :
  bV acz 73 [Pt r 0,S s] G [dy r code p cR] (fun v L'=>∃ x q,v = S x ∧ x.length ≤ 400 ∧ L' = [dy r code q cR] ∧ p ≤ q ∧ q ≤ p + 20):=by
 have cx_lkg : ∀ {k : acA} (G : Gh),k.length ≤ 1000 → bo acz 83 [S s,S k] G (fun v _=>∃ u b,v = Tu [u,Bo b]):=fun {k} G h=>(d9 (G:=G) (s:=s) (k:=k) oM oM).mono fun v G' L' ⟨h1,h2,u,vs,h3,_⟩=>⟨h1,h2,u,_,h3⟩
 refine jB (Post:=fun v G' L'=>G' = G ∧ _) [(0,_),(1,_)] Tryz.func73 Tryz.ntmps73 fun B hok hB hW=>?_
 repeat' (first | refine jR ?_ | (refine jo ?_;first | refine jF fun _=>?_ | refine jV (aQ F F oM) ?_ | (refine eK 64 F F F ?_ F (fun xs hxs=>?_);(focus ((simp only [List.length_append,List.length_cons,List.length_nil,List.length_take];omega);done))) | (refine af F F F (cA ?_ (by (repeat (assumption));done)) rfl ?_;(focus omega);rintro _ _ ⟨k,rfl,rfl,hk0,hk1⟩;dsimp only [zA,fA]) | (refine af F F F (qm ?_ (by (repeat (assumption));done)) rfl ?_;(focus omega);rintro _ _ ⟨kd,q1,rfl,hkd,rfl,hq1,hq2⟩;dsimp only [zA,fA]) | (refine aI F F F ((cx_lkg _) oM) F ?_;rintro _ G hle ⟨u1,b1,rfl⟩;skip)) | refine cB F (fun _=>?_) (fun _=>?_) | refine kV F (fun _=>?_) (fun _=>?_))
 all_goals refine Nx.base hok hB ?_
 all_goals exact aN (vs:=[_]) F ⟨F,trivial⟩ F sB ⟨F,_,_,F,by (first | omega | (simp only [List.length_append,List.length_cons,List.length_nil,List.length_take,List.length_drop];omega)),rfl,oM,oM⟩
def ep (u : Value) (vs : List bP) (k : acA) (deep cp : Int) (ct : Nat) : Prop:=∀ (G : Gh) (r : Nat) (code : Value) (p : Int) (l : acA),SchR G u vs → bj G code 1 l.length (bz l) → 0 ≤ p ∧ p + cp ≤ 600000000000 →
 di acz 103 [Pt r 0,u,S k,I deep] G [dy r code p cR] (fun v G' L'=>∃ w b q,v = Pt b 0 ∧ RepR G' (ag vs) w k b ∧ w.tot ≤ ct ∧ 1 ≤ w.out.length ∧ L' = [dy r code q cR] ∧ p ≤ q ∧ q ≤ p + cp)
theorem ep.le {u : Value} {vs : List bP} {k : acA} {deep cp cp' : Int} {ct ct' : Nat} (h : ep u vs k deep cp ct) (h1 : cp ≤ cp') (h2 : ct ≤ ct') : ep u vs k deep cp' ct':=fun G r code p l h3 h4 h5 =>
 (h G r code p l h3 h4 ⟨h5.1,oM⟩).mono fun _ _ _ ⟨h6,w,b,q,h7,h8,h9,h10,h11,h12,h13⟩=>⟨h6,w,b,q,h7,h8,oM,h10,h11,h12,oM⟩
theorem pu {u : Value} {vs : List bP} {deep : Int} : ep u vs [102] deep 15 200:=by
 intro G r code p l hR hs hp
 have cx_pk2 : ∀ {p : Int},0 ≤ p ∧ p ≤ 1000000000000 → bV acz 28 [Pt r 0,I 2] G [dy r code p cR] (fun v L'=>L' = [dy r code (p + 1) cR] ∧ (v = I 0 ∨ v = I 1)):=fun {p} hp=>(cA (b:=r) (p:=p) (n:=2) ⟨hp.1,hp.2,by decide⟩ hs).mono fun v G' L' ⟨h1,k,h2,h3,h4,h5⟩=>⟨h1,h3,by subst h2;rcases (show k = 0 ∨ k = 1 by omega) with rfl | rfl;exact .inl F;exact .inr F⟩
 refine bI [(0,_),(1,_),(2,_),(3,_)] Tryz.func103 kR Tryz.ntmps103 F F tU fun B hB hW=>?_
 repeat' (first | refine jX ?_ | (refine jo ?_;first | refine jV (ak F F) ?_ | refine jO fun _=>?_ | refine jF fun _=>?_ | refine jV (aQ F F oM) ?_ | refine ah F ?_ | refine jD F F F ?_ | (refine af F F F (cx_pk2 oM) F ?_;rintro _ _ ⟨rfl,rfl | rfl⟩ <;> dsimp only [zA,fA])) | refine ac F F ?_ | refine ad F F ?_)
 all_goals rename_i y _
 all_goals refine Nx.sealC (b:=y) fun G2 hG2 hsy=>?_
 ·exact aN (vs:=[_]) F ⟨F,trivial⟩ F sB ⟨hG2,.nd 102 [121,101,115] 0 [],y,_,F,.leaf 102 _ _ _ y hsy (.inr (.inr ⟨F,F,F,.inl F⟩)),by simp [bY,V.tots],by rw [V.out];simp [dh],rfl,oM,oM⟩
 ·exact aN (vs:=[_]) F ⟨F,trivial⟩ F sB ⟨hG2,.nd 102 [110,111] 0 [],y,_,F,.leaf 102 _ _ _ y hsy (.inr (.inr ⟨F,F,F,.inr F⟩)),by simp [bY,V.tots],by rw [V.out];simp [dh],rfl,oM,oM⟩
abbrev tJ : TypeId:=60
theorem aal {m : Int} (h : 0 ≤ m) : ∀ c ∈ bw m,a7 c = true:=(ig m.toNat (Nat.le_refl _) h).2
theorem rr {u : Value} {vs : List bP} {deep : Int} : ep u vs [110] deep 15 200:=by
 intro G r code p l hR hs hp
 refine bI [(0,_),(1,_),(2,_),(3,_)] Tryz.func103 kR Tryz.ntmps103 F F tU fun B hB hW=>?_
 repeat' (first | refine jX ?_ | (refine jo ?_;first | refine jV (ak F F) ?_ | refine jO fun _=>?_ | refine jF fun _=>?_ | refine jV (aQ F F oM) ?_ | (refine aaC 999999 F F F ?_ ?_ (fun iz hz0 hz1=>?_);(focus ((simp only [List.length_append,List.length_cons,List.length_nil,List.length_take];omega);done));(focus ((repeat' (first | exact tZ | refine sm ⟨oM,oM⟩ ?_));done))) | refine jD F F F ?_ | (refine af F F F (cA ?_ (by (repeat (assumption));done)) rfl ?_;(focus omega);rintro _ _ ⟨k,rfl,rfl,hk0,hk1⟩;dsimp only [zA,fA]) | refine ab F F F (eL oM) F ?_) | refine ac F F ?_)
 rename_i y _ _ _ _
 have hdl:=f5 (n:=iz) oM
 have hdp:=gT iz
 refine Nx.sealC (b:=y) fun G2 hG2 hsy=>?_
 exact aN (vs:=[_]) F ⟨F,trivial⟩ F sB ⟨hG2,.nd 110 (bw iz) 0 [],y,_,F,.leaf 110 _ _ _ y hsy (.inl ⟨F,F,F,aal hz0⟩),by rw [bY,V.tots];omega,by rw [V.out];exact hdp,F,oM,oM⟩
theorem rp {u : Value} {vs : List bP} {deep : Int} : ep u vs [116] deep 15 200:=by
 intro G r code p l hR hs hp
 refine bI [(0,_),(1,_),(2,_),(3,_)] Tryz.func103 kR Tryz.ntmps103 F F tU fun B hB hW=>?_
 repeat' (first | refine jX ?_ | (refine jo ?_;first | refine jV (ak F F) ?_ | refine jO fun _=>?_ | refine jD F F F ?_ | (refine af F F F (vJ ?_ (by (repeat (assumption));done)) rfl ?_;(focus omega);rintro _ _ ⟨tx,q1,rfl,htx,rfl,hq1,hq2⟩;dsimp only [zA,fA])) | refine ac F F ?_ | refine ad F F ?_)
 rename_i y
 refine Nx.sealC (b:=y) fun G2 hG2 hsy=>?_
 exact aN (vs:=[_]) F ⟨F,trivial⟩ F aX ⟨hG2,.nd 116 tx 0 [],y,_,F,.leaf 116 _ _ _ y hsy (.inr (.inl ⟨F,F,F⟩)),by rw [bY,V.tots];omega,by rw [V.out];simp [dh],rfl,oM,oM⟩
theorem tR {ts : List Ty} {k : acA} {ks : List V} {bs : List Nat} {w : V} {b : Nat} (hl : bs.length = ks.length) (h : ∀ i,i < ks.length → RepR G ts (ae ks i) k (ae bs i)) (hw : RepR G ts w k b) : ∀ i,i < (ks ++ [w]).length → RepR G ts (ae (ks ++ [w]) i) k (ae (bs ++ [b]) i):=fun i hi=>by
 by_cases h1 : i < ks.length
 ·have e1 : ae (ks ++ [w]) i = ae ks i:=by rw [aV hi,aV h1,List.getElem_append_left h1]
  have e2 : ae (bs ++ [b]) i = ae bs i:=by rw [aV (by simp;omega),aV oM,List.getElem_append_left oM]
  rw [e1,e2];exact h i h1
 ·have h2 : i = ks.length:=by simp at hi;omega
  have e1 : ae (ks ++ [w]) i = w:=by rw [aV hi];simp [h2]
  have e2 : ae (bs ++ [b]) i = b:=by rw [aV (by simp;omega)];simp [h2,hl]
  rw [e1,e2];exact hw
theorem pt {u : Value} {vs : List bP} {kd : acA} {deep cp : Int} {ct : Nat} (hcp : 0 ≤ cp ∧ cp ≤ 100000000) (hct : ct ≤ 100000000) (hD : 0 < deep → ep u vs kd (deep - 1) cp ct) (hu : u.oneCell' = true) (hkl : kd.length ≤ 1000) (hd : -1000 ≤ deep ∧ deep ≤ 1000) : ep u vs (91 :: kd) deep (3 * cp + 10) (3 * ct + 200):=by
 intro G r code p l hR hs hp
 have hkd0 : bt (91 :: kd) (Int.toNat 0) = 91:=bh 91 kd
 have hkl2 : (91 :: kd).length = kd.length + 1:=rfl
 refine bI [(0,_),(1,_),(2,_),(3,_)] Tryz.func103 kR Tryz.ntmps103 F F tU fun B hB hW=>?_
 repeat' (first | refine jM ?_ | (refine jo ?_;first | refine jV (ak F F) ?_ | refine jO fun _=>?_ | (refine af F F F (cA ?_ (by (repeat (assumption));done)) rfl ?_;(focus omega);rintro _ _ ⟨k,rfl,rfl,hk0,hk1⟩;dsimp only [zA,fA])) | refine ac F F ?_ | refine ad F F ?_)
 rename_i y
 refine Nx.addNil tJ 1 ?_
 refine aR (ι:=List V × List Nat × Option Addr × Nat × Int × Int × Gh) (fun j=>((j.2.1.length = j.1.length ∧ ∀ i,i < j.1.length → RepR j.2.2.2.2.2.2 (ag vs) (ae j.1 i) kd (ae j.2.1 i)) ∧ Gh.le G j.2.2.2.2.2.2) ∧ (0 ≤ j.2.2.2.2.1 ∧ ((j.1.length : Nat) : Int) + j.2.2.2.2.1 ≤ 3) ∧ V.tots j.1 ≤ ct * j.1.length ∧ p ≤ j.2.2.2.2.2.1 ∧ j.2.2.2.2.2.1 ≤ p + 1 + cp * ((j.1.length : Nat) : Int)) (fun j=>[(0,Pt r 0),(1,u),(2,S (91 :: kd)),(3,I deep),(9,Pt y 0),(10,I j.2.2.2.2.1)]) (fun j=>j.2.2.2.2.2.2) (fun j=>[.acc (.slice j.2.2.1 j.1.length j.2.2.2.1) tJ 1 j.1.length (aF eE j.2.1),dy r code j.2.2.2.2.2.1 cR,.blk y (.cells (List.toArray [S (91 :: kd),S [],aL,.slice j.2.2.1 j.1.length j.2.2.2.1]) pI (0,0))]) (fun j=>j.2.2.2.2.1.toNat) ([],[],none,0,k,p + 1,G) ?_ tU F aX (fun j Hj=>?_)
 ·refine ⟨⟨⟨F,fun i hi=>absurd hi (by simp)⟩,Gh.le.refl _⟩,?_,?_,?_,?_⟩
  ·dsimp only;simp only [List.length_nil];omega
  ·simp [V.tots]
  ·dsimp only;omega
  ·dsimp only;simp
 obtain ⟨ks,bs,a,c,kk,q,Gq⟩:=j
 dsimp only at Hj ⊢
 obtain ⟨⟨⟨hbl,hreps⟩,hgq⟩,hk,htt,hq0,hq1⟩:=Hj
 have hcl : cp * ((ks.length : Nat) : Int) ≤ cp * 3:=Int.mul_le_mul_of_nonneg_left oM hcp.1
 have hcl0 : 0 ≤ cp * ((ks.length : Nat) : Int):=Int.mul_nonneg hcp.1 oM
 have htl : ct * ks.length ≤ ct * 3:=Nat.mul_le_mul_left _ oM
 by_cases hgo : 0 < kk ∧ 0 < deep
 ·obtain ⟨hk0,hd0⟩:=hgo
  have hcl3 : cp * ((ks.length : Nat) : Int) + cp ≤ cp * 3:=by
   have:=Int.mul_le_mul_of_nonneg_left (show ((ks.length : Nat) : Int) + 1 ≤ 3 by omega) hcp.1
   rwa [Int.mul_add,Int.mul_one] at this
  have cx_dv:=fun {p : Int} (hp : 0 ≤ p ∧ p + cp ≤ 600000000000)=>hD hd0 Gq r code p l (hR.mono hgq) (hs.mono hgq) hp
  repeat' (first | refine jR ?_ | (refine jo ?_;refine aH F ?_) | refine aA F F (ay ‹_›) ?_ | refine ac F (ay ‹_›) ?_)
  (refine aj (am (id:=16) [] (fun _ h=>absurd h (by simp)) ai ?_);refine jW 7 [0,1,2,3,5,6,7,8,9,10] (aa 17 2031) ?_;refine cl [4,11] kR dC ⟨?_,?_,trivial⟩;(focus (refine bc F F ?_;(refine ah F ?_);refine jK (aa 17 2047) ?_;refine jA 11 F ?_;((refine cP F F F (cx_dv ?_) F ?_;(focus omega);rintro _ G1 _ hle ⟨w1,b1,q1,rfl,hrep,htot,hone,rfl,hq1,hq2⟩;dsimp only [zA,fA];skip));refine jK (aa 17 4095) ?_;refine jA 12 F ?_;(refine jF fun _=>?_);refine jK (aa 17 8191) ?_;refine jA 13 F ?_;((refine bW F F F F F F F F F ?_ fun _ _=>?_;focus omega));refine jK (aa 17 16383) ?_;refine jW 1 [14,15] (aa 17 65535) ?_;refine jA 16 F ?_;(refine jD F F F ?_);refine jK (aa 17 131071) ?_;refine jQ ?_));rotate_left 1;(focus (refine bc F F ?_;((refine cP F F F (cx_dv ?_) F ?_;(focus omega);rintro _ G1 _ hle ⟨w1,b1,q1,rfl,hrep,htot,hone,rfl,hq1,hq2⟩;dsimp only [zA,fA];skip));refine jK (aa 17 4079) ?_;refine cl [4,12] kR dC ⟨?_,?_,trivial⟩;(focus (refine bc F F ?_;(refine ah F ?_);refine jK (aa 17 4095) ?_;refine jA 12 F ?_;(refine jF fun _=>?_);refine jK (aa 17 8191) ?_;refine jA 13 F ?_;((refine bW F F F F F F F F F ?_ fun _ _=>?_;focus omega));refine jK (aa 17 16383) ?_;refine jW 1 [14,15] (aa 17 65535) ?_;refine jA 16 F ?_;(refine jD F F F ?_);refine jK (aa 17 131071) ?_;refine jQ ?_));rotate_left 1;(focus (refine bc F F ?_;(refine jF fun _=>?_);refine jK (aa 17 8175) ?_;refine jA 4 F ?_;(refine ah F ?_);refine jK (aa 17 8191) ?_;refine jA 13 F ?_;((refine bW F F F F F F F F F ?_ fun _ _=>?_;focus omega));refine jK (aa 17 16383) ?_;refine jW 1 [14,15] (aa 17 65535) ?_;refine jA 16 F ?_;(refine jD F F F ?_);refine jK (aa 17 131071) ?_;refine jQ ?_));rotate_left 1));rotate_left 2)
  all_goals repeat' (refine jM ?_)
  all_goals
   rename_i _ y1 yc
   have hl1 : (ks ++ [w1]).length = ks.length + 1:=by simp
   have hms : ct * (ks.length + 1) = ct * ks.length + ct:=Nat.mul_succ _ _
   have hts : V.tots (ks ++ [w1]) = V.tots ks + w1.tot:=by simp [eR,V.tots]
   rw [show aF eE bs ++ [Pt b1 0] = aF eE (bs ++ [b1]) from (cj eE bs b1).symm]
   exact aW (ks ++ [w1],bs ++ [b1],some ⟨y1,0,none⟩,yc,kk - 1,q1,G1) ⟨⟨⟨by simp [hbl],tR hbl (fun i hi=>(hreps i hi).mono hle) hrep⟩,hgq.trans hle⟩,by dsimp only;rw [hl1];omega,by dsimp only;rw [hl1,hms,hts];omega,by dsimp only;omega,by dsimp only;rw [hl1,Int.natCast_succ,Int.mul_add,Int.mul_one];omega⟩ (by dsimp only;omega) tU rfl (by rw [hl1];repeat (first | exact List.Sublist.refl _ | apply List.Sublist.cons_cons | apply List.Sublist.cons))
 ·have : kk = 0 ∨ deep ≤ 0:=oM
  repeat' (first | refine jR ?_ | (refine jo ?_;first | refine aH F ?_ | refine av F ?_) | refine dF F F (fun _=>?_) (fun _=>?_) | (refine ad F (by first | rfl | (refine decide_eq_false ?_;(omega))) ?_))
  all_goals
   refine Nx.sealS (v:=.slice a ks.length c) fun G2 hG2 hsl=>?_
   refine Nx.sealC (b:=y) fun G3 hG3 hsg=>?_
   exact aN (vs:=[_]) F ⟨F,trivial⟩ F aX ⟨hgq.trans (hG2.trans hG3),.nd 91 [] 0 ks,y,q,F,.lst kd y ks bs a c hsg (hsl.mono hG3) hbl (fun i hi=>(hreps i hi).mono (hG2.trans hG3)),by rw [bY];simp only [List.length_nil];omega,by rw [V.out];simp [dh],rfl,oM,oM⟩
theorem rq {u : Value} {vs : List bP} {kd : acA} {deep cp : Int} {ct : Nat} (hcp : 0 ≤ cp ∧ cp ≤ 100000000) (hct : ct ≤ 100000000) (hD : 0 < deep → ep u vs kd (deep - 1) cp ct) (hu : u.oneCell' = true) (hkl : kd.length ≤ 1000) (hd : -1000 ≤ deep ∧ deep ≤ 1000) : ep u vs (63 :: kd) deep (cp + 10) (ct + 200):=by
 intro G r code p l hR hs hp
 have hkd0 : bt (63 :: kd) (Int.toNat 0) = 63:=bh 63 kd
 have hkl2 : (63 :: kd).length = kd.length + 1:=rfl
 by_cases h0 : 0 < deep
 ·have cx_dv:=fun {p : Int} (hp : 0 ≤ p ∧ p + cp ≤ 600000000000)=>hD h0 G r code p l hR hs hp
  refine bI [(0,_),(1,_),(2,_),(3,_)] Tryz.func103 kR Tryz.ntmps103 F F tU fun B hB hW=>?_
  repeat' (first | refine jM ?_ | (refine jo ?_;first | refine jV (ak F F) ?_ | refine jO fun _=>?_ | refine aH F ?_ | (refine af F F F (cA ?_ (by (repeat (assumption));done)) rfl ?_;(focus omega);rintro _ _ ⟨k,rfl,rfl,hk0,hk1⟩;dsimp only [zA,fA])) | refine aA F F (ay ‹_›) ?_ | refine ac F F ?_ | refine ad F F ?_ | refine cB F (fun _=>?_) (fun _=>?_))
  ·refine Nx.addNil tJ 1 ?_
   (refine aj (am (id:=20) [] (fun _ h=>absurd h (by simp)) ai ?_);refine jW 7 [0,1,2,3,5,6,7,8,9,10] (aa 17 2031) ?_;refine cl [4,11] kR dC ⟨?_,?_,trivial⟩;(focus (refine bc F F ?_;(refine ah F ?_);refine jK (aa 17 2047) ?_;refine jA 11 F ?_;((refine cP F F F (cx_dv ?_) F ?_;(focus omega);rintro _ G1 _ hle ⟨w1,b1,q1,rfl,hrep,htot,hone,rfl,hq1,hq2⟩;dsimp only [zA,fA];skip));refine jK (aa 17 4095) ?_;refine jA 12 F ?_;(refine jF fun _=>?_);refine jK (aa 17 8191) ?_;refine jA 13 F ?_;((refine bW F F F F F F F F F ?_ fun _ _=>?_;focus omega));refine jK (aa 17 16383) ?_;refine jW 1 [14,15] (aa 17 65535) ?_;refine jA 16 F ?_;(refine jD F F F ?_);refine jK (aa 17 131071) ?_;refine jQ ?_));rotate_left 1;(focus (refine bc F F ?_;((refine cP F F F (cx_dv ?_) F ?_;(focus omega);rintro _ G1 _ hle ⟨w1,b1,q1,rfl,hrep,htot,hone,rfl,hq1,hq2⟩;dsimp only [zA,fA];skip));refine jK (aa 17 4079) ?_;refine cl [4,12] kR dC ⟨?_,?_,trivial⟩;(focus (refine bc F F ?_;(refine ah F ?_);refine jK (aa 17 4095) ?_;refine jA 12 F ?_;(refine jF fun _=>?_);refine jK (aa 17 8191) ?_;refine jA 13 F ?_;((refine bW F F F F F F F F F ?_ fun _ _=>?_;focus omega));refine jK (aa 17 16383) ?_;refine jW 1 [14,15] (aa 17 65535) ?_;refine jA 16 F ?_;(refine jD F F F ?_);refine jK (aa 17 131071) ?_;refine jQ ?_));rotate_left 1;(focus (refine bc F F ?_;(refine jF fun _=>?_);refine jK (aa 17 8175) ?_;refine jA 4 F ?_;(refine ah F ?_);refine jK (aa 17 8191) ?_;refine jA 13 F ?_;((refine bW F F F F F F F F F ?_ fun _ _=>?_;focus omega));refine jK (aa 17 16383) ?_;refine jW 1 [14,15] (aa 17 65535) ?_;refine jA 16 F ?_;(refine jD F F F ?_);refine jK (aa 17 131071) ?_;refine jQ ?_));rotate_left 1));rotate_left 2)
   all_goals repeat' (refine jR ?_)
   all_goals
    rename_i y _ _ y1 yc
    refine Nx.sealS (v:=.slice (some ⟨y1,0,none⟩) (0 + 1) yc) fun G2 hG2 hsl=>?_
    refine Nx.sealC (b:=y) fun G3 hG3 hsg=>?_
    obtain ⟨_,⟨h,_⟩ | ⟨b2,o2,c2,e,hc2,hs2⟩⟩:=hsl
    ·cases h
    simp only [Value.slice.injEq,Option.some.injEq,Addr.mk.injEq,and_true] at e
    obtain ⟨⟨rfl,rfl⟩,-,rfl⟩:=e
    exact aN (vs:=[_]) F ⟨F,trivial⟩ F sB ⟨hle.trans (hG2.trans hG3),.nd 63 [] 0 [w1],y,q1,F,.opt kd y y1 b1 yc w1 oM hsg (hs2.mono hG3) (hrep.mono (hG2.trans hG3)),by simp only [bY,V.tots,List.length_nil];omega,by rw [V.out];simp [dh],rfl,oM,oM⟩
  ·rename_i y _
   refine Nx.sealC (b:=y) fun G2 hG2 hsy=>?_
   exact aN (vs:=[_]) F ⟨F,trivial⟩ F aX ⟨hG2,.nd 63 [] 0 [],y,_,F,.non kd y hsy,by simp [bY,V.tots],by rw [V.out];simp [dh],rfl,oM,oM⟩
 ·refine bI [(0,_),(1,_),(2,_),(3,_)] Tryz.func103 kR Tryz.ntmps103 F F tU fun B hB hW=>?_
  repeat' (first | refine jM ?_ | (refine jo ?_;first | refine jV (ak F F) ?_ | refine jO fun _=>?_ | refine av F ?_) | refine an F F (aB ‹_›) ?_ | refine ac F F ?_ | refine ad F F ?_)
  rename_i y
  refine Nx.sealC (b:=y) fun G2 hG2 hsy=>?_
  exact aN (vs:=[_]) F ⟨F,trivial⟩ F aX ⟨hG2,.nd 63 [] 0 [],y,_,F,.non kd y hsy,by simp [bY,V.tots],by rw [V.out];simp [dh],rfl,oM,oM⟩
abbrev ni : TypeId:=146
abbrev w3 : TypeId:=60
abbrev w6 : TypeId:=3
def o5 (u : Value) (vs : List bP) (k : acA) (deep cp : Int) (ct : Nat) : Prop:=∀ (G : Gh) (r : Nat) (code : Value) (p : Int) (l : acA),SchR G u vs → bj G code 1 l.length (bz l) → 0 ≤ p ∧ p + cp ≤ 600000000000 →
 di acz 148 [Pt r 0,u,S k,I deep] G [dy r code p cR] (fun v G' L'=>∃ w b q,v = Pt b 0 ∧ RepR G' (ag vs) w k b ∧ w.tot ≤ ct ∧ 1 ≤ w.out.length ∧ L' = [dy r code q cR] ∧ p ≤ q ∧ q ≤ p + cp)
theorem ro {u : Value} {vs : List bP} {k : acA} {deep cp : Int} {ct : Nat} (hD : o5 u vs (64 :: k) deep cp ct) (hkl : k.length ≤ 1000) : ep u vs (64 :: k) deep cp ct:=by
 intro G r code p l hR hs hp
 have hkd0 : bt (64 :: k) (Int.toNat 0) = 64:=bh 64 k
 have hkl2 : (64 :: k).length = k.length + 1:=rfl
 have cx_dt:=fun {p : Int} (hp : 0 ≤ p ∧ p + cp ≤ 600000000000)=>hD G r code p l hR hs hp
 refine bI [(0,_),(1,_),(2,_),(3,_)] Tryz.func103 kR Tryz.ntmps103 F F tU fun B hB hW=>?_
 repeat' (first | refine jM ?_ | (refine jo ?_;first | refine jV (ak F F) ?_ | refine jO fun _=>?_ | (refine cP F F F (cx_dt ‹_›) F ?_;rintro _ G1 _ hle ⟨w1,b1,q1,rfl,hrep,htot,hone,rfl,hq1,hq2⟩;dsimp only [zA,fA];skip)) | refine ad F F ?_)
 exact aN (vs:=[_]) F ⟨F,trivial⟩ F sB ⟨hle,w1,b1,q1,F,hrep,htot,hone,F,hq1,hq2⟩
section
variable {u : Value} {vs : List bP} {kd nm : acA} {fs : List Fld} {a : Option Addr} {ca : Nat} {deep cp : Int} {ct : Nat}
theorem vm (hr : dS vs kd = some ((a,ca),⟨69,nm,fs⟩)) (hvl : vs.length ≤ 1000000) (hk : dW kd = true) (hkl : kd.length ≤ 1000) (h0 : 0 < fs.length) (h8 : fs.length ≤ 8) (hw : SchW (ag vs)) : o5 u vs kd deep 10 300:=by
 intro G r code p l hR hs hp
 have href:=dO vs kd
 rw [hr] at href
 have cx_rf:=gz (G:=G) (k:=kd) hR hvl hk oM
 rw [hr] at cx_rf
 have htm:=ce href.symm
 obtain ⟨bf,of,cf,ef,hsf⟩:=(hR.fl _ (eA hr)).expl h0
 simp only [gc,Value.slice.injEq] at ef
 obtain ⟨rfl,-,rfl⟩:=ef
 dsimp only at hsf
 have cx_rf : ao acz 160 [u,S kd] G (· = Tu [Ag [U8 (69 : Nat),S nm,.slice (some ⟨bf,of,none⟩) fs.length ca],Bo true]):=cx_rf
 refine bI [(0,_),(1,_),(2,_),(3,_)] Tryz.func148 kR Tryz.ntmps148 F F tU fun B hB hW=>?_
 repeat' (first | refine jR ?_ | (refine jo ?_;first | refine jL fun _=>?_ | refine jC F F F ?_ | refine ah F ?_ | refine jF fun _=>?_ | refine jV (dc F F (by (repeat (first | exact BL.nil | apply BL.lit rfl));done)) ?_ | refine jV (ak F F) ?_ | refine jO fun _=>?_ | refine ab F F F cx_rf F ?_) | refine ac F F ?_)
 rename_i y9 _ y11
 (refine aj (am (id:=5) [.blk y9 (.cells (List.toArray [U8 (69 : Nat),S nm,.slice (some ⟨bf,of,none⟩) fs.length ca]) ni (0,0))] (by intro y hy;simp only [List.mem_cons,List.not_mem_nil,or_false] at hy ⊢;simp [hy]) ai ?_);refine jW 11 [0,1,3,4] (aa 15 27) ?_;(refine jG (aa 15 31) 2 F (aq F F F) ?_);(refine jG (aa 15 63) 5 F (aq F F F) ?_);(refine jG (aa 15 127) 6 F (ar F) ?_);refine jA 7 F ?_;((refine af F F F (cA ?_ (by (repeat (assumption));done)) rfl ?_;(focus omega);rintro _ _ ⟨k,rfl,rfl,hk0,hk1⟩;dsimp only [zA,fA]));refine jK (aa 15 255) ?_;((refine jG (aa 15 511) 8 F (aQ F F ?_) ?_;focus omega));refine jW 5 [9] (aa 15 1023) ?_;((refine jG (aa 15 2047) 10 F (bK F F aS ?_ F F) ?_;focus omega));refine jA 11 F ?_;(refine jF fun _=>?_);refine jK (aa 15 4095) ?_;refine jW 1 [12,13] (aa 15 16383) ?_;refine jA 14 F ?_;(refine jD F F F ?_);refine jK (aa 15 32767) ?_;refine jQ ?_)
 all_goals repeat' (refine jR ?_)
 all_goals
  rename_i y1
  refine Nx.sealC (b:=y1) fun G2 hG2 hsy=>?_
  refine Nx.sealC (b:=y11) fun G3 hG3 hsg=>?_
  have hdm : ae fs k.toNat ∈ fs:=bL oM
  exact aN (vs:=[_]) F ⟨F,trivial⟩ F sB ⟨hG2.trans hG3,.nd 69 [] (ae fs k.toNat).tag [],y11,_,F,.enm kd y11 y1 ⟨69,nm,fs⟩ (ae fs k.toNat) ⟨href.symm,F⟩ hdm hsg (hsy.mono hG3),by simp [bY,V.tots],by rw [V.out];simp [dh],rfl,oM,oM⟩
theorem vl (hr : dS vs kd = some ((a,ca),⟨85,nm,fs⟩)) (hvl : vs.length ≤ 1000000) (hk : dW kd = true) (hkl : kd.length ≤ 1000) (h0 : 0 < fs.length) (h8 : fs.length ≤ 8) (hw : SchW (ag vs)) (hcp : 0 ≤ cp ∧ cp ≤ 100000000) (hct : ct ≤ 100000000)
  (hD : ∀ d ∈ fs,(0 < deep ∨ d = ae fs 0) → ep u vs d.kind (deep - 1) cp ct) (hd : -1000 ≤ deep ∧ deep ≤ 1000) : o5 u vs kd deep (cp + 10) (ct + 20):=by
 intro G r code p l hR hs hp
 have href:=dO vs kd
 rw [hr] at href
 have cx_rf:=gz (G:=G) (k:=kd) hR hvl hk oM
 rw [hr] at cx_rf
 have htm:=ce href.symm
 obtain ⟨bf,of,cf,ef,hsf⟩:=(hR.fl _ (eA hr)).expl h0
 simp only [gc,Value.slice.injEq] at ef
 obtain ⟨rfl,-,rfl⟩:=ef
 dsimp only at hsf
 have cx_rf : ao acz 160 [u,S kd] G (· = Tu [Ag [U8 (85 : Nat),S nm,.slice (some ⟨bf,of,none⟩) fs.length ca],Bo true]):=cx_rf
 refine bI [(0,_),(1,_),(2,_),(3,_)] Tryz.func148 kR Tryz.ntmps148 F F tU fun B hB hW=>?_
 repeat' (first | refine jM ?_ | (refine jo ?_;first | refine jL fun _=>?_ | refine jD F F F ?_ | refine jC F F F ?_ | refine ah F ?_ | (refine jV (cJ F F aS ?_) ?_;focus omega) | refine jF fun _=>?_ | refine jV (dc F F (by (repeat (first | exact BL.nil | apply BL.lit rfl));done)) ?_ | refine jV (ak F F) ?_ | refine jO fun _=>?_ | refine jV (aw F F oM) ?_ | refine ab F F F cx_rf F ?_) | refine ac F F ?_ | refine ad F F ?_ | refine cB F (fun _=>?_) (fun _=>?_))
 ·rename_i y9 _ y11 y12 hd0
  (refine aj (am (id:=10) [.blk y9 (.cells (List.toArray [U8 (85 : Nat),S nm,.slice (some ⟨bf,of,none⟩) fs.length ca]) ni (0,0))] (by intro y hy;simp only [List.mem_cons,List.not_mem_nil,or_false] at hy ⊢;simp [hy]) ai ?_);refine jW 7 [0,2,3] (aa 10 13) ?_;(refine jG (aa 10 15) 1 F (aq F F F) ?_);(refine jG (aa 10 31) 4 F (aq F F F) ?_);(refine jG (aa 10 63) 5 F (ar F) ?_);refine jA 6 F ?_;((refine af F F F (cA ?_ (by (repeat (assumption));done)) rfl ?_;(focus omega);rintro _ _ ⟨k,rfl,rfl,hk0,hk1⟩;dsimp only [zA,fA]));refine jK (aa 10 127) ?_;((refine jG (aa 10 255) 7 F (aQ F F ?_) ?_;focus omega));((refine jG (aa 10 511) 8 F (cJ F F aS ?_) ?_;focus omega));refine jA 9 F ?_;(refine jC F F F ?_);refine jK (aa 10 1023) ?_;refine jQ ?_)
  all_goals have hdm : ae fs k.toNat ∈ fs:=bL oM
  all_goals have cx_dv:=fun {p : Int} (hp : 0 ≤ p ∧ p + cp ≤ 600000000000)=>hD (ae fs k.toNat) hdm (.inl hd0) G r code p l hR hs hp
  all_goals repeat' (first | refine jM ?_ | (refine jo ?_;first | refine jD F F F ?_ | refine ah F ?_ | refine jF fun _=>?_ | (refine cP F F F (cx_dv oM) F ?_;rintro _ G1 _ hle ⟨w1,b1,q1,rfl,hrep,htot,hone,rfl,hq1,hq2⟩;dsimp only [zA,fA];skip)))
  all_goals
   rename_i y1 y2
   refine Nx.sealC (b:=y1) fun G2 hG2 hs1=>?_
   refine Nx.sealC (b:=y2) fun G3 hG3 hs2=>?_
   refine Nx.sealC (b:=y11) fun G4 hG4 hsg=>?_
   exact aN (vs:=[_]) F ⟨F,trivial⟩ F sB ⟨((hle.trans hG2).trans hG3).trans hG4,.nd 85 [] (ae fs k.toNat).tag [w1],y11,_,F,.uni kd y11 y1 y2 b1 1 ⟨85,nm,fs⟩ (ae fs k.toNat) w1 (Nat.le_refl _) ⟨href.symm,F⟩ hdm hsg (hs1.mono (hG3.trans hG4)) (hs2.mono hG4) (hrep.mono ((hG2.trans hG3).trans hG4)),by simp only [bY,V.tots,List.length_nil];omega,by rw [V.out];simp [dh],rfl,oM,oM⟩
 ·have cx_dv:=fun {p : Int} (hp : 0 ≤ p ∧ p + cp ≤ 600000000000)=>hD (ae fs 0) (bL h0) (.inr rfl) G r code p l hR hs hp
  repeat' (first | refine jR ?_ | (refine jo ?_;first | refine jD F F F ?_ | refine jF fun _=>?_ | (refine cP F F F (cx_dv oM) F ?_;rintro _ G1 _ hle ⟨w1,b1,q1,rfl,hrep,htot,hone,rfl,hq1,hq2⟩;dsimp only [zA,fA];skip)))
  all_goals
   rename_i y9 _ y11 y12 _ y1 y2
   refine Nx.sealC (b:=y1) fun G2 hG2 hs1=>?_
   refine Nx.sealC (b:=y2) fun G3 hG3 hs2=>?_
   refine Nx.sealC (b:=y11) fun G4 hG4 hsg=>?_
   exact aN (vs:=[_]) F ⟨F,trivial⟩ F sB ⟨((hle.trans hG2).trans hG3).trans hG4,.nd 85 [] (ae fs 0).tag [w1],y11,_,F,.uni kd y11 y1 y2 b1 1 ⟨85,nm,fs⟩ (ae fs 0) w1 (Nat.le_refl _) ⟨href.symm,F⟩ (bL h0) hsg (hs1.mono (hG3.trans hG4)) (hs2.mono hG4) (hrep.mono ((hG2.trans hG3).trans hG4)),by simp only [bY,V.tots,List.length_nil];omega,by rw [V.out];simp [dh],rfl,oM,oM⟩
theorem yw (hr : dS vs kd = some ((a,ca),⟨82,nm,fs⟩)) (hvl : vs.length ≤ 1000000) (hk : dW kd = true) (hkl : kd.length ≤ 1000) (h8 : fs.length ≤ 8) (hd : -1000 ≤ deep ∧ deep ≤ 0) : o5 u vs kd deep 10 100:=by
 intro G r code p l hR hs hp
 have href:=dO vs kd
 rw [hr] at href
 have cx_rf:=gz (G:=G) (k:=kd) hR hvl hk oM
 rw [hr] at cx_rf
 have cx_rf : ao acz 160 [u,S kd] G (· = Tu [Ag [U8 (82 : Nat),S nm,.slice a fs.length ca],Bo true]):=cx_rf
 refine bI [(0,_),(1,_),(2,_),(3,_)] Tryz.func148 kR Tryz.ntmps148 F F tU fun B hB hW=>?_
 repeat' (first | refine jR ?_ | (refine jo ?_;first | refine jL fun _=>?_ | refine jC F F F ?_ | refine ah F ?_ | refine jF fun _=>?_ | refine jV (dc F F (by (repeat (first | exact BL.nil | apply BL.lit rfl));done)) ?_ | refine jV (ak F F) ?_ | refine jO fun _=>?_ | refine ab F F F cx_rf F ?_) | refine ad F F ?_)
 rename_i y9 _ y11
 refine aR (ι:=Unit) (fun i=>True) (fun i=>[(0,Pt r 0),(1,u),(2,S kd),(3,I deep),(9,Pt y9 0),(11,Pt y11 0),(13,I 0)]) (fun _=>G) (fun i=>[.blk y11 (.cells (List.toArray [S kd,S [82],aL,aL]) pI (0,0)),.blk y9 (.cells (List.toArray [U8 (82 : Nat),S nm,.slice a fs.length ca]) ni (0,0)),dy r code p cR]) (fun i=>0) () ?_ tU F sB (fun i Hi=>?_)
 ·trivial
 by_cases h0 : 0 < fs.length
 all_goals repeat' (first | refine jR ?_ | (refine jo ?_;first | refine ah F ?_ | refine jV (ar F) ?_ | refine aH F ?_ | refine av F ?_) | refine aA F F (ay oM) ?_ | refine an F F (aB oM) ?_ | (refine ad F (by first | rfl | (refine decide_eq_false ?_;(omega))) ?_))
 all_goals
  refine Nx.sealC (b:=y11) fun G2 hG2 hsg=>?_
  exact aN (vs:=[_]) F ⟨F,trivial⟩ F sB ⟨hG2,.nd 82 [] 0 [],y11,p,F,.recd kd y11 ⟨82,nm,fs⟩ [] [] none none 0 0 ⟨href.symm,F⟩ hsg ⟨F,.inl ⟨F,F⟩⟩ ⟨F,.inl ⟨F,F⟩⟩ F (fun i hi=>absurd hi (by simp)) (fun i hi=>absurd hi (by simp)),by simp [bY,V.tots],by rw [V.out];simp [dh],rfl,oM,oM⟩
theorem aaj (hr : dS vs kd = some ((a,ca),⟨82,nm,fs⟩)) (hvl : vs.length ≤ 1000000) (hk : dW kd = true) (hkl : kd.length ≤ 1000) (h8 : fs.length ≤ 8) (hw : SchW (ag vs)) (hcp : 0 ≤ cp ∧ cp ≤ 100000000) (hct : ct ≤ 100000000)
  (hD : ∀ d ∈ fs,ep u vs d.kind (deep - 1) cp ct) (hd : 0 < deep ∧ deep ≤ 1000) : o5 u vs kd deep (8 * cp + 20) (8 * ct + 200):=by
 intro G r code p l hR hs hp
 have href:=dO vs kd
 rw [hr] at href
 have cx_rf:=gz (G:=G) (k:=kd) hR hvl hk oM
 rw [hr] at cx_rf
 have htm:=ce href.symm
 have cx_rf : ao acz 160 [u,S kd] G (· = Tu [Ag [U8 (82 : Nat),S nm,.slice a fs.length ca],Bo true]):=cx_rf
 refine bI [(0,_),(1,_),(2,_),(3,_)] Tryz.func148 kR Tryz.ntmps148 F F tU fun B hB hW=>?_
 repeat' (first | refine jR ?_ | (refine jo ?_;first | refine jL fun _=>?_ | refine jC F F F ?_ | refine ah F ?_ | refine jF fun _=>?_ | refine jV (dc F F (by (repeat (first | exact BL.nil | apply BL.lit rfl));done)) ?_ | refine jV (ak F F) ?_ | refine jO fun _=>?_ | refine ab F F F cx_rf F ?_) | refine ad F F ?_)
 rename_i y9 _ y11
 refine Nx.addNil w6 1 (Nx.addNil w3 1 ?_)
 refine Nx.perm (((List.perm_append_comm (l₁:=[_,_,_]) (l₂:=[_])).cons _).cons _) ?_
 dsimp only [zA,fA]
 refine aR (ι:=List (Fld × V) × List Nat × Option Addr × Nat × Option Addr × Nat × Nat × Int × Gh) (fun j=>((j.2.1.length = j.1.length ∧ (∀ i,i < j.1.length → (ae j.1 i).1 ∈ fs) ∧ ∀ i,i < j.1.length → RepR j.2.2.2.2.2.2.2.2 (ag vs) (ae j.1 i).2 (ae j.1 i).1.kind (ae j.2.1 i)) ∧ Gh.le G j.2.2.2.2.2.2.2.2) ∧ (j.1.length ≤ j.2.2.2.2.2.2.1 ∧ j.2.2.2.2.2.2.1 ≤ fs.length) ∧ V.tots (gp j.1) ≤ (ct + 20) * j.1.length ∧ p ≤ j.2.2.2.2.2.2.2.1 ∧ j.2.2.2.2.2.2.2.1 ≤ p + (cp + 1) * ((j.2.2.2.2.2.2.1 : Nat) : Int)) (fun j=>[(0,Pt r 0),(1,u),(2,S kd),(3,I deep),(9,Pt y9 0),(11,Pt y11 0),(13,I ((j.2.2.2.2.2.2.1 : Nat) : Int))]) (fun j=>j.2.2.2.2.2.2.2.2) (fun j=>[.acc (.slice j.2.2.2.2.1 j.1.length j.2.2.2.2.2.1) w3 1 j.1.length (aF eE j.2.1),.acc (.slice j.2.2.1 j.1.length j.2.2.2.1) w6 1 j.1.length (aF gg (j.1.map fun p=>p.1.tag)),dy r code j.2.2.2.2.2.2.2.1 cR,.blk y11 (.cells (List.toArray [S kd,S [82],.slice j.2.2.1 j.1.length j.2.2.2.1,.slice j.2.2.2.2.1 j.1.length j.2.2.2.2.2.1]) pI (0,0)),.blk y9 (.cells (List.toArray [U8 (82 : Nat),S nm,.slice a fs.length ca]) ni (0,0))]) (fun j=>fs.length - j.2.2.2.2.2.2.1) ([],[],none,0,none,0,0,p,G) ?_ tU F sB (fun j Hj=>?_)
 ·refine ⟨⟨⟨F,fun i hi=>absurd hi (by simp),fun i hi=>absurd hi (by simp)⟩,Gh.le.refl _⟩,?_,?_,?_,?_⟩
  ·exact ⟨Nat.le_refl _,Nat.zero_le _⟩
  ·simp [gp,V.tots]
  ·dsimp only;omega
  ·dsimp only;simp
 obtain ⟨gs,bs,a1,c1,a2,c2,i,q,Gq⟩:=j
 dsimp only at Hj ⊢
 obtain ⟨⟨⟨hbl,hfm,hreps⟩,hgq⟩,hil,htt,hq0,hq1⟩:=Hj
 have hcl : (cp + 1) * ((i : Nat) : Int) ≤ (cp + 1) * 8:=Int.mul_le_mul_of_nonneg_left oM oM
 have hcl0 : 0 ≤ (cp + 1) * ((i : Nat) : Int):=Int.mul_nonneg oM oM
 have htl : (ct + 20) * gs.length ≤ (ct + 20) * 8:=Nat.mul_le_mul_left _ oM
 by_cases hgo : i < fs.length
 ·have hcl3 : (cp + 1) * ((i : Nat) : Int) + (cp + 1) ≤ (cp + 1) * 8:=by
   have:=Int.mul_le_mul_of_nonneg_left (show ((i : Nat) : Int) + 1 ≤ 8 by omega) (show 0 ≤ cp + 1 by omega)
   rwa [Int.mul_add,Int.mul_one] at this
  obtain ⟨bf,of,cf,ef,hsf⟩:=(hR.fl _ (eA hr)).expl (by dsimp only;omega)
  simp only [gc,Value.slice.injEq] at ef
  obtain ⟨rfl,-,rfl⟩:=ef
  dsimp only at hsf
  have hdm : ae fs i ∈ fs:=bL hgo
  have hdk : aM (ag vs) (ae fs i).kind = true:=dP hw htm (by simp) hdm
  have cx_dv:=fun {p : Int} (hp : 0 ≤ p ∧ p + cp ≤ 600000000000)=>hD (ae fs i) hdm Gq r code p l (hR.mono hgq) (hs.mono hgq) hp
  have hsf:=hsf.mono hgq
  repeat' (first | refine jM ?_ | (refine jo ?_;first | refine ah F ?_ | (refine jV (bK F F aS ?_ F F) ?_;focus omega) | refine jV (ar F) ?_ | refine jV (aw F F oM) ?_ | refine aH F ?_ | (refine cP F F F (cx_dv oM) F ?_;rintro _ G1 _ hle ⟨w1,b1,q1,rfl,hrep,htot,hone,rfl,hq1,hq2⟩;dsimp only [zA,fA];(try have hsf:=hsf.mono hle))) | refine aA F F (ay oM) ?_ | refine ac F (ay oM) ?_)
  have hgl:=hgq.trans hle
  have cx_pk3 : ∀ {p : Int},0 ≤ p ∧ p ≤ 1000000000000 → bV acz 28 [Pt r 0,I 3] G1 [dy r code p cR] (fun v L'=>L' = [dy r code (p + 1) cR] ∧ (v = I 0 ∨ ∃ k,v = I k ∧ 0 < k)):=fun {p} hp=>(cA (b:=r) (p:=p) (n:=3) ⟨hp.1,hp.2,by decide⟩ (hs.mono hgl)).mono fun v G' L' ⟨h1,k,h2,h3,h4,h5⟩=>⟨h1,h3,by subst h2;rcases (show k = 0 ∨ 0 < k by omega) with rfl | h;exact .inl F;exact .inr ⟨k,F,h⟩⟩
  have cx_out:=ii hw hrep oM
  have cx_sta:=nO (f:=ae fs i) (hR.mono hgl) hw hdk
  have hms : (cp + 1) * ((i + 1 : Nat) : Int) = (cp + 1) * ((i : Nat) : Int) + (cp + 1):=by rw [Int.natCast_succ,Int.mul_add,Int.mul_one]
  by_cases heq : w1.out = cS (ag vs) (ae fs i)
  ·(refine aj (am (id:=18) [.blk y9 (.cells (List.toArray [U8 (82 : Nat),S nm,.slice (some ⟨bf,of,none⟩) fs.length ca]) ni (0,0))] (by intro y hy;simp only [List.mem_cons,List.not_mem_nil,or_false] at hy ⊢;simp [hy]) ai ?_);refine jW 14 [0] (aa 15 1) ?_;refine cl [1] kR dC ⟨?_,trivial⟩;(refine bc F F ?_;(refine af F F F (cx_pk3 oM) F ?_;rintro _ _ ⟨rfl,rfl | ⟨k,rfl,hk0⟩⟩ <;> dsimp only [zA,fA])) <;> (refine jS (aa 15 3) ?_;refine jT 11 [2,3] (aa 15 15) ?_;(try (first | (refine Nx.re (d:=107) (v':=Bo true) F (congrArg Value.bool (ay ‹_›)) ?_) | refine Nx.re (d:=107) (v':=Bo false) F (congrArg Value.bool F) ?_));refine jT 7 [4,6,7,9] (aa 15 735) ?_;(first | refine jG (aa 15 991) 8 F (aq F F F) ?_ | refine jN (aa 15 991) 8 F ?_);(first | refine jG (aa 15 2015) 10 F (aw F F oM) ?_ | refine jN (aa 15 2015) 10 F ?_);(first | (refine jG (aa 15 4063) 11 F (cJ F F aS ?_) ?_;focus omega) | refine jN (aa 15 4063) 11 F ?_);(first | refine jN (aa 15 4095) 5 F ?_ | (refine jA 5 F ?_;(refine ab F F F cx_out F ?_);refine jS (aa 15 4095) ?_));(first | refine jN (aa 15 8191) 12 F ?_ | (refine jA 12 F ?_;(refine ab F F F cx_sta F ?_);refine jS (aa 15 8191) ?_));refine jT 1 [13] (aa 15 16383) ?_;(first | refine jG (aa 15 32767) 14 F (aY F F F) ?_ | refine jG (aa 15 32767) 14 F (aG F F F) ?_);refine jQ ?_))
   all_goals repeat' (first | refine jM ?_ | (refine ad F ?_ ?_;(focus ((first | rfl | (simp [*];done));done))))
   all_goals
    refine Nx.perm ((List.Perm.swap _ _ _).trans ((List.Perm.swap _ _ _).cons _)) ?_
    exact aW (gs,bs,a1,c1,a2,c2,i + 1,q1 + 1,G1) ⟨⟨⟨hbl,hfm,fun i hi=>(hreps i hi).mono hle⟩,hgl⟩,⟨by dsimp only;omega,by dsimp only;omega⟩,htt,by dsimp only;omega,by dsimp only;rw [hms];omega⟩ (by dsimp only;omega) tU rfl aX
  ·(refine aj (am (id:=18) [.blk y9 (.cells (List.toArray [U8 (82 : Nat),S nm,.slice (some ⟨bf,of,none⟩) fs.length ca]) ni (0,0))] (by intro y hy;simp only [List.mem_cons,List.not_mem_nil,or_false] at hy ⊢;simp [hy]) ai ?_);refine jW 14 [0] (aa 15 1) ?_;refine cl [1] kR dC ⟨?_,trivial⟩;(refine bc F F ?_;(refine af F F F (cx_pk3 oM) F ?_;rintro _ _ ⟨rfl,rfl | ⟨k,rfl,hk0⟩⟩ <;> dsimp only [zA,fA])) <;> (refine jS (aa 15 3) ?_;refine jT 11 [2,3] (aa 15 15) ?_;(try (first | (refine Nx.re (d:=107) (v':=Bo true) F (congrArg Value.bool (ay ‹_›)) ?_) | refine Nx.re (d:=107) (v':=Bo false) F (congrArg Value.bool F) ?_));refine jT 7 [4,6,7,9] (aa 15 735) ?_;(first | refine jG (aa 15 991) 8 F (aq F F F) ?_ | refine jN (aa 15 991) 8 F ?_);(first | refine jG (aa 15 2015) 10 F (aw F F oM) ?_ | refine jN (aa 15 2015) 10 F ?_);(first | (refine jG (aa 15 4063) 11 F (cJ F F aS ?_) ?_;focus omega) | refine jN (aa 15 4063) 11 F ?_);(first | refine jN (aa 15 4095) 5 F ?_ | (refine jA 5 F ?_;(refine ab F F F cx_out F ?_);refine jS (aa 15 4095) ?_));(first | refine jN (aa 15 8191) 12 F ?_ | (refine jA 12 F ?_;(refine ab F F F cx_sta F ?_);refine jS (aa 15 8191) ?_));refine jT 1 [13] (aa 15 16383) ?_;(first | refine jG (aa 15 32767) 14 F (aY F F F) ?_ | refine jG (aa 15 32767) 14 F (aG F F F) ?_);refine jQ ?_))
   ·repeat' (first | refine jM ?_ | refine ad F F ?_)
    refine Nx.perm ((List.Perm.swap _ _ _).trans ((List.Perm.swap _ _ _).cons _)) ?_
    exact aW (gs,bs,a1,c1,a2,c2,i + 1,q1 + 1,G1) ⟨⟨⟨hbl,hfm,fun i hi=>(hreps i hi).mono hle⟩,hgl⟩,⟨by dsimp only;omega,by dsimp only;omega⟩,htt,by dsimp only;omega,by dsimp only;rw [hms];omega⟩ (by dsimp only;omega) tU rfl aX
   ·repeat' (first | refine jR ?_ | refine ac F (ay ‹_›) ?_)
    have hl' : (gs ++ [(ae fs i,w1)]).length = gs.length + 1:=by simp
    have hbl' : (bs ++ [b1]).length = (gs ++ [(ae fs i,w1)]).length:=by simp [hbl]
    have hnth : ∀ j,j < (gs ++ [(ae fs i,w1)]).length → (j < gs.length ∧ ae (gs ++ [(ae fs i,w1)]) j = ae gs j ∧ ae (bs ++ [b1]) j = ae bs j) ∨ (ae (gs ++ [(ae fs i,w1)]) j = (ae fs i,w1) ∧ ae (bs ++ [b1]) j = b1):=fun j hj=>by
     by_cases h1 : j < gs.length
     ·exact .inl ⟨h1,by rw [aV hj,aV h1,List.getElem_append_left h1],by rw [aV oM,aV oM,List.getElem_append_left oM]⟩
     ·have h2 : j = gs.length:=oM
      exact .inr ⟨by rw [aV hj];simp [h2],by rw [aV oM];simp [h2,hbl]⟩
    have hfm' : ∀ j,j < (gs ++ [(ae fs i,w1)]).length → (ae (gs ++ [(ae fs i,w1)]) j).1 ∈ fs:=fun j hj=>by
     rcases hnth j hj with ⟨h1,h2,_⟩ | ⟨h2,_⟩
     ·rw [h2];exact hfm j h1
     ·rw [h2];exact hdm
    have hreps' : ∀ j,j < (gs ++ [(ae fs i,w1)]).length → RepR G1 (ag vs) (ae (gs ++ [(ae fs i,w1)]) j).2 (ae (gs ++ [(ae fs i,w1)]) j).1.kind (ae (bs ++ [b1]) j):=fun j hj=>by
     rcases hnth j hj with ⟨h1,h2,h3⟩ | ⟨h2,h3⟩
     ·rw [h2,h3];exact (hreps j h1).mono hle
     ·rw [h2,h3];exact hrep
    have hrow1 : aF gg (gs.map fun p=>p.1.tag) ++ [I (ae fs i).tag] = aF gg ((gs ++ [(ae fs i,w1)]).map fun p=>p.1.tag):=by rw [List.map_append];exact (cj gg _ (ae fs i).tag).symm
    have hrow2 : aF eE bs ++ [Pt b1 0] = aF eE (bs ++ [b1]):=(cj eE bs b1).symm
    have hnd : V.tots (gp (gs ++ [(ae fs i,w1)])) = V.tots (gp gs) + (20 + w1.tot):=by simp [gp,eR,V.tots,bY]
    have hmt : (ct + 20) * (gs.length + 1) = (ct + 20) * gs.length + (ct + 20):=Nat.mul_succ _ _
    (refine aj (am (id:=19) [.blk y9 (.cells (List.toArray [U8 (82 : Nat),S nm,.slice (some ⟨bf,of,none⟩) fs.length ca]) ni (0,0))] (by intro y hy;simp only [List.mem_cons,List.not_mem_nil,or_false] at hy ⊢;simp [hy]) ai ?_);refine jW 10 [0,1,2,3,5,7] (aa 16 175) ?_;(refine jG (aa 16 239) 6 F (aq F F F) ?_);((refine jG (aa 16 495) 8 F (aw F F ?_) ?_;focus omega));refine jW 7 [9] (aa 16 1007) ?_;((refine jG (aa 16 2031) 10 F (bK F F aS ?_ F F) ?_;focus omega));refine cl [4,11] kR dC ⟨?_,?_,trivial⟩;(focus (refine bc F F ?_;(refine ah F ?_);refine jK (aa 16 2047) ?_;refine jA 11 F ?_;(refine jF fun _=>?_);refine jK (aa 16 4095) ?_;refine jA 12 F ?_;((refine bW F F F F F F F F F ?_ fun _ _=>?_;focus omega));refine jK (aa 16 8191) ?_;refine jW 1 [13,14] (aa 16 32767) ?_;refine jA 15 F ?_;(refine jD F F F ?_);refine jK (aa 16 65535) ?_;refine jQ ?_));rotate_left 1;(focus (refine bc F F ?_;(refine jF fun _=>?_);refine jK (aa 16 4079) ?_;refine jA 4 F ?_;(refine ah F ?_);refine jK (aa 16 4095) ?_;refine jA 12 F ?_;((refine bW F F F F F F F F F ?_ fun _ _=>?_;focus omega));refine jK (aa 16 8191) ?_;refine jW 1 [13,14] (aa 16 32767) ?_;refine jA 15 F ?_;(refine jD F F F ?_);refine jK (aa 16 65535) ?_;refine jQ ?_));rotate_left 1)
    all_goals repeat' (first | refine jM ?_ | (refine jo ?_;first | refine jD F F F ?_ | refine ah F ?_ | refine jF fun _=>?_ | refine bW F F F F F F F F F oM fun _ _=>?_))
    all_goals
     rename_i _ y1 yc1 _ y2 yc2
     rw [hrow1,hrow2]
     exact aW (gs ++ [(ae fs i,w1)],bs ++ [b1],some ⟨y1,0,none⟩,yc1,some ⟨y2,0,none⟩,yc2,i + 1,q1 + 1,G1) ⟨⟨⟨hbl',hfm',hreps'⟩,hgl⟩,⟨by dsimp only;rw [hl'];omega,by dsimp only;omega⟩,by dsimp only;rw [hl',hmt,hnd];omega,by dsimp only;omega,by dsimp only;rw [hms];omega⟩ (by dsimp only;omega) tU rfl (by rw [hl'];repeat (first | exact List.Sublist.refl _ | apply List.Sublist.cons_cons | apply List.Sublist.cons))
 ·repeat' (first | refine jR ?_ | (refine jo ?_;first | refine ah F ?_ | refine jV (ar F) ?_ | refine av F ?_) | refine an F F (aB oM) ?_ | refine ad F F ?_)
  refine Nx.sealS (v:=.slice a2 gs.length c2) fun G2 hG2 hs1=>?_
  refine Nx.sealS (v:=.slice a1 gs.length c1) fun G3 hG3 hs2=>?_
  refine Nx.sealC (b:=y11) fun G4 hG4 hsg=>?_
  exact aN (vs:=[_]) F ⟨F,trivial⟩ F sB ⟨hgq.trans ((hG2.trans hG3).trans hG4),.nd 82 [] 0 (gp gs),y11,q,F,.recd kd y11 ⟨82,nm,fs⟩ gs bs a1 a2 c1 c2 ⟨href.symm,F⟩ hsg (hs2.mono hG4) (hs1.mono (hG3.trans hG4)) hbl hfm (fun i hi=>(hreps i hi).mono ((hG2.trans hG3).trans hG4)),by rw [bY];simp only [List.length_nil];omega,by rw [V.out];simp [dh],rfl,oM,oM⟩
end
theorem ns {ts : List Ty} {k : acA} (h : aM ts k = true) : ∃ c r,k = c :: r:=by
 cases k with
 | nil=>unfold aM bx dW at h;simp at h
 | cons c r=>exact ⟨c,r,F⟩
def m4 : Nat → Int
 | 0=>105
 | d + 1=>8 * m4 d + 40
def l8 : Nat → Nat
 | 0=>480
 | d + 1=>8 * l8 d + 400
theorem vq : ∀ d,d ≤ 4 → 0 ≤ m4 d ∧ m4 d ≤ 500000 ∧ l8 d ≤ 3000000 ∧ 105 ≤ m4 d ∧ 480 ≤ l8 d:=by decide
theorem abr {u : Value} {vs : List bP} (hw : SchW (ag vs)) (hu : u.oneCell' = true) : ∀ (n : Nat) {k : acA} {deep : Int},n ≤ 9 → deep ≤ 0 → (n : Int) - 900 ≤ deep → aM (ag vs) k = true → (∀ t,aZ (ag vs) k = some t → bS (ag vs) n t = true) → ep u vs k deep (15 + 10 * n) (300 + 20 * n):=by
 have hvl : vs.length ≤ 8:=by have:=hw.len;unfold ag at this;simpa using this
 intro n
 induction n with
 | zero =>
  intro k deep _ hd hd2 hk he
  obtain ⟨c,r,rfl⟩:=ns hk
  have hkk:=cN (cZ hk)
  simp only [List.length_cons] at hkk
  by_cases h1 : c.toNat = 91
  ·obtain rfl:=bm h1 dC
   exact (pt (cp:=0) (ct:=0) oM oM (fun h=>absurd h oM) hu oM oM).le oM oM
  by_cases h2 : c.toNat = 63
  ·obtain rfl:=bm h2 dC
   exact (rq (cp:=0) (ct:=0) oM oM (fun h=>absurd h oM) hu oM oM).le oM oM
  have h91 : ¬ (c.toNat = 91 ∨ c.toNat = 63):=fun h=>by rcases h with h | h <;> omega
  cases hr : aZ (ag vs) (c :: r) with
  | some t=>have:=he t hr;simp [bS] at this
  | none =>
   rcases eB hk h91 hr with e1 | e1 | e1
   ·rw [e1];exact rr.le oM oM
   ·rw [e1];exact rp.le oM oM
   ·rw [e1];exact pu.le oM oM
 | succ n ih =>
  intro k deep hn hd hd2 hk he
  obtain ⟨c,r,rfl⟩:=ns hk
  have hkk:=cN (cZ hk)
  have hkk1:=hkk.1
  simp only [List.length_cons] at hkk
  by_cases h1 : c.toNat = 91
  ·obtain rfl:=bm h1 dC
   exact (pt (cp:=0) (ct:=0) oM oM (fun h=>absurd h oM) hu oM oM).le oM oM
  by_cases h2 : c.toNat = 63
  ·obtain rfl:=bm h2 dC
   exact (rq (cp:=0) (ct:=0) oM oM (fun h=>absurd h oM) hu oM oM).le oM oM
  have h91 : ¬ (c.toNat = 91 ∨ c.toNat = 63):=fun h=>by rcases h with h | h <;> omega
  cases hr : aZ (ag vs) (c :: r) with
  | none =>
   rcases eB hk h91 hr with e1 | e1 | e1
   ·rw [e1];exact rr.le oM oM
   ·rw [e1];exact rp.le oM oM
   ·rw [e1];exact pu.le oM oM
  | some t =>
   obtain ⟨r',e⟩:=fc hr
   simp only [List.cons.injEq] at e
   obtain ⟨rfl,rfl⟩:=e
   have href:=dO vs (64 :: r)
   rw [hr] at href
   rcases hrv : dS vs (64 :: r) with _ | ⟨⟨a,ca⟩,⟨so,nm,fs⟩⟩
   ·rw [hrv] at href;cases href
   rw [hrv] at href
   obtain rfl:=(Option.some.inj href).symm
   dsimp only at hr he
   have hTW:=hw.ty _ (ce hr)
   have h8 : fs.length ≤ 8:=hTW.len
   refine ro ?_ oM
   rcases hTW.sort with h3 | h3 | h3 <;> dsimp only at h3 <;> subst h3
   ·exact fun G r code p l g1 g2 g3=>((yw hrv oM hkk1 (by simp only [List.length_cons];omega) h8 oM) G r code p l g1 g2 ⟨g3.1,oM⟩).mono fun _ _ _ ⟨h6,w,b,q,h7,h8,h9,h10,h11,h12,h13⟩=>⟨h6,w,b,q,h7,h8,oM,h10,h11,h12,oM⟩
   ·have h0 : 0 < fs.length:=List.length_pos_iff.2 (hTW.ne (by simp))
    refine fun G r code p l g1 g2 g3=>((vl (cp:=15 + 10 * n) (ct:=300 + 20 * n) hrv oM hkk1 (by simp only [List.length_cons];omega) h0 h8 hw oM oM (fun d hdm hc=>?_) oM) G r code p l g1 g2 ⟨g3.1,oM⟩).mono fun _ _ _ ⟨h6,w,b,q,h7,h8,h9,h10,h11,h12,h13⟩=>⟨h6,w,b,q,h7,h8,oM,h10,h11,h12,oM⟩
    rcases hc with hc | rfl
    ·omega
    refine ih oM oM oM (dP hw (ce hr) (by simp) hdm) fun t' ht'=>?_
    have:=he _ hr
    rw [bS,if_neg (by simp),hY] at this
    dsimp only at this
    rw [ht'] at this
    exact this
   ·have h0 : 0 < fs.length:=List.length_pos_iff.2 (hTW.ne (by simp))
    exact fun G r code p l g1 g2 g3=>((vm hrv oM hkk1 (by simp only [List.length_cons];omega) h0 h8 hw) G r code p l g1 g2 ⟨g3.1,oM⟩).mono fun _ _ _ ⟨h6,w,b,q,h7,h8,h9,h10,h11,h12,h13⟩=>⟨h6,w,b,q,h7,h8,oM,h10,h11,h12,oM⟩
theorem ru {u : Value} {vs : List bP} (hw : SchW (ag vs)) (hu : u.oneCell' = true) : ∀ (m : Nat) {k : acA} {deep : Int},m ≤ 4 → deep ≤ m → -800 ≤ deep → aM (ag vs) k = true → ep u vs k deep (m4 m) (l8 m):=by
 have hvl : vs.length ≤ 8:=by have:=hw.len;unfold ag at this;simpa using this
 have hz : ∀ {k : acA} {deep : Int},deep ≤ 0 → -800 ≤ deep → aM (ag vs) k = true → ep u vs k deep 105 480:=fun {k deep} h1 h2 h3=>(abr hw hu ((ag vs).length + 1) (by have:=hw.len;omega) h1 (by have:=hw.len;omega) h3 (fun t ht=>pr hw t ht)).le (by have:=hw.len;omega) (by have:=hw.len;omega)
 intro m
 induction m with
 | zero=>intro k deep _ hd hd2 hk;exact hz hd hd2 hk
 | succ m ih =>
  intro k deep hm hd hd2 hk
  have hcm:=vq m oM
  have e1 : m4 (m + 1) = 8 * m4 m + 40:=rfl
  have e2 : l8 (m + 1) = 8 * l8 m + 400:=rfl
  by_cases hd0 : deep ≤ 0
  ·exact (hz hd0 hd2 hk).le oM oM
  have hD : ∀ {k : acA},aM (ag vs) k = true → ep u vs k (deep - 1) (m4 m) (l8 m):=fun {k} hk=>ih oM oM oM hk
  obtain ⟨c,r,rfl⟩:=ns hk
  have hkk:=cN (cZ hk)
  have hkk1:=hkk.1
  simp only [List.length_cons] at hkk
  by_cases h1 : c.toNat = 91
  ·obtain rfl:=bm h1 dC
   exact (pt oM oM (fun _=>hD (dt (.inl F) hk)) hu oM oM).le oM oM
  by_cases h2 : c.toNat = 63
  ·obtain rfl:=bm h2 dC
   exact (rq oM oM (fun _=>hD (dt (.inr F) hk)) hu oM oM).le oM oM
  have h91 : ¬ (c.toNat = 91 ∨ c.toNat = 63):=fun h=>by rcases h with h | h <;> omega
  cases hr : aZ (ag vs) (c :: r) with
  | none =>
   rcases eB hk h91 hr with e1 | e1 | e1
   ·rw [e1];exact rr.le oM oM
   ·rw [e1];exact rp.le oM oM
   ·rw [e1];exact pu.le oM oM
  | some t =>
   obtain ⟨r',e⟩:=fc hr
   simp only [List.cons.injEq] at e
   obtain ⟨rfl,rfl⟩:=e
   have href:=dO vs (64 :: r)
   rw [hr] at href
   rcases hrv : dS vs (64 :: r) with _ | ⟨⟨a,ca⟩,⟨so,nm,fs⟩⟩
   ·rw [hrv] at href;cases href
   rw [hrv] at href
   obtain rfl:=(Option.some.inj href).symm
   dsimp only at hr
   have hTW:=hw.ty _ (ce hr)
   have h8 : fs.length ≤ 8:=hTW.len
   refine ro ?_ oM
   rcases hTW.sort with h3 | h3 | h3 <;> dsimp only at h3 <;> subst h3
   ·exact fun G r code p l g1 g2 g3=>((aaj hrv oM hkk1 (by simp only [List.length_cons];omega) h8 hw oM oM (fun d hdm=>hD (dP hw (ce hr) (by simp) hdm)) oM) G r code p l g1 g2 ⟨g3.1,oM⟩).mono fun _ _ _ ⟨h6,w,b,q,h7,h8,h9,h10,h11,h12,h13⟩=>⟨h6,w,b,q,h7,h8,oM,h10,h11,h12,oM⟩
   ·have h0 : 0 < fs.length:=List.length_pos_iff.2 (hTW.ne (by simp))
    exact fun G r code p l g1 g2 g3=>((vl hrv oM hkk1 (by simp only [List.length_cons];omega) h0 h8 hw oM oM (fun d hdm _=>hD (dP hw (ce hr) (by simp) hdm)) oM) G r code p l g1 g2 ⟨g3.1,oM⟩).mono fun _ _ _ ⟨h6,w,b,q,h7,h8,h9,h10,h11,h12,h13⟩=>⟨h6,w,b,q,h7,h8,oM,h10,h11,h12,oM⟩
   ·have h0 : 0 < fs.length:=List.length_pos_iff.2 (hTW.ne (by simp))
    exact fun G r code p l g1 g2 g3=>((vm hrv oM hkk1 (by simp only [List.length_cons];omega) h0 h8 hw) G r code p l g1 g2 ⟨g3.1,oM⟩).mono fun _ _ _ ⟨h6,w,b,q,h7,h8,h9,h10,h11,h12,h13⟩=>⟨h6,w,b,q,h7,h8,oM,h10,h11,h12,oM⟩
theorem yI {r : Nat} {code : Value} {p : Int} {l s k : acA} (hp : 0 ≤ p ∧ p ≤ 500000000000) (hs : bj G code 1 l.length (bz l)) (hsl : s.length ≤ 10000000) (hkl : k.length ≤ 1048576) :
  bV acz 61 [Pt r 0,S s,S k] G [dy r code p cR] (fun v L'=>∃ x q,v = S x ∧ x.length ≤ 20000 ∧ L' = [dy r code q cR] ∧ p ≤ q ∧ q ≤ p + 3000000):=by
 by_cases hk : bM s k = true
 case neg =>
  have hk2 : bM s k = false:=by simpa using hk
  have cx_lk1 : ∀ G,bo acz 83 [S s,S k] G (fun v _=>∃ u,v = Tu [u,Bo false]):=fun G=>by
   refine (d9 (G:=G) (s:=s) (k:=k) oM oM).mono ?_
   rintro v G' L' ⟨h1,h2,u,vs,rfl,_⟩
   exact ⟨h1,h2,u,by rw [hk2]⟩
  refine jB (Post:=fun v G' L'=>G' = G ∧ _) [(0,_),(1,_),(2,_)] Tryz.func61 Tryz.ntmps61 fun B hok hB hW=>?_
  repeat' (first | refine jR ?_ | (refine jo ?_;(refine aI F F F (cx_lk1 _) F ?_;rintro _ G hle ⟨u1,rfl⟩;skip)) | refine ac F F ?_)
  all_goals refine Nx.base hok hB ?_
  all_goals exact aN (vs:=[_]) F ⟨F,trivial⟩ F aX ⟨F,_,_,F,by (simp only [List.length_append,List.length_cons,List.length_nil,List.length_take,List.length_drop];omega),rfl,oM,oM⟩
 obtain ⟨ts,hsc,hki,hw⟩:=g9 hk
 have cx_lka : ∀ G,bo acz 83 [S s,S k] G (fun v G'=>∃ a c vs,v = Tu [.slice a vs.length c,Bo true] ∧ SchR G' (.slice a vs.length c) vs ∧ ag vs = ts):=fun G=>by
  refine (d9 (G:=G) (s:=s) (k:=k) oM oM).mono ?_
  rintro v G' L' ⟨h1,h2,u,vs,rfl,h4,_,h6⟩
  obtain ⟨_,⟨rfl,h0⟩ | ⟨b,o,cap,rfl,_,_⟩⟩:=h4.sl
  ·exact ⟨h1,h2,none,0,vs,by rw [hk,h0],by rw [h0];exact h4,h6 ts hsc hki⟩
  ·exact ⟨h1,h2,_,cap,vs,by rw [hk],h4,h6 ts hsc hki⟩
 refine jB (Post:=fun v G' L'=>G' = G ∧ _) [(0,_),(1,_),(2,_)] Tryz.func61 Tryz.ntmps61 fun B hok hB hW=>?_
 repeat' (first | refine jR ?_ | (refine jo ?_;(refine aI F F F (cx_lka _) F ?_;rintro _ G hle ⟨av1,cv1,vs1,rfl,hR1,hT1⟩;skip)) | refine ad F F ?_)
 subst hT1
 have hg0:=hle
 have hu1:=hR1.sl.one
 have cx_dv:=fun {p : Int} (hp : 0 ≤ p ∧ p + m4 4 ≤ 600000000000)=>ru hw hu1 4 (k:=k) (deep:=4) oM oM oM hki G r code p l hR1 (hs.mono hle) hp
 have hc4 : m4 4 = 453480:=by decide
 have ht4 : l8 4 = 2200080:=by decide
 rw [hc4,ht4] at cx_dv
 repeat' ((refine jo ?_;(refine cP F F F (cx_dv oM) F ?_;rintro _ G1 _ hle ⟨w1,b1,q1,rfl,hrep,htot,hone,rfl,hq1,hq2⟩;dsimp only [zA,fA];skip)))
 have hg1:=hle
 have hob:=kT hw hrep
 unfold gE at hob
 have cx_out:=ii hw hrep oM
 repeat' (first | refine jR ?_ | (refine jo ?_;refine ab F F F cx_out F ?_))
 refine aR (ι:=acA × Int × Int × Gh) (fun j=>Gh.le G1 j.2.2.2 ∧ (0 ≤ j.2.1 ∧ j.2.1 ≤ 3) ∧ (1 ≤ j.1.length ∧ j.1.length ≤ 2 * l8 (j.2.1.toNat + 1)) ∧ p ≤ j.2.2.1 ∧ j.2.2.1 ≤ p + 500000 * (4 - j.2.1)) (fun j=>[(0,Pt r 0),(2,S k),(7,.slice av1 vs1.length cv1),(9,S j.1),(10,I j.2.1)]) (fun j=>j.2.2.2) (fun j=>[dy r code j.2.2.1 cR]) (fun j=>j.2.1.toNat) (w1.out,3,q1,G1) ?_ tU F aX (fun j Hj=>?_)
 ·refine ⟨Gh.le.refl _,by dsimp only;omega,⟨hone,?_⟩,by dsimp only;omega,by dsimp only;omega⟩
  show w1.out.length ≤ 2 * l8 4
  omega
 obtain ⟨t,d,q,Gq⟩:=j
 dsimp only at Hj ⊢
 obtain ⟨hgq,hd,⟨ht1,ht2⟩,hq3,hq4⟩:=Hj
 have hs2:=hs.mono ((hg0.trans hg1).trans hgq)
 clear cx_dv cx_out hrep
 by_cases hgo : 150 < t.length ∧ 0 < d
 ·obtain ⟨hgo1,hgo2⟩:=hgo
  have hcm:=vq d.toNat oM
  have cx_dv:=fun {p : Int} (hp : 0 ≤ p ∧ p + 500000 ≤ 600000000000)=>((ru hw hu1 d.toNat (k:=k) (deep:=d) oM oM oM hki).le hcm.2.1 (Nat.le_refl _)) Gq r code p l (hR1.mono (hg1.trans hgq)) hs2 hp
  repeat' (first | refine jR ?_ | (refine jo ?_;first | refine aH F ?_ | (refine cP F F F (cx_dv oM) F ?_;rintro _ G1 _ hle ⟨w1,b1,q1,rfl,hrep,htot,hone,rfl,hq1,hq2⟩;dsimp only [zA,fA];skip)) | refine aA F F (ay oM) ?_ | refine ac F (ay ‹_›) ?_)
  have hob:=kT hw hrep
  unfold gE at hob
  have cx_out:=ii hw hrep oM
  have e : (d - 1).toNat + 1 = d.toNat:=oM
  repeat' (first | refine jM ?_ | (refine jo ?_;refine ab F F F cx_out F ?_))
  exact aW (w1.out,d - 1,q1,G1) ⟨hgq.trans hle,by dsimp only;omega,⟨hone,by dsimp only;rw [e];omega⟩,by dsimp only;omega,by dsimp only;omega⟩ (by dsimp only;omega) tU rfl aX
 ·have hx : t.length ≤ 150 ∨ d ≤ 0:=oM
  have hl : t.length ≤ 8480:=by
   rcases hx with hx | hx
   ·omega
   ·have e : d = 0:=oM
    subst e
    have : l8 (Int.toNat 0 + 1) = 4240:=by decide
    omega
  repeat' (first | refine jR ?_ | (refine jo ?_;first | refine aH F ?_ | refine av F ?_ | (refine af F F F (cA ?_ (by (repeat (assumption));done)) rfl ?_;(focus omega);rintro _ _ ⟨k,rfl,rfl,hk0,hk1⟩;dsimp only [zA,fA])) | refine dF F F (fun _=>?_) (fun _=>?_) | (refine ad F (by first | rfl | (refine decide_eq_false ?_;(omega))) ?_) | refine cB F (fun _=>?_) (fun _=>?_))
  all_goals refine Nx.base hok hB ?_
  all_goals (first | exact aN (vs:=[_]) F ⟨F,trivial⟩ F aX ⟨F,_,_,F,by (omega),F,oM,oM⟩ | skip)
  all_goals (refine aj (am (id:=11) [] (fun _ h=>absurd h (by simp)) ai ?_);refine jW 7 [0,1,2,4,9,10,11,12] (aa 15 7703) ?_;refine cl [3,5] kR dC ⟨?_,?_,trivial⟩;(focus (refine bc F F ?_;(refine jF fun _=>?_);refine jK (aa 15 7711) ?_;refine jA 5 F ?_;((refine af F F F (cA ?_ (by (repeat (assumption));done)) rfl ?_;(focus omega);rintro _ _ ⟨k,rfl,rfl,hk0,hk1⟩;dsimp only [zA,fA]));refine jK (aa 15 7743) ?_;((refine jG (aa 15 7807) 6 F (aQ F F ?_) ?_;focus omega));refine jA 7 F ?_;((refine eK 64 F F F ?_ F (fun xs hxs=>?_);(focus ((simp only [List.length_append,List.length_cons,List.length_nil,List.length_take];omega);done))));refine jK (aa 15 7935) ?_;refine jW 0 [8,13,14] (aa 15 32767) ?_;refine jQ ?_));rotate_left 1;(focus (refine bc F F ?_;((refine af F F F (cA ?_ (by (repeat (assumption));done)) rfl ?_;(focus omega);rintro _ _ ⟨k,rfl,rfl,hk0,hk1⟩;dsimp only [zA,fA]));refine jK (aa 15 7735) ?_;refine jA 3 F ?_;(refine jF fun _=>?_);refine jK (aa 15 7743) ?_;((refine jG (aa 15 7807) 6 F (aQ F F ?_) ?_;focus omega));refine jA 7 F ?_;((refine eK 64 F F F ?_ F (fun xs hxs=>?_);(focus ((simp only [List.length_append,List.length_cons,List.length_nil,List.length_take];omega);done))));refine jK (aa 15 7935) ?_;refine jW 0 [8,13,14] (aa 15 32767) ?_;refine jQ ?_));rotate_left 1)
  all_goals repeat' (refine jR ?_)
  all_goals exact aN (vs:=[_]) F ⟨F,trivial⟩ F sB ⟨F,_,_,F,by (simp only [List.length_append,List.length_cons,List.length_nil,List.length_take,List.length_drop];omega),rfl,oM,oM⟩
abbrev zj : TypeId:=86
abbrev ze : TypeId:=36
abbrev zf : TypeId:=9
theorem ql {r : Nat} {code : Value} {p : Int} {l : acA} (hp : 0 ≤ p ∧ p ≤ 500000000000) (hs : bj G code 1 l.length (bz l)) :
  bV acz 101 [Pt r 0] G [dy r code p cR] (fun v L'=>∃ x q,v = S x ∧ x.length ≤ 64 ∧ L' = [dy r code q cR] ∧ p ≤ q ∧ q ≤ p + 10):=by
 refine jH [(0,_)] Tryz.func101 Tryz.ntmps101 fun B hB hW=>?_
 repeat' (first | refine jR ?_ | (refine jo ?_;first | refine jF fun _=>?_ | refine jV (aQ F F oM) ?_ | (refine eK 64 F F F ?_ F (fun xs hxs=>?_);(focus ((simp only [List.length_append,List.length_cons,List.length_nil,List.length_take];omega);done))) | (refine af F F F (cA ?_ (by (repeat (assumption));done)) rfl ?_;(focus omega);rintro _ _ ⟨k,rfl,rfl,hk0,hk1⟩;dsimp only [zA,fA])) | refine cB F (fun _=>?_) (fun _=>?_))
 all_goals exact aN (vs:=[_]) F ⟨F,trivial⟩ F sB ⟨F,_,_,F,oM,F,oM,oM⟩
theorem my {ms : List Mt} {a b c : acA} : aF fR ms ++ [S a,S b,S c] = aF fR (ms ++ [(a,b,c)]):=(cj fR ms (a,b,c)).symm
theorem hX {ms : List Mt} {x : Mt} : ms.length + 1 = (ms ++ [x]).length:=by simp
theorem oy {ms : List Mt} {x : Mt} (h : ∀ y ∈ ms,kB y) (hx : kB x) : ∀ y ∈ ms ++ [x],kB y:=by
 intro y hy
 rcases List.mem_append.mp hy with hy | hy
 ·exact h y hy
 ·rw [List.mem_singleton.mp hy];exact hx
theorem rJ {r : Nat} {code : Value} {p : Int} {l : acA} (hp : 0 ≤ p ∧ p ≤ 400000000000) (hs : bj G code 1 l.length (bz l)) :
  di acz 58 [Pt r 0] G [dy r code p cR] (fun v G' L'=>∃ s a ms c q,v = Ag [S s,.slice a (ms : List Mt).length c] ∧ bj G' (.slice a ms.length c) 3 ms.length (aF fR ms) ∧ (s.length ≤ 20000 ∧ ms.length ≤ 4 ∧ ∀ x ∈ ms,kB x) ∧ L' = [dy r code q cR] ∧ p ≤ q ∧ q ≤ p + 2000):=by
 refine bI [(0,_)] Tryz.func58 kR Tryz.ntmps58 F F tU fun B hB hW=>?_
 repeat' (first | refine jR ?_ | (refine jo ?_;first | refine jL fun _=>?_ | refine jV (ak F F) ?_ | refine jC F F F ?_ | refine jF fun _=>?_ | (refine af F F F (sr ?_ (by (repeat (assumption));done)) rfl ?_;(focus omega);rintro _ _ ⟨sc,q1,rfl,hsc,rfl,hq1,hq2⟩;dsimp only [zA,fA])))
 rename_i y2 y4 yN
 refine Nx.addNil zj 3 (Nx.perm ((List.perm_middle (l₁:=[_,_])).cons _) ?_)
 dsimp only [zA,fA]
 refine aR (ι:=List Mt × Option Addr × Nat × Nat × Int) (fun j=>(j.1.length ≤ j.2.2.2.1 ∧ j.2.2.2.1 ≤ 3) ∧ (∀ x ∈ j.1,kB x) ∧ p ≤ j.2.2.2.2 ∧ j.2.2.2.2 ≤ p + 701 + 100 * ((j.2.2.2.1 : Nat) : Int)) (fun j=>[(0,Pt r 0),(2,Pt y2 0),(3,S sc),(4,Pt y4 0),(5,.slice (some ⟨yN,0,none⟩) 3 3),(6,I ((j.2.2.2.1 : Nat) : Int))]) (fun _=>G) (fun j=>[.acc (.slice j.2.1 j.1.length j.2.2.1) zj 3 j.1.length (aF fR j.1),dy r code j.2.2.2.2 cR,.blk yN (.cells (List.toArray [S [97,100,100],S [103,101,116],S [112,117,116]]) zf (0,0)),.blk y4 (.cells (List.toArray [S sc,.slice j.2.1 j.1.length j.2.2.1]) ze (0,0)),.blk y2 (.cells (List.toArray [S [],aL]) ze (0,0))]) (fun j=>3 - j.2.2.2.1) ([],none,0,0,q1) ?_ tU F aX (fun j Hj=>?_)
 ·exact ⟨⟨by dsimp only;exact Nat.le_refl _,by dsimp only;omega⟩,by simp,by dsimp only;omega,by dsimp only;omega⟩
 obtain ⟨ms,a,c,i,q⟩:=j
 dsimp only at Hj ⊢
 obtain ⟨hil,hms,hq3,hq4⟩:=Hj
 by_cases hi : i < 3
 ·rcases (show i = 0 ∨ i = 1 ∨ i = 2 by omega) with rfl | rfl | rfl
  all_goals
   repeat' (first | refine jM ?_ | (refine jo ?_;(refine af F F F (cA ?_ (by (repeat (assumption));done)) rfl ?_;(focus omega);rintro _ _ ⟨k,rfl,rfl,hk0,hk1⟩;dsimp only [zA,fA])) | refine ac F F ?_ | refine cB F (fun _=>?_) (fun _=>?_))
   ·(refine aj (am (id:=8) [.blk yN (.cells (List.toArray [S [97,100,100],S [103,101,116],S [112,117,116]]) zf (0,0))] (by intro y hy;simp only [List.mem_cons,List.not_mem_nil,or_false] at hy ⊢;simp [hy]) ai ?_);refine jW 10 [0,2,3,6,7,9,10] (aa 17 1741) ?_;((refine jG (aa 17 1757) 4 F (aw F F ?_) ?_;focus omega));(refine jG (aa 17 1789) 5 F (aq F F F) ?_);refine cl [1,8] kR dC ⟨?_,?_,trivial⟩;(focus (refine bc F F ?_;(refine ah F ?_);refine jK (aa 17 1791) ?_;refine jA 8 F ?_;((refine af F F F (ij ?_ (by (repeat (assumption));done) ?_) rfl ?_;(focus omega);(focus omega);rintro _ _ ⟨kd,q1,rfl,hkd,rfl,hq1,hq2⟩;dsimp only [zA,fA]));refine jK (aa 17 2047) ?_;refine jA 11 F ?_;((refine af F F F (ij ?_ (by (repeat (assumption));done) ?_) rfl ?_;(focus omega);(focus omega);rintro _ _ ⟨kd,q1,rfl,hkd,rfl,hq1,hq2⟩;dsimp only [zA,fA]));refine jK (aa 17 4095) ?_;(refine jG (aa 17 8191) 12 F (ak F F) ?_);refine jA 13 F ?_;(refine jF fun _=>?_);refine jK (aa 17 16383) ?_;refine jA 14 F ?_;((refine bW F F F F F F F F F ?_ fun _ _=>?_;focus omega));refine jK (aa 17 32767) ?_;refine jW 1 [15] (aa 17 65535) ?_;refine jA 16 F ?_;(refine jD F F F ?_);refine jK (aa 17 131071) ?_;refine jQ ?_));rotate_left 1;(focus (refine bc F F ?_;((refine af F F F (ij ?_ (by (repeat (assumption));done) ?_) rfl ?_;(focus omega);(focus omega);rintro _ _ ⟨kd,q1,rfl,hkd,rfl,hq1,hq2⟩;dsimp only [zA,fA]));refine jK (aa 17 2045) ?_;refine cl [1,11] kR dC ⟨?_,?_,trivial⟩;(focus (refine bc F F ?_;(refine ah F ?_);refine jK (aa 17 2047) ?_;refine jA 11 F ?_;((refine af F F F (ij ?_ (by (repeat (assumption));done) ?_) rfl ?_;(focus omega);(focus omega);rintro _ _ ⟨kd,q1,rfl,hkd,rfl,hq1,hq2⟩;dsimp only [zA,fA]));refine jK (aa 17 4095) ?_;(refine jG (aa 17 8191) 12 F (ak F F) ?_);refine jA 13 F ?_;(refine jF fun _=>?_);refine jK (aa 17 16383) ?_;refine jA 14 F ?_;((refine bW F F F F F F F F F ?_ fun _ _=>?_;focus omega));refine jK (aa 17 32767) ?_;refine jW 1 [15] (aa 17 65535) ?_;refine jA 16 F ?_;(refine jD F F F ?_);refine jK (aa 17 131071) ?_;refine jQ ?_));rotate_left 1;(focus (refine bc F F ?_;((refine af F F F (ij ?_ (by (repeat (assumption));done) ?_) rfl ?_;(focus omega);(focus omega);rintro _ _ ⟨kd,q1,rfl,hkd,rfl,hq1,hq2⟩;dsimp only [zA,fA]));refine jK (aa 17 4093) ?_;(refine jG (aa 17 8189) 12 F (ak F F) ?_);refine cl [1,13] kR dC ⟨?_,?_,trivial⟩;(focus (refine bc F F ?_;(refine ah F ?_);refine jK (aa 17 8191) ?_;refine jA 13 F ?_;(refine jF fun _=>?_);refine jK (aa 17 16383) ?_;refine jA 14 F ?_;((refine bW F F F F F F F F F ?_ fun _ _=>?_;focus omega));refine jK (aa 17 32767) ?_;refine jW 1 [15] (aa 17 65535) ?_;refine jA 16 F ?_;(refine jD F F F ?_);refine jK (aa 17 131071) ?_;refine jQ ?_));rotate_left 1;(focus (refine bc F F ?_;(refine jF fun _=>?_);refine jK (aa 17 16381) ?_;refine jA 1 F ?_;(refine ah F ?_);refine jK (aa 17 16383) ?_;refine jA 14 F ?_;((refine bW F F F F F F F F F ?_ fun _ _=>?_;focus omega));refine jK (aa 17 32767) ?_;refine jW 1 [15] (aa 17 65535) ?_;refine jA 16 F ?_;(refine jD F F F ?_);refine jK (aa 17 131071) ?_;refine jQ ?_));rotate_left 1));rotate_left 2));rotate_left 3)
    all_goals repeat' (refine jM ?_)
    all_goals
     rename_i kd1 q0 hkd1 hqa hqb n1 n2 n3
     first | (rw [my (ms:=ms) (a:=[97,100,100]) (b:=kd1) (c:=kd),hX (ms:=ms) (x:=([97,100,100],kd1,kd))];exact aW (ms ++ [([97,100,100],kd1,kd)],some ⟨n2,0,none⟩,n3,0 + 1,q1) ⟨⟨by dsimp only;rw [← hX];omega,by dsimp only;omega⟩,oy hms ⟨by simp,by dsimp only;omega,by dsimp only;omega⟩,by dsimp only;omega,by dsimp only;omega⟩ (by dsimp only;omega) tU rfl sB) | (rw [my (ms:=ms) (a:=[103,101,116]) (b:=kd1) (c:=kd),hX (ms:=ms) (x:=([103,101,116],kd1,kd))];exact aW (ms ++ [([103,101,116],kd1,kd)],some ⟨n2,0,none⟩,n3,1 + 1,q1) ⟨⟨by dsimp only;rw [← hX];omega,by dsimp only;omega⟩,oy hms ⟨by simp,by dsimp only;omega,by dsimp only;omega⟩,by dsimp only;omega,by dsimp only;omega⟩ (by dsimp only;omega) tU rfl sB) | (rw [my (ms:=ms) (a:=[112,117,116]) (b:=kd1) (c:=kd),hX (ms:=ms) (x:=([112,117,116],kd1,kd))];exact aW (ms ++ [([112,117,116],kd1,kd)],some ⟨n2,0,none⟩,n3,2 + 1,q1) ⟨⟨by dsimp only;rw [← hX];omega,by dsimp only;omega⟩,oy hms ⟨by simp,by dsimp only;omega,by dsimp only;omega⟩,by dsimp only;omega,by dsimp only;omega⟩ (by dsimp only;omega) tU rfl sB)
   ·refine Nx.perm (List.Perm.swap _ _ _) ?_
    first | (exact aW (ms,a,c,0 + 1,q + 1) ⟨⟨by dsimp only;omega,by dsimp only;omega⟩,hms,by dsimp only;omega,by dsimp only;omega⟩ (by dsimp only;omega) tU rfl aX) | (exact aW (ms,a,c,1 + 1,q + 1) ⟨⟨by dsimp only;omega,by dsimp only;omega⟩,hms,by dsimp only;omega,by dsimp only;omega⟩ (by dsimp only;omega) tU rfl aX) | (exact aW (ms,a,c,2 + 1,q + 1) ⟨⟨by dsimp only;omega,by dsimp only;omega⟩,hms,by dsimp only;omega,by dsimp only;omega⟩ (by dsimp only;omega) tU rfl aX)
 ·repeat' (first | refine jR ?_ | (refine jo ?_;first | refine jC F F F ?_ | refine aK F ?_ | (refine af F F F (cA ?_ (by (repeat (assumption));done)) rfl ?_;(focus omega);rintro _ _ ⟨k,rfl,rfl,hk0,hk1⟩;dsimp only [zA,fA])) | refine ad F (aB oM) ?_ | refine cB F (fun _=>?_) (fun _=>?_))
  ·(refine aj (am (id:=10) [] (fun _ h=>absurd h (by simp)) ai ?_);refine jW 7 [0,2] (aa 9 5) ?_;refine cl [1,3] kR dC ⟨?_,?_,trivial⟩;(focus (refine bc F F ?_;(refine ah F ?_);refine jK (aa 9 7) ?_;refine jA 3 F ?_;((refine af F F F (ql ?_ (by (repeat (assumption));done)) rfl ?_;(focus omega);rintro _ _ ⟨nx,q1,rfl,hnx,rfl,hq1,hq2⟩;dsimp only [zA,fA]));refine jK (aa 9 15) ?_;(refine jG (aa 9 31) 4 F (ak F F) ?_);refine jA 5 F ?_;(refine jF fun _=>?_);refine jK (aa 9 63) ?_;refine jA 6 F ?_;((refine bW F F F F F F F F F ?_ fun _ _=>?_;focus omega));refine jK (aa 9 127) ?_;refine jW 1 [7] (aa 9 255) ?_;refine jA 8 F ?_;(refine jD F F F ?_);refine jK (aa 9 511) ?_;refine jQ ?_));rotate_left 1;(focus (refine bc F F ?_;((refine af F F F (ql ?_ (by (repeat (assumption));done)) rfl ?_;(focus omega);rintro _ _ ⟨nx,q1,rfl,hnx,rfl,hq1,hq2⟩;dsimp only [zA,fA]));refine jK (aa 9 13) ?_;(refine jG (aa 9 29) 4 F (ak F F) ?_);refine cl [1,5] kR dC ⟨?_,?_,trivial⟩;(focus (refine bc F F ?_;(refine ah F ?_);refine jK (aa 9 31) ?_;refine jA 5 F ?_;(refine jF fun _=>?_);refine jK (aa 9 63) ?_;refine jA 6 F ?_;((refine bW F F F F F F F F F ?_ fun _ _=>?_;focus omega));refine jK (aa 9 127) ?_;refine jW 1 [7] (aa 9 255) ?_;refine jA 8 F ?_;(refine jD F F F ?_);refine jK (aa 9 511) ?_;refine jQ ?_));rotate_left 1;(focus (refine bc F F ?_;(refine jF fun _=>?_);refine jK (aa 9 61) ?_;refine jA 1 F ?_;(refine ah F ?_);refine jK (aa 9 63) ?_;refine jA 6 F ?_;((refine bW F F F F F F F F F ?_ fun _ _=>?_;focus omega));refine jK (aa 9 127) ?_;refine jW 1 [7] (aa 9 255) ?_;refine jA 8 F ?_;(refine jD F F F ?_);refine jK (aa 9 511) ?_;refine jQ ?_));rotate_left 1));rotate_left 2)
   all_goals repeat' (first | refine jR ?_ | (refine jo ?_;first | refine jC F F F ?_ | refine aK F ?_))
   all_goals
    rename_i n1 n2 n3
    rw [show aF fR ms ++ [S nx,.string ⟨#[110]⟩,.string ⟨#[110]⟩] = aF fR (ms ++ [(nx,[110],[110])]) from my,hX (x:=(nx,[110],[110]))]
    refine Nx.sealS (v:=.slice (some ⟨n2,0,none⟩) (ms ++ [(nx,[110],[110])]).length n3) fun G2 hG2 hsl=>?_
    exact aN (vs:=[_]) F ⟨aD F F F F,trivial⟩ F sB ⟨hG2,sc,some ⟨n2,0,none⟩,ms ++ [(nx,[110],[110])],n3,_,F,hsl,⟨oM,by rw [← hX];omega,oy hms ⟨by dsimp only;omega,by simp,by simp⟩⟩,rfl,oM,oM⟩
  ·refine Nx.sealS (v:=.slice a ms.length c) fun G2 hG2 hsl=>?_
   exact aN (vs:=[_]) F ⟨aD F F F F,trivial⟩ F sB ⟨hG2,sc,a,ms,c,_,F,hsl,⟨oM,oM,hms⟩,F,oM,oM⟩
end Go.E
