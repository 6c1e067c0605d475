/- Contracts and plain laws that the statement rests on, part 7. Conditions: as each says. -/
import Derived.Test.YtlkjjgmfhafnaaaGreatDoorT6
set_option linter.unusedVariables false
set_option linter.unusedSimpArgs false
namespace Go.E
set_option maxRecDepth 20000
set_option maxHeartbeats 2000000
open Go.Proofs
variable {G : Gh}
theorem acC {n r sc : Nat} {qs : List cC} {k s : adE} {d : Int} (hd : d = 12 - (n : Int)) (hn : n ≤ 12) (hU : rI n sc qs) (hS : ScI G sc qs) (hk : aB (ah qs) (63 :: k) = true) (hs : s.length ≤ 1000) :
  dD adD 92 [Pt r 0,Ag (c7 (63 :: k))] G [bQ r sc s false none 0 0 d] (kP (rb (ah qs) (n + 1) (63 :: k)) r sc s false d):=by
 have hk2:=dy (.inr rfl) hk
 obtain ⟨e1,e2,e3,_⟩:=gO (c:=63) (k:=k) (.inr rfl)
 have hrd:=vZ (ts:=ah qs) (n:=n) (k:=k) (s:=s)
 unfold c7
 rw [e1,e2,e3]
 have cx_sign:=@hJ G 63 (sg k) (bs k) (nm k)
 have cx_pt:=@lr G 63 (sg k) (bs k) (nm k)
 cases hf : cI s with
 | none =>
  rw [hf] at hrd
  have cx_fl:=td (G:=G) (r:=r) (sc:=sc) (n:=0) (c:=0) (s:=s) (b:=false) (a:=none) (d:=d + 1) (.inr hf) oM
  refine cF [(0,_),(1,_)] Tryz.func92 kR Tryz.ntmps92 F F tU fun B hok hB hW=>?_
  repeat' (first | refine jM ?_ | (refine jo ?_;first | refine jO fun _=>?_ | refine jL fun _=>?_ | refine al F ?_ | refine jD F F F ?_ | refine jV (du F F) ?_))
  rename_i x2 x3 x4
  refine jo ?_
  refine cG (fi:=[]) (ca:=[Pt x2 0]) (az:=[]) F F ?_
  repeat' (first | refine jR ?_ | (refine jo ?_;first | refine al F ?_ | refine aQ F ?_ | refine jC F F F ?_ | refine jV (ao F F) ?_ | refine ac F F F cx_sign F ?_ | (refine ai F F F cx_fl F ?_;rintro _ _ ⟨q1,⟨rfl,hql⟩,rfl⟩;dsimp only [zA,fA])) | refine ab F F ?_ | (refine ad F (by first | rfl | (refine decide_eq_false ?_;(omega))) ?_))
  all_goals
   refine dl (.inl F) F (cQ (x0:=x2) (r:=r) (sc:=sc) (s:=q1) (b:=true) (a:=none) (n:=0) (c:=0) (d:=d + 1) oM) F ?_
   rintro v G' L' ⟨rfl,rfl⟩
   dsimp only [zA,fA]
   exact ⟨[_],[bQ r sc q1 true none 0 0 (d + 1 - 1)],⟨ay F F F F,trivial⟩,sB,Gh.le.refl _,cP (c:=⟨63,[],0,none,0,0⟩) (bA dC dC) oM (fun _=>⟨F,F,F⟩) ⟨hql,fun h=>(by cases h),fun _=>.inr hrd⟩⟩
 | some y =>
  obtain ⟨x,q⟩:=y
  rw [hf] at hrd
  have hin:=fB hf
  have hl : s.length = q.length + 1:=by rw [hin];rfl
  have cx_fl:=ta (G:=G) (r:=r) (sc:=sc) (n:=0) (c:=0) (s:=s) (q:=q) (x:=x) (a:=none) (d:=d + 1) hf oM
  cases x with
  | false =>
   refine cF [(0,_),(1,_)] Tryz.func92 kR Tryz.ntmps92 F F tU fun B hok hB hW=>?_
   repeat' (first | refine jM ?_ | (refine jo ?_;first | refine jO fun _=>?_ | refine jL fun _=>?_ | refine al F ?_ | refine jD F F F ?_ | refine jV (du F F) ?_))
   rename_i x2 x3 x4
   refine jo ?_
   refine cG (fi:=[]) (ca:=[Pt x2 0]) (az:=[]) F F ?_
   repeat' (first | refine jR ?_ | (refine jo ?_;first | refine al F ?_ | refine aQ F ?_ | refine jC F F F ?_ | refine jV (ao F F) ?_ | refine ac F F F cx_sign F ?_ | (refine ai F F F cx_fl F ?_;rintro _ _ ⟨rfl,rfl⟩;dsimp only [zA,fA])) | refine ab F F ?_ | (refine ad F (by first | rfl | (refine decide_eq_false ?_;(omega))) ?_))
   all_goals
    refine dl (.inl F) F (cQ (x0:=x2) (r:=r) (sc:=sc) (s:=q) (b:=false) (a:=none) (n:=0) (c:=0) (d:=d + 1) oM) F ?_
    rintro v G' L' ⟨rfl,rfl⟩
    dsimp only [zA,fA]
    exact ⟨[_],[bQ r sc q false none 0 0 (d + 1 - 1)],⟨ay F F F F,trivial⟩,sB,Gh.le.refl _,cP (c:=⟨63,[],0,none,0,0⟩) (bA dC dC) oM (fun _=>⟨F,F,F⟩) ⟨oM,fun _=>⟨F,hrd⟩,fun h=>(by cases h)⟩⟩
  | true =>
   dsimp only at hrd
   have cx_vl:=w9 (r:=r) (d:=d + 1) oM oM (hU G r k q false hS hk2 oM)
   refine cF [(0,_),(1,_)] Tryz.func92 kR Tryz.ntmps92 F F tU fun B hok hB hW=>?_
   repeat' (first | refine jM ?_ | (refine jo ?_;first | refine jO fun _=>?_ | refine jL fun _=>?_ | refine al F ?_ | refine jD F F F ?_ | refine jV (du F F) ?_))
   rename_i x2 x3 x4
   refine jo ?_
   refine cG (fi:=[]) (ca:=[Pt x2 0]) (az:=[]) F F ?_
   repeat' (first | refine jR ?_ | (refine jo ?_;first | refine al F ?_ | refine aQ F ?_ | refine ac F F F cx_sign F ?_ | (refine ai F F F cx_fl F ?_;rintro _ _ ⟨rfl,rfl⟩;dsimp only [zA,fA])) | refine ab F F ?_ | (refine ad F (by first | rfl | (refine decide_eq_false ?_;(omega))) ?_))
   (refine ak (ar (id:=21) [.blk x3 (.cells (List.toArray [S (63 :: sg k),S (bs k),S (nm k)]) rW (0,0)),.blk x2 (.cells (List.toArray [Pt r 0]) fX (0,0))] (by intro y hy;simp only [List.mem_cons,List.not_mem_nil,or_false] at hy ⊢;rcases hy with hy | hy <;> simp [hy]) aj ?_);(refine jG (aa 7 1) 0 F (aC F F F) ?_);(refine jG (aa 7 3) 1 F (bz F F F F) ?_);refine jA 2 F ?_;(refine ac F F F cx_pt F ?_);refine jK (aa 7 7) ?_;refine jA 3 F ?_;(refine cY F F F cx_vl F ?_;rintro _ G1 _ hle ⟨u1,c1,t1,b1,rfl,hrep,rfl,hP⟩;dsimp only [zA,fA];skip);refine jK (aa 7 15) ?_;refine jA 4 F ?_;(refine jF fun _=>?_);refine jK (aa 7 31) ?_;(refine jG (aa 7 63) 5 F (ao F F) ?_);refine jA 6 F ?_;(refine jC F F F ?_);refine jK (aa 7 127) ?_;refine jQ ?_)
   all_goals repeat' (refine jR ?_)
   rename_i y
   refine Nx.sealC (b:=y) fun G2 hG2 hsy=>?_
   have hsl : bq G2 (.slice (some ⟨y,0,none⟩) 1 1) 4 ([c1] : List VC).length (ax bG [c1]):=⟨rfl,.inr ⟨y,0,1,rfl,Nat.le_refl _,hsy⟩⟩
   obtain ⟨hQ1,hQ2,hQ3⟩:=lf hP
   refine dl (.inl F) F (cQ (x0:=x2) (r:=r) (sc:=sc) (s:=t1) (b:=b1) (a:=none) (n:=0) (c:=0) (d:=d + 1) oM) F ?_
   rintro v G' L' ⟨rfl,rfl⟩
   dsimp only [zA,fA]
   exact ⟨[_],[bQ r sc t1 b1 none 0 0 (d + 1 - 1)],⟨ay F F F F,trivial⟩,sB,(hle.trans hG2),cP (c:=⟨63,[],0,some ⟨y,0,none⟩,1,1⟩) (db (ks:=[u1]) dC dC (fun h=>absurd h dC) F hsl ⟨_,[],F,fz hG2 hrep,F⟩) oM (fun _=>⟨F,F,F⟩) ⟨oM,fun h=>⟨F,by rw [hrd,(hQ2 h).1];rfl⟩,fun h=>.inr (by rw [hrd,hQ3 h];rfl)⟩⟩
theorem acB {n r sc p : Nat} {qs : List cC} {t : Ty} {x s : adE} {d : Int} (hd : d = 12 - (n : Int)) (hn : n ≤ 12) (hU : rI n sc qs) (hS : ScI G sc qs) (hW0 : SchW (ah qs)) (hkv : mB (ig qs) x = some (Pt p 0)) (hT : i8 G p t) (hw : TyW t) (hkf : ∀ d ∈ t.fields,aB (ah qs) d.kind = true) (hso : t.sort = 82) (hs : s.length ≤ 1000) :
  dD adD 92 [Pt r 0,Ag [S [],S [64],S x]] G [bQ r sc s false none 0 0 d] (kP (b8 (ah qs) (rb (ah qs) n) t) r sc s false d):=by
 obtain ⟨u,m2,g1,g2,g3⟩:=hS.at'
 have hso' : (t.sort : Int) = 82:=oM
 have cx_sign:=@dx G [64] x
 have cx_rcd:=abx (G:=G) (r:=r) (s:=s) (d:=d + 1) oM hn hU hS hW0 hT hw hkf hs
 have hrd : b8 (ah qs) (rb (ah qs) n) t = fun s=>(bS (ah qs) (rb (ah qs) n) t (s.length + 1) 0 s []).map fun x=>(.nd 82 [] 0 x.1,x.2):=by
  funext s
  unfold b8;rw [if_pos hso]
 rw [hrd]
 obtain ⟨fv,ln,h1,h2⟩:=hT
 refine cF [(0,_),(1,_)] Tryz.func92 kR Tryz.ntmps92 F F tU fun B hok hB hW=>?_
 repeat' (first | refine jM ?_ | (refine jo ?_;first | refine jO fun _=>?_ | refine jL fun _=>?_ | refine al F ?_ | refine jD F F F ?_ | refine jV (du F F) ?_))
 rename_i x2 x3 x4
 refine jo ?_
 refine cG (fi:=[]) (ca:=[Pt x2 0]) (az:=[]) F F ?_
 repeat' (first | refine jR ?_ | (refine jo ?_;first | refine al F ?_ | refine aQ F ?_ | refine ac F F F cx_sign F ?_) | (refine ad F (by first | rfl | (refine decide_eq_false ?_;(omega))) ?_))
 (refine ak (ar (id:=34) _ (fun _ h=>h) aj ?_);refine jT 10 [7] (aa 11 128) ?_;(refine jG (aa 11 129) 0 F (aC F F F) ?_);refine jT 7 [1,2] (aa 11 135) ?_;(refine jG (aa 11 143) 3 F (aC F F F) ?_);refine jT 4 [4,5] (aa 11 191) ?_;(refine jG (aa 11 255) 6 F (an F F aS F F) ?_);(refine jG (aa 11 511) 8 F (aC F F F) ?_);((refine jG (aa 11 1023) 9 F (cg F F (d5 aS) aS F) ?_));refine jT 0 [10] (aa 11 2047) ?_;refine jQ ?_)
 all_goals repeat' (first | refine jR ?_ | (refine jo ?_;first | refine al F ?_ | refine jV (an F F aS F F) ?_ | refine jC F F F ?_ | (refine cY F F F cx_rcd F ?_;rintro _ G1 _ hle ⟨u1,c1,t1,b1,a1,n1,k1,rfl,hrep,rfl,hsk,hP⟩;dsimp only [zA,fA];skip)) | refine ad F (aE oM) ?_)
 all_goals
  refine dl (.inl F) F (cQ (x0:=x2) (r:=r) (sc:=sc) (s:=t1) (b:=b1) (a:=a1) (n:=n1) (c:=k1) (d:=d + 1) oM) F ?_
  rintro v G' L' ⟨rfl,rfl⟩
  dsimp only [zA,fA]
  exact ⟨[_],[bQ r sc t1 b1 a1 n1 k1 (d + 1 - 1)],⟨ay F F F F,trivial⟩,sB,hle,cP (c:=c1) hrep oM (fun h=>hsk oM) hP⟩
theorem acH {n r sc : Nat} {qs : List cC} {c : UInt8} {k s : adE} {t : Ty} {d : Int} (h91 : ¬ (c.toNat = 91 ∨ c.toNat = 63)) (hd : d = 12 - (n : Int)) (hn : n ≤ 12) (hU : rI n sc qs) (hS : ScI G sc qs) (hw : SchW (ah qs)) (hk : aB (ah qs) (c :: k) = true) (hrf : aX (ah qs) (c :: k) = some t) (hs : s.length ≤ 1000) :
  dD adD 92 [Pt r 0,Ag (c7 (c :: k))] G [bQ r sc s false none 0 0 d] (kP (rb (ah qs) (n + 1) (c :: k)) r sc s false d):=by
 have hko:=cE hk
 have hsg:=ju (r:=k) h91
 have hcs:=eV (r:=k) h91
 have hrn : (bH (bo (c :: k))).isSome = true:=by
  rw [hcs];unfold aX at hrf
  cases hx : bH (c :: k) with
  | none=>rw [hx] at hrf;cases hrf
  | some x=>rfl
 have hbs : bs (c :: k) = [64]:=(jr hko).2 hrn
 have hnm : bH (c :: k) = some (nm (c :: k)):=by
  unfold nm;rw [hcs] at hrn ⊢
  cases hx : bH (c :: k) with
  | none=>rw [hx] at hrn;cases hrn
  | some x=>rfl
 have hft : gD (ah qs) (nm (c :: k)) = some t:=by unfold aX at hrf;rw [hnm] at hrf;exact hrf
 have hkv:=gN qs (nm (c :: k))
 rw [← gQ] at hft
 rcases hfq : eK qs (nm (c :: k)) with _ | ⟨p,t'⟩
 ·rw [hfq] at hft;cases hft
 rw [hfq] at hft hkv
 dsimp only [Option.map_some] at hft hkv
 have htt : t' = t:=Option.some.inj hft
 subst htt
 have hqm:=gZ hfq
 have htm:=bi hrf
 have hW:=hw.ty t' htm
 have hT : i8 G p t':=hS.ty _ hqm
 have hrd : rb (ah qs) (n + 1) (c :: k) = b8 (ah qs) (rb (ah qs) n) t':=by
  funext s
  rw [rb];unfold fT
  dsimp only
  rw [if_neg (fun h=>h91 (.inl h)),if_neg (fun h=>h91 (.inr h)),hrf]
 unfold c7
 rw [hsg,hbs,hrd]
 rcases hW.sort with h | h | h
 ·exact acB hd hn hU hS hw hkv hT hW (fun d hd=>dk hw htm oM hd) h hs
 ·exact acz hd hn hU hS hkv hT hW (fun d hd=>dk hw htm oM hd) h hs
 ·exact acG hd hn hS hkv hT hW h hs
theorem qi {sc : Nat} {qs : List cC} (hw : SchW (ah qs)) : ∀ n,n ≤ 13 → rI n sc qs
 | 0,_=>fun G r k s b _ _ hs=>uv (.inr rfl) hs oM
 | n + 1,hn=>fun G r k s b hS hk hs=>by
  have hU:=qi (sc:=sc) hw n oM
  have ed : (13 : Int) - ((n + 1 : Nat) : Int) = 12 - (n : Int):=oM
  cases b with
  | true=>exact uv (.inl F) hs hn
  | false =>
   match k,hk with
   | [],hk=>cases hk
   | c :: k,hk =>
    by_cases h1 : c.toNat = 91
    ·obtain rfl:=bn h1 dC
     exact acE ed oM hU hS hk hs
    by_cases h2 : c.toNat = 63
    ·obtain rfl:=bn h2 dC
     exact acC ed oM hU hS hk hs
    have h91 : ¬ (c.toNat = 91 ∨ c.toNat = 63):=fun h=>by rcases h with h | h <;> omega
    cases hr : aX (ah qs) (c :: k) with
    | some t=>exact acH h91 ed oM hU hS hw hk hr hs
    | none =>
     rcases dK hk h91 hr with e | e | e
     ·rw [e] at hr ⊢;exact acD ed oM hr hs
     ·rw [e] at hr ⊢;exact acA ed oM hr hs
     ·rw [e] at hr ⊢;exact acF ed oM hr hs
abbrev yj : TypeId:=3
theorem p5 {s : adE} (h : s.length ≤ 1048576) : bd adD 54 [S s] G (w7 s):=by
 by_cases h0 : s = []
 ·subst h0
  refine jB [(0,_)] Tryz.func54 Tryz.ntmps54 fun B hok hB hW=>?_
  repeat' (first | refine jR ?_ | refine ab F F ?_)
  refine jZ (vs:=[_,_]) F ⟨F,F,trivial⟩ F ⟨Gh.le.refl _,F,?_⟩
  exact ⟨_,_,_,F,fun p hp=>by
   obtain rfl : p = []:=by unfold cJ at hp;simpa using hp.symm
   exact ⟨F,bq.nil0⟩⟩
 have cx_split : bd adD 97 [S s,S [47]] G (fun v G'=>∃ b o cap,v = .slice (some ⟨b,o,none⟩) (aY 47 s).length cap ∧ cH G' b o (ax bY (aY 47 s))):=by
  refine (uI (c:=47) oM).mono ?_
  rintro v G' L' ⟨h1,h2,h3⟩
  have hp : 0 < (aY 47 s).length:=dZ
  exact ⟨h1,h2,h3.expl hp⟩
 have hcl:=g8 (k:=47) (s:=s)
 have hbad:=fun {i : Nat}=>pG h0 (i:=i)
 have hpo:=m4 h0
 have hxl : ∀ i,i < (aY 47 s).length → (ae (aY 47 s) i).length ≤ 100000000:=fun i hi=>by
  have:=c6 (bh hi)
  omega
 generalize aY 47 s = xs at *
 refine jB [(0,_)] Tryz.func54 Tryz.ntmps54 fun B hok hB hW=>?_
 repeat' (first | refine jR ?_ | (refine jo ?_;first | refine jV (ag F) ?_ | (refine aF F F F cx_split F ?_;rintro _ G hle ⟨b1,o1,cap1,rfl,hseg⟩;skip)) | refine ad F (aE ‹_›) ?_)
 refine Nx.addNil yj 1 ?_
 refine aU (ι:=List Int × Option Addr × Nat × Nat) (fun j=>(j.1.length = j.2.2.2 ∧ j.2.2.2 ≤ xs.length ∧ j.2.2.2 ≤ 8) ∧ cj (xs.take j.2.2.2) = some j.1) (fun j=>[(4,.slice j.2.1 j.1.length j.2.2.1),(12,.slice (some ⟨b1,o1,none⟩) xs.length cap1),(13,I xs.length),(14,I j.2.2.2)]) (fun _=>G) (fun j=>[.acc (.slice j.2.1 j.1.length j.2.2.1) yj 1 j.1.length (ax eb j.1)]) (fun j=>xs.length - j.2.2.2) ([],none,0,0) ?_ tU F aZ (fun j Hj=>?_)
 ·exact ⟨⟨F,Nat.zero_le _,Nat.zero_le _⟩,F⟩
 obtain ⟨ps,a,c,i⟩:=j
 dsimp only at Hj ⊢
 obtain ⟨⟨hpl,hi0,hi8⟩,hst⟩:=Hj
 by_cases hi : i < xs.length
 ·have hxl1:=hxl i hi
  cases hn : aM (ae xs i) 999999 with
  | none =>
   have hno:=hbad hi hn
   have hns : (!(aM (ae xs i) 999999).isSome) = true:=by rw [hn];rfl
   repeat' (first | refine jR ?_ | (refine jo ?_;first | refine jV (aq F F oM) ?_ | (refine jV (ew F F aS ?_) ?_;focus omega) | refine aK F ?_ | (refine dn F F F (dS oM) F ?_;rintro _ ⟨n,rfl,hnum⟩)) | refine aA F F ‹_› ?_ | (refine ab F (by first | rfl | (refine decide_eq_true ?_;(omega))) ?_))
   all_goals refine jZ (vs:=[_,_]) F ⟨F,F,trivial⟩ F ⟨hle,F,?_⟩
   all_goals exact ⟨_,_,_,by rw [hno];rfl,fun p hp=>by rw [hno] at hp;cases hp⟩
  | some m =>
   have hns : (!(aM (ae xs i) 999999).isSome) = false:=by rw [hn];rfl
   by_cases h8 : i = 8
   ·subst h8
    have hno : cJ s = none:=by
     rw [hpo]
     cases hso : cj xs with
     | none=>rfl
     | some q =>
      have:=(kT hso).1
      dsimp only
      rw [if_neg oM]
    have h88 : ((ps.length : Nat) : Int) = 8:=oM
    repeat' (first | refine jR ?_ | (refine jo ?_;first | refine jV (ag F) ?_ | refine jV (aq F F oM) ?_ | (refine jV (ew F F aS ?_) ?_;focus omega) | refine aw F ?_ | (refine dn F F F (dS oM) F ?_;rintro _ ⟨n,rfl,hnum⟩)) | refine am F F ‹_› ?_ | (refine ab F (by refine decide_eq_true ?_;first | assumption | omega) ?_))
    all_goals refine jZ (vs:=[_,_]) F ⟨F,F,trivial⟩ F ⟨hle,F,?_⟩
    all_goals exact ⟨_,_,_,by rw [hno];rfl,fun p hp=>by rw [hno] at hp;cases hp⟩
   ·have h88 : ¬ ((ps.length : Nat) : Int) = 8:=oM
    repeat' (first | refine jM ?_ | (refine jo ?_;first | refine jV (ag F) ?_ | refine jV (aq F F oM) ?_ | (refine jV (ew F F aS ?_) ?_;focus omega) | refine aw F ?_ | refine jF fun _=>?_ | refine ci F F F F F F F F F oM fun _ _=>?_ | (refine dn F F F (dS oM) F ?_;rintro _ ⟨n,rfl,hnum⟩)) | refine am F F ‹_› ?_ | refine ab F (aD oM) ?_ | refine ad F (aE ‹_›) ?_)
    rename_i y1 yc
    have hmn:=hnum m hn
    subst hmn
    have hst2 : cj (xs.take (i + 1)) = some (ps ++ [n]):=by rw [cr hi,j6 hst,hn];rfl
    have hl1 : (ps ++ [n]).length = ps.length + 1:=by simp
    rw [show ax eb ps ++ [I n] = ax eb (ps ++ [n]) from (b5 eb ps n).symm]
    exact a7 (ps ++ [n],some ⟨y1,0,none⟩,yc,i + 1) ⟨⟨by dsimp only;omega,by dsimp only;omega,by dsimp only;omega⟩,hst2⟩ (by dsimp only;omega) (by rw [hl1];repeat (first | exact trivial | refine ⟨F,?_⟩)) F (by rw [hl1];repeat (first | exact List.nil_sublist _ | apply List.Sublist.cons_cons))
 ·rw [List.take_of_length_le oM] at hst
  rw [hst] at hpo
  dsimp only at hpo
  rw [if_pos oM] at hpo
  repeat' (first | refine jR ?_ | refine ad F (aE oM) ?_)
  refine Nx.sealS (v:=.slice a ps.length c) fun G2 hG2 hsl=>?_
  refine jZ (vs:=[_,_]) F ⟨F,F,trivial⟩ F ⟨hle.trans hG2,F,?_⟩
  refine ⟨_,_,_,by rw [hpo];rfl,fun p hp=>?_⟩
  rw [hpo] at hp
  simp only [Option.some.injEq] at hp;subst hp;exact ⟨F,hsl⟩
theorem qm : ∀ k : adE,sg k ++ bo k = k
 | []=>rfl
 | c :: r=>by
  by_cases h : c.toNat = 91 ∨ c.toNat = 63
  ·rw [lb h,bo,if_pos h,List.cons_append,qm r]
  ·rw [ju h,eV h];rfl
theorem wa {k : adE} (h : bC k = true) : (bs k = [64] → sg k ++ [64] ++ nm k ++ [59] = k) ∧ (bs k ≠ [64] → sg k ++ bs k = k):=by
 have hk:=ki (cm h).1
 have hsc:=qm k
 refine ⟨fun h64=>?_,fun hne=>?_⟩
 ·have hr:=(jr h).1 h64
  cases hc : bo k with
  | nil=>rw [hc] at hk;cases hk
  | cons c r =>
   rw [hc] at hr hk hsc
   have h64' : c.toNat = 64:=by
    by_cases h64' : c.toNat = 64
    ·exact h64'
    ·simp [bH,h64'] at hr
   have hn : nm k = r.take (r.length - 1):=by unfold nm;rw [hc];simp [bH,h64']
   rw [d9,if_neg oM,if_pos h64'] at hk
   simp only [Bool.and_eq_true,decide_eq_true_eq] at hk
   obtain ⟨h59,hnm⟩:=hk
   have hrl : 1 ≤ r.length:=by
    cases r with
    | nil=>simp [cB] at hnm
    | cons=>simp
   obtain ⟨m,hm⟩ : ∃ m,r.length = m + 1:=⟨r.length - 1,oM⟩
   rw [hm,dQ] at h59
   have e3 : r = r.take m ++ [59]:=by
    have e1 : r.take (m + 1) = r:=List.take_of_length_le oM
    have e2:=cr (cs:=r) (i:=m) oM
    rw [e1] at e2
    have e4 : ae r m = 59:=by
     rw [aI oM]
     have : bt r m = (r[m]'oM).toNat:=by simp [bt,List.getD,List.getElem?_eq_getElem (show m < r.length by omega)]
     exact UInt8.toNat_inj.1 (by rw [← this];show bt r m = 59;omega)
    rw [e4] at e2;exact e2
   have hc64 : c = 64:=UInt8.toNat_inj.1 h64'
   have e5 : sg k ++ 64 :: (r.take m ++ [59]) = k:=by rw [← e3,← hc64];exact hsc
   rw [hn,hm,Nat.add_sub_cancel]
   refine Eq.trans ?_ e5
   simp
 ·have hr : bH (bo k) = none:=by
   cases hr : bH (bo k) with
   | none=>rfl
   | some x=>exact absurd ((jr h).2 (by rw [hr];rfl)) hne
  have e : bs k = bo k:=by
   unfold bs
   cases hc : bo k with
   | nil=>rfl
   | cons c r =>
    rw [hc] at hr
    have h64 : ¬ c.toNat = 64:=by intro h64;simp [bH,h64] at hr
    simp [oo,h64]
  rw [e];exact hsc
theorem zJ {k : adE} (h : bC k = true) : aG adD 56 [Ag (c7 k)] G (· = S k):=by
 obtain ⟨h1,h2⟩:=wa h
 have hl:=(cm h).2
 have hsl : (sg k).length ≤ 12:=by
  have:=congrArg List.length (qm k)
  simp only [List.length_append] at this
  omega
 unfold c7
 by_cases h64 : bs k = [64]
 ·have e:=h1 h64
  have hnl:=congrArg List.length e
  simp only [List.length_append,List.length_cons,List.length_nil] at hnl
  rw [h64]
  refine jE [(0,_)] Tryz.func56 Tryz.ntmps56 fun B hB=>?_
  repeat' (first | refine jX ?_ | (refine jo ?_;first | refine jO fun _=>?_ | refine al F ?_) | refine ab F F ?_)
  all_goals refine jY (vs:=[_]) ?_
  all_goals (rw [aH,e])
 ·have e:=h2 h64
  have hnl:=congrArg List.length e
  simp only [List.length_append] at hnl
  refine jE [(0,_)] Tryz.func56 Tryz.ntmps56 fun B hB=>?_
  repeat' (first | refine jM ?_ | (refine jo ?_;first | refine jO fun _=>?_ | refine al F ?_) | refine ad F (aE ‹_›) ?_)
  all_goals refine jY (vs:=[_]) ?_
  all_goals (rw [aH,e])
theorem abC {b : Nat} {qs : List cC} {k s : adE} {u : V} (hS : ScI G b qs) (hw : SchW (ah qs)) (hk : aB (ah qs) k = true) (hvo : bV (ah qs) k s = some u) :
  bd adD 184 [Pt b 0,Ag (c7 k),S s] G (fun r G'=>∃ c,r = Ag (bG c) ∧ V.rep G' u c):=by
 have hl:=(lz hvo).2
 have cx_ris : bd adD 96 [Pt b 0,Ag [S (sg k),S (bs k),S (nm k)],S s] G (fun v G'=>∃ cv,v = Tu [Ag (bG cv),Bo true] ∧ V.rep G' u cv):=by
  refine (qJ (G:=G) (b:=b) (s:=s) hS hw hk oM).mono ?_
  rintro v G' L' ⟨h1,h2,⟨h4,_⟩ | ⟨u',c,h4,rfl,h5⟩⟩
  ·rw [hvo] at h4;cases h4
  ·rw [hvo] at h4;obtain rfl:=Option.some.inj h4;exact ⟨h1,h2,c,F,h5⟩
 unfold c7
 refine jB [(0,_),(1,_),(2,_)] Tryz.func184 Tryz.ntmps184 fun B hok hB hW=>?_
 repeat' (first | refine jR ?_ | (refine jo ?_;first | refine jO fun _=>?_ | refine jL fun _=>?_ | refine aQ F ?_ | refine jC F F F ?_ | (refine aF F F F cx_ris F ?_;rintro _ G hle ⟨cv,rfl,hrv⟩;skip)))
 all_goals refine jZ (vs:=[_]) F ⟨ay F F F F,trivial⟩ F ⟨hle,F,?_⟩
 all_goals exact ⟨cv,F,hrv⟩
theorem wh {ts : List Ty} {f : Fld} {fs : List (Fld × V)} {j : Nat} (hj : j < fs.length) (hjn : (ae fs j).1.tag = f.tag) (hno : ∀ i,i < j → (ae fs i).1.tag ≠ f.tag) : fk ts (.nd 82 [] 0 (fs.map aV)) f = (ae fs j).2:=by
 unfold fk
 rw [V.kids,oB hj hjn hno];rfl
theorem tO {ts : List Ty} {f : Fld} {fs : List (Fld × V)} (hno : ∀ i,i < fs.length → (ae fs i).1.tag ≠ f.tag) : fk ts (.nd 82 [] 0 (fs.map aV)) f = fI ts f:=by
 unfold fk
 rw [V.kids,oz hno];rfl
theorem abO {b bf of j : Nat} {qs : List cC} {t : Ty} {fs : List (Fld × V)} {c : VC} (hS : ScI G b qs) (hw : SchW (ah qs)) (ht : t ∈ ah qs) (hso : t.sort = 82) (hsf : cH G bf of (ax jh t.fields)) (hj : j < t.fields.length) (hrep : V.rep G (.nd 82 [] 0 (fs.map aV)) c) (h9 : fs.length ≤ 1000000) :
  bd adD 146 [Pt b 0,Ag (bG c),Pt bf (of + j * 6)] G (fun r G'=>∃ c',r = Ag (bG c') ∧ V.rep G' (fk (ah qs) (.nd 82 [] 0 (fs.map aV)) (ae t.fields j)) c'):=by
 obtain ⟨a,k,cs,rfl,_,_,_,hcl,hsl,hrs⟩:=fL hrep
 have hml : (fs.map aV).length = fs.length:=by simp
 rw [hml] at hcl hsl
 have hfm : ae t.fields j ∈ t.fields:=bh hj
 have hdk : aB (ah qs) (ae t.fields j).kind = true:=dk hw ht oM hfm
 obtain ⟨g1,g2,g3⟩:=gV hw ht oM hfm
 have cx_of:=vA hS hw hsf hj hdk
 have hnt : ∀ i,i < fs.length → ae (fs.map aV) i = aV (ae fs i):=fun i hi=>by rw [aI (by simpa using hi),aI hi];simp
 have hrn : ∀ i,i < fs.length → V.rep G (aV (ae fs i)) (ae cs i):=fun i hi=>by
  have:=gJ hrs i oM
  rwa [hnt i hi] at this
 have e0 : bG ⟨82,[],0,a,(fs.map aV).length,k⟩ = [U8 (82 : Nat),S [],I 0,.slice a fs.length k]:=by rw [← hml];rfl
 rw [e0]
 refine jB [(0,_),(1,_),(2,_)] Tryz.func146 Tryz.ntmps146 fun B hok hB hW=>?_
 repeat' (first | refine jR ?_ | (refine jo ?_;first | refine jO fun _=>?_ | refine jL fun _=>?_ | refine al F ?_ | refine jV (ag F) ?_))
 rename_i y4 y6
 refine aU (ι:=Nat) (fun i=>i ≤ fs.length ∧ ∀ l,l < i → (ae fs l).1.tag ≠ (ae t.fields j).tag) (fun i=>[(0,Pt b 0),(2,Pt bf (of + j * 6)),(6,Pt y6 0),(10,.slice a fs.length k),(11,I fs.length),(12,I i)]) (fun _=>G) (fun i=>[.blk y6 (.cells (List.toArray [U8 0,S [],I 0,aN]) dI (0,0))]) (fun i=>fs.length - i) 0 ?_ tU F sB (fun i Hi=>?_)
 ·exact ⟨Nat.zero_le _,fun l hl=>absurd hl oM⟩
 obtain ⟨hi0,hno⟩:=Hi
 by_cases hi : i < fs.length
 ·obtain ⟨xb,xo,xc,e,hsx⟩:=hsl.expl oM
  simp only [Value.slice.injEq] at e
  obtain ⟨rfl,-,rfl⟩:=e
  obtain ⟨a1,k1,cs1,hci,_,_,_,hcl1,hsl1,hrs1⟩:=fL (hrn i hi)
  rw [V.reps] at hrs1
  obtain ⟨c1,cs2,rfl,hr1,hr2⟩:=hrs1
  rw [V.reps] at hr2
  subst hr2
  have hci : ae cs i = ⟨61,[],(ae fs i).1.tag,a1,1,k1⟩:=hci
  have hsl1 : bq G (.slice a1 1 k1) 4 ([c1] : List VC).length (ax bG [c1]):=hsl1
  obtain ⟨zb,zo,zc,e,hsz⟩:=hsl1.expl oM
  simp only [Value.slice.injEq] at e
  obtain ⟨rfl,-,rfl⟩:=e
  by_cases ht2 : (ae fs i).1.tag = (ae t.fields j).tag
  ·have hget:=wh (ts:=ah qs) hi ht2 hno
   rw [hget]
   repeat' (first | refine jR ?_ | (refine jo ?_;first | refine jL fun _=>?_ | refine al F ?_ | (refine jV (nh F F aS ?_ aS) ?_;focus omega) | refine jV (aq F F oM) ?_ | refine jC F F F ?_) | (refine ab F (by refine decide_eq_true ?_;first | assumption | omega) ?_) | (refine ak (ar (id:=4) _ (fun _ h=>h) aj ?_);refine jT 3 [0,2,3,4] (aa 7 29) ?_;(refine jG (aa 7 31) 1 F (aC F F F) ?_);((refine jG (aa 7 63) 5 F (b7 F F aS ?_ F F) ?_;focus omega));refine jT 0 [6] (aa 7 127) ?_;refine jQ ?_))
   dsimp only [bG,VC.sl]
   repeat' (first | refine jR ?_ | (refine jo ?_;first | (refine jV (dH F F aS ?_) ?_;focus omega) | refine jV (aT F F oM) ?_ | refine jC F F F ?_))
   all_goals refine jZ (vs:=[_]) F ⟨ay F F F F,trivial⟩ F ⟨Gh.le.refl _,F,?_⟩
   all_goals exact ⟨c1,F,hr1⟩
  ·repeat' (first | refine jM ?_ | (refine jo ?_;first | refine jL fun _=>?_ | (refine jV (nh F F aS ?_ aS) ?_;focus omega) | refine jV (aq F F oM) ?_ | refine jC F F F ?_) | refine ab F (aD oM) ?_ | refine ad F (aE ‹_›) ?_ | (refine ak (ar (id:=4) _ (fun _ h=>h) aj ?_);refine jT 3 [0,2,3,4] (aa 7 29) ?_;(refine jG (aa 7 31) 1 F (aC F F F) ?_);((refine jG (aa 7 63) 5 F (b7 F F aS ?_ F F) ?_;focus omega));refine jT 0 [6] (aa 7 127) ?_;refine jQ ?_))
   exact a7 (i + 1) ⟨oM,fun l hl=>(by
    rcases Nat.lt_or_ge l i with h | h
    ·exact hno l h
    ·have : l = i:=oM
     subst this;exact ht2)⟩ oM tU F sB
 ·have hget:=tO (ts:=ah qs) (f:=ae t.fields j) (fs:=fs) fun l hl=>hno l oM
  rw [hget]
  have cx_mu:=abC hS hw hdk g2
  unfold c7 at cx_mu
  repeat' (first | refine jR ?_ | refine ad F (aE oM) ?_ | (refine ak (dL (id:=7) (tt:=6) F aj ?_);refine jW 4 [0,1,2,3,5,6] (aa 10 111) ?_;((refine jG (aa 10 127) 4 F (f8 F F aS ?_ F F) ?_;focus omega));refine jA 7 F ?_;(refine ac F F F cx_of F ?_);refine jK (aa 10 255) ?_;refine jA 8 F ?_;(refine aF F F F cx_mu F ?_;rintro _ G hle ⟨cv,rfl,hrv⟩;skip);refine jK (aa 10 511) ?_;refine jA 9 F ?_;(refine jC F F F ?_);refine jK (aa 10 1023) ?_;refine jQ ?_))
  all_goals refine jZ (vs:=[_]) F ⟨ay F F F F,trivial⟩ F ⟨hle,F,?_⟩
  all_goals exact ⟨cv,F,hrv⟩
def eZ (ts : List Ty) (o : Option (adE × V)) (r : Value) (G' : Gh) : Prop:=(o = none ∧ r = Tu [Ag [S [],S [],S []],zP,Bo false]) ∨ ∃ k' v' c',o = some (k',v') ∧ r = Tu [Ag (c7 k'),Ag (bG c'),Bo true] ∧ V.rep G' v' c'
theorem eZ.no {f : FuncId} {args : List Value} {ts : List Ty} {o : Option (adE × V)} (h : bd adD f args G (eZ ts o)) (e : o = none) : bd adD f args G (fun r _=>r = Tu [Ag [S [],S [],S []],zP,Bo false]):=by
 refine h.mono ?_
 rintro v G' L' ⟨h1,h2,⟨_,h3⟩ | ⟨k',v',b',h3,_⟩⟩
 ·exact ⟨h1,h2,h3⟩
 ·rw [e] at h3;cases h3
theorem eZ.yes {f : FuncId} {args : List Value} {ts : List Ty} {o : Option (adE × V)} {k' : adE} {v' : V} (h : bd adD f args G (eZ ts o)) (e : o = some (k',v')) : bd adD f args G (fun r G'=>∃ c',r = Tu [Ag [S (sg k'),S (bs k'),S (nm k')],Ag (bG c'),Bo true] ∧ V.rep G' v' c'):=by
 refine h.mono ?_
 rintro v G' L' ⟨h1,h2,⟨h3,_⟩ | ⟨k2,v2,b',h3,h4,h5⟩⟩
 ·rw [e] at h3;cases h3
 ·rw [e] at h3
  simp only [Option.some.injEq,Prod.mk.injEq] at h3
  obtain ⟨rfl,rfl⟩:=h3
  exact ⟨h1,h2,b',h4,h5⟩
theorem zN {b : Nat} {k : adE} {ts : List Ty} {ks : List V} {c : VC} {n : Int} (hr : V.rep G (.nd 91 [] 0 ks) c) (hn : 0 ≤ n ∧ n ≤ 999999) (hkl : ks.length ≤ 1000000) :
  bd adD 99 [Pt b 0,Ag (c7 (91 :: k)),Ag (bG c),I n] G (eZ ts (bw ts (91 :: k) (.nd 91 [] 0 ks) n)):=by
 obtain ⟨e1,e2,e3,_⟩:=gO (c:=91) (k:=k) (.inl rfl)
 have cx_sign:=@hJ G 91 (sg k) (bs k) (nm k)
 have cx_pt:=@lr G 91 (sg k) (bs k) (nm k)
 obtain ⟨a,kc,cs,rfl,_,_,_,hcl,hsl,hrs⟩:=fL hr
 have hst:=iU (ts:=ts) (c:=91) (r:=k) (v:=.nd 91 [] 0 ks) (n:=n) (.inl rfl)
 rw [V.kids] at hst
 rw [hst]
 unfold c7
 rw [e1,e2,e3]
 have e0 : bG ⟨91,[],0,a,ks.length,kc⟩ = [U8 (91 : Nat),S [],I 0,.slice a ks.length kc]:=rfl
 rw [e0]
 by_cases hn2 : n < ((ks.length : Nat) : Int)
 ·obtain ⟨i,rfl⟩ : ∃ i : Nat,n = i:=⟨n.toNat,oM⟩
  obtain ⟨xb,xo,xc,e,hsx⟩:=hsl.expl oM
  simp only [Value.slice.injEq] at e
  obtain ⟨rfl,-,rfl⟩:=e
  have hri:=gJ hrs i oM
  obtain ⟨d,hxi⟩ : ∃ d,ae cs i = d:=⟨_,rfl⟩
  rw [hxi] at hri
  rw [if_pos hn2]
  refine jB [(0,_),(1,_),(2,_),(3,_)] Tryz.func99 Tryz.ntmps99 fun B hok hB hW=>?_
  repeat' (first | refine jR ?_ | (refine jo ?_;first | refine jO fun _=>?_ | refine jL fun _=>?_ | refine al F ?_ | refine aQ F ?_ | refine jV (ag F) ?_ | refine ac F F F cx_sign F ?_) | refine ab F F ?_ | refine ad F (aE oM) ?_)
  rename_i y5 y6 y8 y9
  (refine ak (ar (id:=5) [.blk y6 (.cells (List.toArray [U8 (91 : Nat),S [],I 0,.slice (some ⟨xb,xo,none⟩) ks.length kc]) dI (0,0)),.blk y5 (.cells (List.toArray [S (91 :: sg k),S (bs k),S (nm k)]) e9 (0,0))] (by intro y hy;simp only [List.mem_cons,List.not_mem_nil,or_false] at hy ⊢;rcases hy with hy | hy <;> simp [hy]) aj ?_);refine jW 8 [2,4] (aa 10 20) ?_;(refine jG (aa 10 21) 0 F (bz F F F F) ?_);(refine jG (aa 10 29) 3 F (aC F F F) ?_);((refine jG (aa 10 61) 5 F (aq F F ?_) ?_;focus omega));((refine jG (aa 10 125) 6 F (nh F F aS ?_ aS) ?_;focus omega));refine jA 1 F ?_;(refine ac F F F cx_pt F ?_);refine jK (aa 10 127) ?_;refine jA 7 F ?_;(refine jC F F F ?_);refine jK (aa 10 255) ?_;refine jA 8 F ?_;(refine jC F F F ?_);refine jK (aa 10 511) ?_;refine jW 0 [9] (aa 10 1023) ?_;refine jQ ?_)
  all_goals repeat' (refine jR ?_)
  all_goals refine jZ (vs:=[_,_,_]) F ⟨ay F F F F,ay F F F F,F,trivial⟩ F ⟨Gh.le.refl _,F,?_⟩
  all_goals exact .inr ⟨k,ae ks i,d,F,F,hri⟩
 ·rw [if_neg hn2]
  refine jB [(0,_),(1,_),(2,_),(3,_)] Tryz.func99 Tryz.ntmps99 fun B hok hB hW=>?_
  repeat' (first | refine jR ?_ | (refine jo ?_;first | refine jO fun _=>?_ | refine jL fun _=>?_ | refine al F ?_ | refine aQ F ?_ | refine jV (ag F) ?_ | refine jV (ao F F) ?_ | refine jC F F F ?_ | refine ac F F F cx_sign F ?_) | (refine ab F (by first | rfl | (refine decide_eq_true ?_;(omega))) ?_))
  all_goals refine jZ (vs:=[_,_,_]) F ⟨ay F F F F,ay F F F F,F,trivial⟩ F ⟨Gh.le.refl _,F,?_⟩
  all_goals exact .inl ⟨F,F⟩
theorem uw {b : Nat} {k : adE} {ts : List Ty} {ks : List V} {c : VC} {n : Int} (hks : ks = [] ∨ ∃ w,ks = [w]) (hr : V.rep G (.nd 63 [] 0 ks) c) (hn : 0 ≤ n ∧ n ≤ 999999) :
  bd adD 99 [Pt b 0,Ag (c7 (63 :: k)),Ag (bG c),I n] G (eZ ts (bw ts (63 :: k) (.nd 63 [] 0 ks) n)):=by
 obtain ⟨e1,e2,e3,_⟩:=gO (c:=63) (k:=k) (.inr rfl)
 have cx_sign:=@hJ G 63 (sg k) (bs k) (nm k)
 have cx_pt:=@lr G 63 (sg k) (bs k) (nm k)
 obtain ⟨a,kc,cs,rfl,_,_,_,hcl,hsl,hrs⟩:=fL hr
 have hst:=iU (ts:=ts) (c:=63) (r:=k) (v:=.nd 63 [] 0 ks) (n:=n) (.inr rfl)
 rw [V.kids] at hst
 rw [hst]
 unfold c7
 rw [e1,e2,e3]
 have e0 : bG ⟨63,[],0,a,ks.length,kc⟩ = [U8 (63 : Nat),S [],I 0,.slice a ks.length kc]:=rfl
 rw [e0]
 rcases hks with rfl | ⟨w,rfl⟩
 ·rw [if_neg (by simp;omega)]
  by_cases hn0 : n = 0
  all_goals
   refine jB [(0,_),(1,_),(2,_),(3,_)] Tryz.func99 Tryz.ntmps99 fun B hok hB hW=>?_
   repeat' (first | refine jR ?_ | (refine jo ?_;first | refine jO fun _=>?_ | refine jL fun _=>?_ | refine al F ?_ | refine aQ F ?_ | refine jV (ag F) ?_ | refine jV (ao F F) ?_ | refine jC F F F ?_ | refine aK F ?_ | refine aw F ?_ | refine ac F F F cx_sign F ?_) | refine aA F F (aD ‹_›) ?_ | refine am F F (aE oM) ?_ | refine ab F F ?_ | refine ad F F ?_)
   all_goals refine jZ (vs:=[_,_,_]) F ⟨ay F F F F,ay F F F F,F,trivial⟩ F ⟨Gh.le.refl _,F,?_⟩
   all_goals exact .inl ⟨F,F⟩
 ·rw [V.reps] at hrs
  obtain ⟨d,cs2,rfl,hri,hr2⟩:=hrs
  rw [V.reps] at hr2
  subst hr2
  have hsl : bq G (.slice a 1 kc) 4 ([d] : List VC).length (ax bG [d]):=hsl
  obtain ⟨xb,xo,xc,e,hsx⟩:=hsl.expl (by simp)
  simp only [Value.slice.injEq] at e
  obtain ⟨rfl,-,rfl⟩:=e
  have hxi : ae [d] (Int.toNat 0) = d:=rfl
  show bd _ _ [Pt b 0,Ag [S (63 :: sg k),S (bs k),S (nm k)],Ag [U8 (63 : Nat),S [],I 0,.slice (some ⟨xb,xo,none⟩) 1 kc],I n] G _
  by_cases hn0 : n = 0
  ·subst hn0
   rw [if_pos (by simp)]
   refine jB [(0,_),(1,_),(2,_),(3,_)] Tryz.func99 Tryz.ntmps99 fun B hok hB hW=>?_
   repeat' (first | refine jR ?_ | (refine jo ?_;first | refine jO fun _=>?_ | refine jL fun _=>?_ | refine al F ?_ | refine aQ F ?_ | refine jV (ag F) ?_ | refine aw F ?_ | refine ac F F F cx_sign F ?_) | refine am F F F ?_ | refine ab F F ?_ | refine ad F F ?_)
   rename_i y5 y6 y8 y9
   (refine ak (ar (id:=9) [.blk y6 (.cells (List.toArray [U8 (63 : Nat),S [],I 0,.slice (some ⟨xb,xo,none⟩) 1 kc]) dI (0,0)),.blk y5 (.cells (List.toArray [S (63 :: sg k),S (bs k),S (nm k)]) e9 (0,0))] (by intro y hy;simp only [List.mem_cons,List.not_mem_nil,or_false] at hy ⊢;rcases hy with hy | hy <;> simp [hy]) aj ?_);refine jW 8 [2] (aa 9 4) ?_;(refine jG (aa 9 5) 0 F (bz F F F F) ?_);(refine jG (aa 9 13) 3 F (aC F F F) ?_);((refine jG (aa 9 29) 4 F (aT F F ?_) ?_;focus omega));((refine jG (aa 9 61) 5 F (nh F F aS ?_ aS) ?_;(focus ((simp only [List.length_append,List.length_cons,List.length_nil,List.length_take];omega);done))));refine jA 1 F ?_;(refine ac F F F cx_pt F ?_);refine jK (aa 9 63) ?_;refine jA 6 F ?_;(refine jC F F F ?_);refine jK (aa 9 127) ?_;refine jA 7 F ?_;(refine jC F F F ?_);refine jK (aa 9 255) ?_;refine jW 0 [8] (aa 9 511) ?_;refine jQ ?_)
   all_goals repeat' (refine jR ?_)
   all_goals refine jZ (vs:=[_,_,_]) F ⟨ay F F F F,ay F F F F,F,trivial⟩ F ⟨Gh.le.refl _,F,?_⟩
   all_goals exact .inr ⟨k,w,d,F,F,hri⟩
  ·rw [if_neg (show ¬ n < (([w].length : Nat) : Int) by show ¬ n < ((1 : Nat) : Int);omega)]
   refine jB [(0,_),(1,_),(2,_),(3,_)] Tryz.func99 Tryz.ntmps99 fun B hok hB hW=>?_
   repeat' (first | refine jR ?_ | (refine jo ?_;first | refine jO fun _=>?_ | refine jL fun _=>?_ | refine aQ F ?_ | refine jV (ao F F) ?_ | refine jC F F F ?_ | refine aK F ?_ | refine ac F F F cx_sign F ?_) | refine aA F F (aD ‹_›) ?_ | refine ab F F ?_ | refine ad F F ?_)
   all_goals refine jZ (vs:=[_,_,_]) F ⟨ay F F F F,ay F F F F,F,trivial⟩ F ⟨Gh.le.refl _,F,?_⟩
   all_goals exact .inl ⟨F,F⟩
theorem zM {b : Nat} {x : adE} {ts : List Ty} {v : V} {c : VC} {n : Int} (hx : x = [110] ∨ x = [116] ∨ x = [102]) :
  bd adD 99 [Pt b 0,Ag (c7 x),Ag (bG c),I n] G (eZ ts (bw ts x v n)):=by
 have hno : bw ts x v n = none:=by
  rcases hx with rfl | rfl | rfl
  all_goals exact nS dC dC dC
 rw [hno]
 obtain ⟨w,tx,tg,a,m,kc⟩:=c
 have e0 : bG ⟨w,tx,tg,a,m,kc⟩ = [U8 (w : Nat),S tx,I tg,.slice a m kc]:=rfl
 rw [e0]
 have e1 : c7 x = [S [],S x,S []]:=by rcases hx with rfl | rfl | rfl <;> rfl
 rw [e1]
 have cx_sign:=@dx G x []
 have hx64 : ¬ x = [64]:=by rcases hx with rfl | rfl | rfl <;> decide
 refine jB [(0,_),(1,_),(2,_),(3,_)] Tryz.func99 Tryz.ntmps99 fun B hok hB hW=>?_
 repeat' (first | refine jR ?_ | (refine jo ?_;first | refine jO fun _=>?_ | refine jL fun _=>?_ | refine al F ?_ | refine aQ F ?_ | refine jV (ao F F) ?_ | refine jC F F F ?_ | refine ac F F F cx_sign F ?_) | refine ab F (aD ‹_›) ?_ | refine ad F F ?_)
 all_goals refine jZ (vs:=[_,_,_]) F ⟨ay F F F F,ay F F F F,F,trivial⟩ F ⟨Gh.le.refl _,F,?_⟩
 all_goals exact .inl ⟨F,F⟩
theorem xD {qs : List cC} {k : adE} {t : Ty} (hki : aB (ah qs) k = true) (hrf : aX (ah qs) k = some t) : c7 k = [S [],S [64],S (nm k)] ∧ ∃ p,eK qs (nm k) = some (p,t) ∧ (p,t) ∈ qs:=by
 obtain ⟨r,rfl⟩:=dv hrf
 have h91 : ¬ ((64 : UInt8).toNat = 91 ∨ (64 : UInt8).toNat = 63):=by decide
 have hsg:=ju (r:=r) h91
 have hcs:=eV (r:=r) h91
 have hrn : (bH (bo (64 :: r))).isSome = true:=by rw [hcs];rfl
 have hbs : bs (64 :: r) = [64]:=(jr (cE hki)).2 hrn
 have hnm : bH (64 :: r) = some (nm (64 :: r)):=by unfold nm;rw [hcs];rfl
 have hft : gD (ah qs) (nm (64 :: r)) = some t:=by unfold aX at hrf;rw [hnm] at hrf;exact hrf
 rw [← gQ] at hft
 rcases hfq : eK qs (nm (64 :: r)) with _ | ⟨p,t'⟩
 ·rw [hfq] at hft;cases hft
 rw [hfq] at hft
 obtain rfl : t' = t:=Option.some.inj hft
 exact ⟨by unfold c7;rw [hsg,hbs],p,rfl,gZ hfq⟩
theorem zK {b : Nat} {qs : List cC} {k : adE} {t : Ty} {v : V} {c : VC} {n : Int} (hS : ScI G b qs) (hw : SchW (ah qs)) (hki : aB (ah qs) k = true) (hrf : aX (ah qs) k = some t) (ho : OfK (ah qs) k v) (hr : V.rep G v c) (hn : 0 ≤ n ∧ n ≤ 999999) (htt : v.tot ≤ 1000000) :
  bd adD 99 [Pt b 0,Ag (c7 k),Ag (bG c),I n] G (eZ (ah qs) (bw (ah qs) k v n)):=by
 obtain ⟨hkd,p,hfq,hqm⟩:=xD hki hrf
 have hst:=kx (v:=v) (n:=n) hrf
 have htm:=bi hrf
 have hW:=hw.ty t htm
 obtain ⟨fv,ln,hsg,hfv⟩:=hS.ty _ hqm
 dsimp only at hsg hfv
 have hkv:=gN qs (nm k)
 rw [hfq] at hkv
 dsimp only [Option.map_some] at hkv
 obtain ⟨u,m,g1,g2,g3⟩:=hS.at'
 have hfl:=hW.len
 have cx_sign:=@dx G [64] (nm k)
 rw [hkd]
 cases hg : bB t.fields n with
 | none =>
  rw [hg] at hst
  dsimp only at hst
  rw [hst]
  have cx_fld:=ee (tag:=n) hsg hfv oM hg
  obtain ⟨w,tx,tg,a,mm,kc⟩:=c
  have e0 : bG ⟨w,tx,tg,a,mm,kc⟩ = [U8 (w : Nat),S tx,I tg,.slice a mm kc]:=rfl
  rw [e0]
  refine jB [(0,_),(1,_),(2,_),(3,_)] Tryz.func99 Tryz.ntmps99 fun B hok hB hW=>?_
  repeat' (first | refine jR ?_ | (refine jo ?_;first | refine jO fun _=>?_ | refine jL fun _=>?_ | refine al F ?_ | refine aQ F ?_ | refine ac F F F cx_sign F ?_) | refine ad F F ?_)
  rename_i y5 y6 y8 y9
  (refine ak (ar (id:=12) [.blk y9 (.cells (List.toArray [U8 0,S [],I 0,aN]) dI (0,0)),.blk y8 (.cells (List.toArray [S [],S [],S []]) e9 (0,0)),.blk y6 (.cells (List.toArray [U8 (w : Nat),S tx,I tg,.slice a mm kc]) dI (0,0)),.blk y5 (.cells (List.toArray [S [],S [64],S (nm k)]) e9 (0,0))] (by intro y hy;simp only [List.mem_cons,List.not_mem_nil,or_false] at hy ⊢;rcases hy with hy | hy | hy | hy <;> simp [hy]) aj ?_);refine jT 4 [0,1,2,4] (aa 8 23) ?_;(refine jG (aa 8 31) 3 F (an F F aS F F) ?_);(refine jG (aa 8 63) 5 F (aC F F F) ?_);((refine jG (aa 8 127) 6 F (cg F F (d5 aS) aS F) ?_));refine jT 0 [7] (aa 8 255) ?_;refine jQ ?_)
  all_goals repeat' (first | refine jR ?_ | (refine jo ?_;first | refine jV (ao F F) ?_ | refine jC F F F ?_ | refine aK F ?_ | refine jV (cn F F) ?_ | refine ac F F F cx_fld F ?_) | refine aA F F F ?_ | refine ab F F ?_)
  all_goals refine jZ (vs:=[_,_,_]) F ⟨ay F F F F,ay F F F F,F,trivial⟩ F ⟨Gh.le.refl _,F,?_⟩
  all_goals exact .inl ⟨F,F⟩
 | some f =>
  rw [hg] at hst
  dsimp only at hst
  obtain ⟨j,hj,hjf,hjn,hjx⟩:=eE hg
  obtain ⟨bf,of,cf,rfl,hsf⟩:=hfv.expl oM
  have cx_fld:=eY hsg hsf oM hj hjf hjn
  subst hjx
  rcases hW.sort with hso | hso | hso
  ·rw [if_neg oM,if_pos hso] at hst
   rw [hst]
   rcases dR ho hrf with ⟨_,fs,rfl,g4,g5,_,_⟩ | ⟨h1,_⟩ | ⟨h1,_⟩
   ·have h9 : fs.length ≤ 1000000:=by
     have h7:=dq (fs.map aV)
     rw [br] at htt
     have e1 : (fs.map aV).length = fs.length:=by simp
     omega
    have cx_ge:=abO hS hw htm hso hsf hj hr h9
    obtain ⟨a,kc,cs,rfl,_,_,_,hcl,hsl,hrs⟩:=fL hr
    have hml : (fs.map aV).length = fs.length:=by simp
    have e0 : bG ⟨82,[],0,a,(fs.map aV).length,kc⟩ = [U8 (82 : Nat),S [],I 0,.slice a fs.length kc]:=by rw [← hml];rfl
    rw [e0] at cx_ge ⊢
    refine jB [(0,_),(1,_),(2,_),(3,_)] Tryz.func99 Tryz.ntmps99 fun B hok hB hW=>?_
    repeat' (first | refine jR ?_ | (refine jo ?_;first | refine jO fun _=>?_ | refine jL fun _=>?_ | refine al F ?_ | refine aQ F ?_ | refine ac F F F cx_sign F ?_) | refine ad F F ?_)
    rename_i y5 y6 y8 y9
    (refine ak (ar (id:=12) [.blk y9 (.cells (List.toArray [U8 0,S [],I 0,aN]) dI (0,0)),.blk y8 (.cells (List.toArray [S [],S [],S []]) e9 (0,0)),.blk y6 (.cells (List.toArray [U8 (82 : Nat),S [],I 0,.slice a fs.length kc]) dI (0,0)),.blk y5 (.cells (List.toArray [S [],S [64],S (nm k)]) e9 (0,0))] (by intro y hy;simp only [List.mem_cons,List.not_mem_nil,or_false] at hy ⊢;rcases hy with hy | hy | hy | hy <;> simp [hy]) aj ?_);refine jT 4 [0,1,2,4] (aa 8 23) ?_;(refine jG (aa 8 31) 3 F (an F F aS F F) ?_);(refine jG (aa 8 63) 5 F (aC F F F) ?_);((refine jG (aa 8 127) 6 F (cg F F (d5 aS) aS F) ?_));refine jT 0 [7] (aa 8 255) ?_;refine jQ ?_)
    all_goals repeat' (first | refine jR ?_ | (refine jo ?_;first | refine jV (an F F aS F F) ?_ | refine aw F ?_ | refine jV (cn F F) ?_ | refine ac F F F cx_fld F ?_) | (refine am F F (by first | rfl | (refine decide_eq_false ?_;(omega))) ?_) | (refine ad F (by first | rfl | (refine decide_eq_false ?_;(omega))) ?_))
    all_goals (refine ak (ar (id:=18) [.blk y6 (.cells (List.toArray [U8 (82 : Nat),S [],I 0,.slice a fs.length kc]) dI (0,0)),.blk y5 (.cells (List.toArray [S [],S [64],S (nm k)]) e9 (0,0))] (by intro y hy;simp only [List.mem_cons,List.not_mem_nil,or_false] at hy ⊢;rcases hy with hy | hy <;> simp [hy]) aj ?_);refine jW 6 [0,1,2,4,6] (aa 11 87) ?_;((refine jG (aa 11 95) 3 F (f8 F F aS ?_ F F) ?_;focus omega));(refine jG (aa 11 127) 5 F (bz F F F F) ?_);refine jA 7 F ?_;(refine aF F F F cx_ge F ?_;rintro _ G hle ⟨cv,rfl,hrv⟩;skip);refine jK (aa 11 255) ?_;refine jA 8 F ?_;(refine jC F F F ?_);refine jK (aa 11 511) ?_;refine jA 9 F ?_;(refine jC F F F ?_);refine jK (aa 11 1023) ?_;refine jW 0 [10] (aa 11 2047) ?_;refine jQ ?_)
    all_goals repeat' (refine jR ?_)
    all_goals refine jZ (vs:=[_,_,_]) F ⟨ay F F F F,ay F F F F,F,trivial⟩ F ⟨hle,F,?_⟩
    all_goals exact .inr ⟨_,_,cv,F,F,hrv⟩
   ·omega
   ·omega
  ·rw [if_neg oM,if_neg oM] at hst
   rcases dR ho hrf with ⟨h1,_⟩ | ⟨h1,_⟩ | ⟨_,_,d,w,rfl,g4,g5⟩
   ·omega
   ·omega
   ·obtain ⟨a,kc,cs,rfl,_,_,_,hcl,hsl,hrs⟩:=fL hr
    rw [V.reps] at hrs
    obtain ⟨c1,cs2,rfl,hri,hr2⟩:=hrs
    rw [V.reps] at hr2
    subst hr2
    have hsl : bq G (.slice a 1 kc) 4 ([c1] : List VC).length (ax bG [c1]):=hsl
    obtain ⟨xb,xo,xc,e,hsx⟩:=hsl.expl (by simp)
    simp only [Value.slice.injEq] at e
    obtain ⟨rfl,-,rfl⟩:=e
    have hxi : ae [c1] (Int.toNat 0) = c1:=rfl
    show bd _ _ [Pt b 0,Ag [S [],S [64],S (nm k)],Ag [U8 (85 : Nat),S [],I d.tag,.slice (some ⟨xb,xo,none⟩) 1 kc],I n] G _
    by_cases hdn : d.tag = n
    ·rw [if_pos (show V.tag (.nd 85 [] d.tag [w]) = n from hdn)] at hst
     rw [hst]
     refine jB [(0,_),(1,_),(2,_),(3,_)] Tryz.func99 Tryz.ntmps99 fun B hok hB hW=>?_
     repeat' (first | refine jR ?_ | (refine jo ?_;first | refine jO fun _=>?_ | refine jL fun _=>?_ | refine al F ?_ | refine aQ F ?_ | refine ac F F F cx_sign F ?_) | refine ad F F ?_)
     rename_i y5 y6 y8 y9
     (refine ak (ar (id:=12) [.blk y9 (.cells (List.toArray [U8 0,S [],I 0,aN]) dI (0,0)),.blk y8 (.cells (List.toArray [S [],S [],S []]) e9 (0,0)),.blk y6 (.cells (List.toArray [U8 (85 : Nat),S [],I d.tag,.slice (some ⟨xb,xo,none⟩) 1 kc]) dI (0,0)),.blk y5 (.cells (List.toArray [S [],S [64],S (nm k)]) e9 (0,0))] (by intro y hy;simp only [List.mem_cons,List.not_mem_nil,or_false] at hy ⊢;rcases hy with hy | hy | hy | hy <;> simp [hy]) aj ?_);refine jT 4 [0,1,2,4] (aa 8 23) ?_;(refine jG (aa 8 31) 3 F (an F F aS F F) ?_);(refine jG (aa 8 63) 5 F (aC F F F) ?_);((refine jG (aa 8 127) 6 F (cg F F (d5 aS) aS F) ?_));refine jT 0 [7] (aa 8 255) ?_;refine jQ ?_)
     all_goals repeat' (first | refine jR ?_ | (refine jo ?_;first | refine al F ?_ | refine jV (an F F aS F F) ?_ | refine aK F ?_ | refine aw F ?_ | refine jV (cn F F) ?_ | refine ac F F F cx_fld F ?_) | refine aA F F (aD oM) ?_ | (refine am F F (by first | rfl | (refine decide_eq_false ?_;(omega))) ?_) | refine ab F (aD oM) ?_ | refine ad F (aE oM) ?_)
     all_goals (refine ak (ar (id:=17) [.blk y6 (.cells (List.toArray [U8 (85 : Nat),S [],I d.tag,.slice (some ⟨xb,xo,none⟩) 1 kc]) dI (0,0)),.blk y5 (.cells (List.toArray [S [],S [64],S (nm k)]) e9 (0,0))] (by intro y hy;simp only [List.mem_cons,List.not_mem_nil,or_false] at hy ⊢;rcases hy with hy | hy <;> simp [hy]) aj ?_);refine jW 7 [0,1,2,4] (aa 11 23) ?_;((refine jG (aa 11 31) 3 F (f8 F F aS ?_ F F) ?_;focus omega));(refine jG (aa 11 63) 5 F (aC F F F) ?_);((refine jG (aa 11 127) 6 F (aT F F ?_) ?_;focus omega));((refine jG (aa 11 255) 7 F (nh F F aS ?_ aS) ?_;(focus ((simp only [List.length_append,List.length_cons,List.length_nil,List.length_take];omega);done))));refine jA 8 F ?_;(refine jC F F F ?_);refine jK (aa 11 511) ?_;refine jA 9 F ?_;(refine jC F F F ?_);refine jK (aa 11 1023) ?_;refine jW 0 [10] (aa 11 2047) ?_;refine jQ ?_)
     all_goals repeat' (refine jR ?_)
     all_goals refine jZ (vs:=[_,_,_]) F ⟨ay F F F F,ay F F F F,F,trivial⟩ F ⟨Gh.le.refl _,F,?_⟩
     all_goals exact .inr ⟨_,w,c1,F,F,hri⟩
    ·rw [if_neg (show ¬ V.tag (.nd 85 [] d.tag [w]) = n from hdn)] at hst
     rw [hst]
     refine jB [(0,_),(1,_),(2,_),(3,_)] Tryz.func99 Tryz.ntmps99 fun B hok hB hW=>?_
     repeat' (first | refine jR ?_ | (refine jo ?_;first | refine jO fun _=>?_ | refine jL fun _=>?_ | refine al F ?_ | refine aQ F ?_ | refine ac F F F cx_sign F ?_) | refine ad F F ?_)
     rename_i y5 y6 y8 y9
     (refine ak (ar (id:=12) [.blk y9 (.cells (List.toArray [U8 0,S [],I 0,aN]) dI (0,0)),.blk y8 (.cells (List.toArray [S [],S [],S []]) e9 (0,0)),.blk y6 (.cells (List.toArray [U8 (85 : Nat),S [],I d.tag,.slice (some ⟨xb,xo,none⟩) 1 kc]) dI (0,0)),.blk y5 (.cells (List.toArray [S [],S [64],S (nm k)]) e9 (0,0))] (by intro y hy;simp only [List.mem_cons,List.not_mem_nil,or_false] at hy ⊢;rcases hy with hy | hy | hy | hy <;> simp [hy]) aj ?_);refine jT 4 [0,1,2,4] (aa 8 23) ?_;(refine jG (aa 8 31) 3 F (an F F aS F F) ?_);(refine jG (aa 8 63) 5 F (aC F F F) ?_);((refine jG (aa 8 127) 6 F (cg F F (d5 aS) aS F) ?_));refine jT 0 [7] (aa 8 255) ?_;refine jQ ?_)
     all_goals repeat' (first | refine jR ?_ | (refine jo ?_;first | refine al F ?_ | refine jV (an F F aS F F) ?_ | refine jV (ao F F) ?_ | refine jC F F F ?_ | refine aK F ?_ | refine aw F ?_ | refine jV (cn F F) ?_ | refine ac F F F cx_fld F ?_) | refine aA F F (aD oM) ?_ | (refine am F F (by first | rfl | (refine decide_eq_false ?_;(omega))) ?_) | refine ab F (aD ‹_›) ?_)
     all_goals refine jZ (vs:=[_,_,_]) F ⟨ay F F F F,ay F F F F,F,trivial⟩ F ⟨Gh.le.refl _,F,?_⟩
     all_goals exact .inl ⟨F,F⟩
  ·rw [if_pos hso] at hst
   rw [hst]
   obtain ⟨w,tx,tg,a,mm,kc⟩:=c
   have e0 : bG ⟨w,tx,tg,a,mm,kc⟩ = [U8 (w : Nat),S tx,I tg,.slice a mm kc]:=rfl
   rw [e0]
   refine jB [(0,_),(1,_),(2,_),(3,_)] Tryz.func99 Tryz.ntmps99 fun B hok hB hW=>?_
   repeat' (first | refine jR ?_ | (refine jo ?_;first | refine jO fun _=>?_ | refine jL fun _=>?_ | refine al F ?_ | refine aQ F ?_ | refine ac F F F cx_sign F ?_) | refine ad F F ?_)
   rename_i y5 y6 y8 y9
   (refine ak (ar (id:=12) [.blk y9 (.cells (List.toArray [U8 0,S [],I 0,aN]) dI (0,0)),.blk y8 (.cells (List.toArray [S [],S [],S []]) e9 (0,0)),.blk y6 (.cells (List.toArray [U8 (w : Nat),S tx,I tg,.slice a mm kc]) dI (0,0)),.blk y5 (.cells (List.toArray [S [],S [64],S (nm k)]) e9 (0,0))] (by intro y hy;simp only [List.mem_cons,List.not_mem_nil,or_false] at hy ⊢;rcases hy with hy | hy | hy | hy <;> simp [hy]) aj ?_);refine jT 4 [0,1,2,4] (aa 8 23) ?_;(refine jG (aa 8 31) 3 F (an F F aS F F) ?_);(refine jG (aa 8 63) 5 F (aC F F F) ?_);((refine jG (aa 8 127) 6 F (cg F F (d5 aS) aS F) ?_));refine jT 0 [7] (aa 8 255) ?_;refine jQ ?_)
   all_goals repeat' (first | refine jR ?_ | (refine jo ?_;first | refine jV (an F F aS F F) ?_ | refine jV (ao F F) ?_ | refine jC F F F ?_ | refine aK F ?_ | refine aw F ?_ | refine jV (cn F F) ?_ | refine ac F F F cx_fld F ?_) | refine aA F F (aD oM) ?_ | refine am F F F ?_ | refine ab F F ?_)
   all_goals refine jZ (vs:=[_,_,_]) F ⟨ay F F F F,ay F F F F,F,trivial⟩ F ⟨Gh.le.refl _,F,?_⟩
   all_goals exact .inl ⟨F,F⟩
theorem zO {b : Nat} {qs : List cC} {k : adE} {v : V} {c : VC} {n : Int} (hS : ScI G b qs) (hw : SchW (ah qs)) (hki : aB (ah qs) k = true) (ho : OfK (ah qs) k v) (hr : V.rep G v c) (hn : 0 ≤ n ∧ n ≤ 999999) (htt : v.tot ≤ 1000000) :
  bd adD 99 [Pt b 0,Ag (c7 k),Ag (bG c),I n] G (eZ (ah qs) (bw (ah qs) k v n)):=by
 cases hrf : aX (ah qs) k with
 | some t=>exact zK hS hw hki hrf ho hr hn htt
 | none =>
  obtain ⟨ch,r,rfl⟩:=gX hki
  by_cases h91 : ch.toNat = 91 ∨ ch.toNat = 63
  ·rcases iY ho oM with ⟨h1,_⟩ | ⟨h1,_⟩ | ⟨h1,_⟩ | ⟨h1,ks,_,_,rfl⟩ | ⟨h1,h2⟩
   ·omega
   ·omega
   ·omega
   ·obtain rfl:=bn h1 dC
    have:=dq ks
    rw [br] at htt
    exact zN hr hn oM
   ·obtain rfl:=bn h1 dC
    rcases h2 with rfl | ⟨w,_,rfl⟩
    ·exact uw (.inl F) hr hn
    ·exact uw (.inr ⟨w,F⟩) hr hn
  ·exact zM (dK hki h91 hrf)
theorem wP {b : Nat} {qs : List cC} (hS : ScI G b qs) (hw : SchW (ah qs)) {p : List Int} {pv : Value} (hp : bq G pv 1 p.length (ax eb p)) (hpn : ∀ n ∈ p,0 ≤ n ∧ n ≤ 999999) (hpl : p.length ≤ 1000) {k : adE} {v : V} {c : VC} (hr : V.rep G v c) (ho : OfK (ah qs) k v) (hki : aB (ah qs) k = true) (htt : v.tot ≤ 1000000) :
  bd adD 55 [Pt b 0,Ag (c7 k),Ag (bG c),pv] G (eZ (ah qs) (bD (ah qs) k v p)):=by
 obtain ⟨pa,pc,rfl⟩:=hp.sl
 unfold c7
 have e0 : bG c = [U8 (c.what : Nat),S c.text,I c.tag,.slice c.a c.n c.c]:=rfl
 rw [e0]
 refine jB [(0,_),(1,_),(2,_),(3,_)] Tryz.func55 Tryz.ntmps55 fun B hok hB hW=>?_
 repeat' (first | refine jR ?_ | (refine jo ?_;first | refine jO fun _=>?_ | refine jL fun _=>?_ | refine jV (ag F) ?_))
 rename_i y5 y6 y8 y9
 refine aU (ι:=adE × V × VC × Nat × Gh) (fun j=>((V.rep j.2.2.2.2 j.2.1 j.2.2.1 ∧ OfK (ah qs) j.1 j.2.1) ∧ (aB (ah qs) j.1 = true ∧ j.2.1.tot ≤ 1000000)) ∧ (Gh.le G j.2.2.2.2 ∧ j.2.2.2.1 ≤ p.length) ∧ bD (ah qs) k v p = bD (ah qs) j.1 j.2.1 (p.drop j.2.2.2.1)) (fun j=>[(0,Pt b 0),(5,Pt y5 0),(6,Pt y6 0),(8,Pt y8 0),(9,Pt y9 0),(14,.slice pa p.length pc),(15,I p.length),(16,I j.2.2.2.1)]) (fun j=>j.2.2.2.2) (fun j=>[.blk y9 (.cells (List.toArray [U8 0,S [],I 0,aN]) dI (0,0)),.blk y8 (.cells (List.toArray [S [],S [],S []]) e9 (0,0)),.blk y6 (.cells (List.toArray [U8 (j.2.2.1.what : Nat),S j.2.2.1.text,I j.2.2.1.tag,.slice j.2.2.1.a j.2.2.1.n j.2.2.1.c]) dI (0,0)),.blk y5 (.cells (List.toArray [S (sg j.1),S (bs j.1),S (nm j.1)]) e9 (0,0))]) (fun j=>p.length - j.2.2.2.1) (k,v,c,0,G) ?_ tU F aZ (fun j Hj=>?_)
 ·exact ⟨⟨⟨hr,ho⟩,hki,htt⟩,⟨Gh.le.refl _,Nat.zero_le _⟩,F⟩
 obtain ⟨k0,v0,c0,i,Gq⟩:=j
 dsimp only at Hj ⊢
 obtain ⟨⟨⟨hr0,ho0⟩,hk0,ht0⟩,⟨hgq,hi0⟩,he⟩:=Hj
 by_cases hi : i < p.length
 ·obtain ⟨xb,xo,xc,e,hs1⟩:=(hp.mono hgq).expl oM
  simp only [Value.slice.injEq] at e
  obtain ⟨rfl,-,rfl⟩:=e
  have hni:=hpn _ (bh hi)
  have hti : ae p i = ae p i:=rfl
  have hstp:=zO (hS.mono hgq) hw hk0 ho0 hr0 hni ht0
  unfold c7 at hstp
  rw [show bG c0 = [U8 (c0.what : Nat),S c0.text,I c0.tag,.slice c0.a c0.n c0.c] from rfl] at hstp
  rw [ni hi] at he
  cases hsv : bw (ah qs) k0 v0 (ae p i) with
  | none =>
   have cx_stn:=eZ.no hstp hsv
   rw [hsv] at he
   repeat' (first | refine jR ?_ | (refine jo ?_;first | refine jV (aq F F oM) ?_ | refine aQ F ?_ | (refine jV (cZ F F aS ?_ aS F) ?_;focus omega) | refine jC F F F ?_ | refine jV (ao F F) ?_ | (refine aF F F F cx_stn F ?_;rintro _ G hle rfl;skip)) | (refine ab F (by first | rfl | (refine decide_eq_true ?_;(omega))) ?_))
   all_goals refine jZ (vs:=[_,_,_]) F ⟨ay F F F F,ay F F F F,F,trivial⟩ F ⟨hgq.trans hle,F,?_⟩
   all_goals exact .inl ⟨he,F⟩
  | some y =>
   obtain ⟨k1,v1⟩:=y
   have cx_sty:=eZ.yes hstp hsv
   rw [hsv] at he
   obtain ⟨g1,g2⟩:=gI hw ho0 hk0 hni.1 hsv
   have g3:=mL hw ho0 hk0 hni.1 hsv ht0 oM
   repeat' (first | refine jM ?_ | (refine jo ?_;first | refine jV (aq F F oM) ?_ | refine aQ F ?_ | (refine jV (cZ F F aS ?_ aS F) ?_;focus omega) | refine jC F F F ?_ | (refine aF F F F cx_sty F ?_;rintro _ G hle ⟨cv,rfl,hrv⟩;skip)) | refine ab F (aD oM) ?_ | refine ad F F ?_)
   exact a7 (k1,v1,cv,i + 1,G) ⟨⟨⟨hrv,g1⟩,g2,g3⟩,⟨hgq.trans hle,by dsimp only;omega⟩,he⟩ (by dsimp only;omega) tU rfl aZ
 ·have hd : p.drop i = []:=List.drop_eq_nil_of_le oM
  rw [hd] at he
  repeat' (first | refine jR ?_ | refine ad F (aE oM) ?_)
  (refine ak (ar (id:=9) [.blk y6 (.cells (List.toArray [U8 (c0.what : Nat),S c0.text,I c0.tag,.slice c0.a c0.n c0.c]) dI (0,0)),.blk y5 (.cells (List.toArray [S (sg k0),S (bs k0),S (nm k0)]) e9 (0,0))] (by intro y hy;simp only [List.mem_cons,List.not_mem_nil,or_false] at hy ⊢;rcases hy with hy | hy <;> simp [hy]) aj ?_);(refine jG (aa 5 1) 0 F (bz F F F F) ?_);(refine jG (aa 5 3) 1 F (bz F F F F) ?_);refine jA 2 F ?_;(refine jC F F F ?_);refine jK (aa 5 7) ?_;refine jA 3 F ?_;(refine jC F F F ?_);refine jK (aa 5 15) ?_;refine jW 0 [4] (aa 5 31) ?_;refine jQ ?_)
  all_goals repeat' (refine jR ?_)
  all_goals refine jZ (vs:=[_,_,_]) F ⟨ay F F F F,ay F F F F,F,trivial⟩ F ⟨hgq,F,?_⟩
  all_goals exact .inr ⟨_,_,c0,he,F,hr0⟩
theorem nV {s : adE} (h : s.length ≤ 1048576) (hp : cJ s = none) : ∀ G,bd adD 54 [S s] G (fun v _=>∃ a c n,v = Tu [.slice a n c,Bo false] ∧ True):=fun G=>by
 refine (p5 (G:=G) h).mono ?_
 rintro v G' L' ⟨h1,h2,a,c,n,rfl,_⟩
 exact ⟨h1,h2,a,c,n,by rw [hp];rfl,trivial⟩
theorem mT {s : adE} {p : List Int} (h : s.length ≤ 1048576) (hp : cJ s = some p) : ∀ G,bd adD 54 [S s] G (fun v G'=>∃ a c n,v = Tu [.slice a n c,Bo true] ∧ n = p.length ∧ bq G' (.slice a n c) 1 p.length (ax eb p)):=fun G=>by
 refine (p5 (G:=G) h).mono ?_
 rintro v G' L' ⟨h1,h2,a,c,n,rfl,h3⟩
 exact ⟨h1,h2,a,c,n,by rw [hp];rfl,h3 p hp⟩
theorem p9 {s k w p : adE} (h1 : s.length ≤ 1048576 ∧ k.length ≤ 1048576 ∧ w.length ≤ 1048576 ∧ p.length ≤ 1048576) : aG adD 20 [S s,S k,S w,S p] G (· = pgR (dY s k w p)):=by
 unfold dY
 cases hg : cW s k w with
 | none =>
  rw [xv]
  have cx_gi0:=s9 (G:=G) (s:=s) (k:=k) (w:=w) oM hg
  cases hpo : cJ p with
  | none =>
   have cx_sp:=nV h1.2.2.2 hpo
   refine jB (Post:=fun v G' L'=>G' = G ∧ L' = [] ∧ _) [(0,_),(1,_),(2,_),(3,_)] Tryz.func20 Tryz.ntmps20 fun B hok hB hW=>?_
   repeat' (first | refine jR ?_ | (refine jo ?_;first | refine jL fun _=>?_ | refine jC F F F ?_ | refine aK F ?_ | (refine aF F F F cx_gi0 F ?_;rintro _ G hle ⟨p1,a1,b1,c1,rfl⟩;skip) | (refine aF F F F (cx_sp _) F ?_;rintro _ G hle ⟨sa,sc,sn,rfl,hsp⟩;skip)) | refine aA F F F ?_ | refine ab F F ?_)
   all_goals refine Nx.base hok hB ?_
   all_goals refine jY (vs:=[_,_,_]) ?_
   all_goals rfl
  | some q =>
   have cx_sp:=mT h1.2.2.2 hpo
   refine jB (Post:=fun v G' L'=>G' = G ∧ L' = [] ∧ _) [(0,_),(1,_),(2,_),(3,_)] Tryz.func20 Tryz.ntmps20 fun B hok hB hW=>?_
   repeat' (first | refine jR ?_ | (refine jo ?_;first | refine jL fun _=>?_ | refine jC F F F ?_ | refine aK F ?_ | (refine aF F F F cx_gi0 F ?_;rintro _ G hle ⟨p1,a1,b1,c1,rfl⟩;skip) | (refine aF F F F (cx_sp _) F ?_;rintro _ G hle ⟨sa,sc,sn,rfl,hsp⟩;skip)) | refine aA F F F ?_ | refine ab F F ?_)
   all_goals refine Nx.base hok hB ?_
   all_goals refine jY (vs:=[_,_,_]) ?_
   all_goals rfl
 | some u =>
  obtain ⟨ts,hs,hki,hvo,hto,hwf⟩:=eU hg
  have cx_gi1:=s8 (G:=G) (s:=s) (k:=k) (w:=w) oM hs hki hvo
  rw [hs]
  cases hpo : cJ p with
  | none =>
   have cx_sp:=nV h1.2.2.2 hpo
   refine jB (Post:=fun v G' L'=>G' = G ∧ L' = [] ∧ _) [(0,_),(1,_),(2,_),(3,_)] Tryz.func20 Tryz.ntmps20 fun B hok hB hW=>?_
   repeat' (first | refine jR ?_ | (refine jo ?_;first | refine jL fun _=>?_ | refine jC F F F ?_ | refine aw F ?_ | (refine aF F F F cx_gi1 F ?_;rintro _ G hle ⟨bg,qg,cv,rfl,hTg,hRg,hrv⟩;skip) | (refine aF F F F (cx_sp _) F ?_;rintro _ G hle ⟨sa,sc,sn,rfl,hsp⟩;skip)) | refine am F F F ?_ | refine ab F F ?_)
   all_goals refine Nx.base hok hB ?_
   all_goals refine jY (vs:=[_,_,_]) ?_
   all_goals rfl
  | some q =>
   have cx_sp:=mT h1.2.2.2 hpo
   obtain ⟨hq8,hqn⟩:=iX hpo
   have hof:=gg hvo
   have hw:=b6 hs
   dsimp only
   refine jB (Post:=fun v G' L'=>G' = G ∧ L' = [] ∧ _) [(0,_),(1,_),(2,_),(3,_)] Tryz.func20 Tryz.ntmps20 fun B hok hB hW=>?_
   repeat' (first | refine jR ?_ | (refine jo ?_;first | refine jL fun _=>?_ | refine jC F F F ?_ | refine aw F ?_ | refine aQ F ?_ | (refine aF F F F cx_gi1 F ?_;rintro _ G hle ⟨bg,qg,cv,rfl,hTg,hRg,hrv⟩;(try have hrv:=fz hle hrv);(try have hRg:=ScI.mono hRg hle)) | (refine aF F F F (cx_sp _) F ?_;rintro _ G hle ⟨sa,sc,sn,rfl,hsp⟩;(try have hrv:=fz hle hrv);(try have hRg:=ScI.mono hRg hle))) | refine am F F F ?_ | refine ad F F ?_)
   obtain ⟨rfl,hsp⟩:=hsp
   subst hTg
   have hfl:=wP hRg hw hsp hqn oM hrv hof hki oM
   unfold c7 at hfl
   rw [show bG cv = [U8 (cv.what : Nat),S cv.text,I cv.tag,.slice cv.a cv.n cv.c] from rfl] at hfl
   cases hfo : bD (ah qg) k u q with
   | none =>
    have cx_fon:=eZ.no hfl hfo
    repeat' (first | refine jR ?_ | (refine jo ?_;first | refine jC F F F ?_ | (refine aF F F F cx_fon F ?_;rintro _ G hle rfl;skip)) | refine ab F F ?_)
    all_goals refine Nx.base hok hB ?_
    all_goals refine jY (vs:=[_,_,_]) ?_
    all_goals rfl
   | some y =>
    obtain ⟨k1,v1⟩:=y
    have cx_foy:=eZ.yes hfl hfo
    have g3:=k6 hw hof hki (fun n hn=>(hqn n hn).1) hfo (N:=1000000) oM oM
    obtain ⟨_,hk1⟩:=fC hw hof hki (fun n hn=>(hqn n hn).1) hfo
    repeat' (first | refine jR ?_ | (refine jo ?_;first | refine jC F F F ?_ | (refine aF F F F cx_foy F ?_;rintro _ G hle ⟨cv,rfl,hrv⟩;skip)) | refine ad F F ?_)
    have cx_txt:=zJ (G:=G) (cE hk1)
    have cx_pr:=lq (G:=G) (c:=cv) v1.tot (Nat.le_refl _) g3 hrv
    unfold c7 at cx_txt
    rw [show bG cv = [U8 (cv.what : Nat),S cv.text,I cv.tag,.slice cv.a cv.n cv.c] from rfl] at cx_pr
    rename_i y12 y13 _ _ _ _
    (refine ak (ar (id:=8) _ (fun _ h=>h) aj ?_);(refine jG (aa 7 1) 0 F (bz F F F F) ?_);(refine jG (aa 7 5) 2 F (bz F F F F) ?_);refine jA 1 F ?_;(refine ac F F F cx_txt F ?_);refine jS (aa 7 7) ?_;refine jA 3 F ?_;(refine ac F F F cx_pr F ?_);refine jS (aa 7 15) ?_;refine jT 0 [4,5,6] (aa 7 127) ?_;refine jQ ?_)
    all_goals repeat' (refine jR ?_)
    all_goals refine Nx.base hok hB ?_
    all_goals refine jY (vs:=[_,_,_]) ?_
    all_goals rfl
theorem wQ {v : V} {c : VC} (h : V.rep G v c) (ht : v.tot ≤ 1000000) : aG adD 93 [Ag (bG c)] G (· = Bo (decide (v.out.length ≤ 400 ∧ v.deep ≤ 12))):=by
 have cx_pr:=lq (G:=G) v.tot (Nat.le_refl _) ht h
 have cx_dp:=wS (G:=G) v.tot (Nat.le_refl _) ht h
 have hdl:=oV v
 obtain ⟨w,tx,tg,a,m,kc⟩:=c
 have e0 : bG ⟨w,tx,tg,a,m,kc⟩ = [U8 (w : Nat),S tx,I tg,.slice a m kc]:=rfl
 rw [e0] at cx_pr cx_dp ⊢
 by_cases h1 : v.out.length ≤ 400
 ·by_cases h2 : v.deep ≤ 12
  ·rw [decide_eq_true (p:=v.out.length ≤ 400 ∧ v.deep ≤ 12) ⟨h1,h2⟩]
   refine jE [(0,_)] Tryz.func93 Tryz.ntmps93 fun B hB=>?_
   repeat' (first | refine jR ?_ | (refine jo ?_;first | refine jO fun _=>?_ | refine aQ F ?_ | refine aK F ?_ | refine ac F F F cx_pr F ?_ | refine ac F F F cx_dp F ?_) | refine aA F F (aD oM) ?_)
   all_goals refine jY (vs:=[_]) ?_
   all_goals (rw [aH,decide_eq_true oM])
  ·rw [decide_eq_false (p:=v.out.length ≤ 400 ∧ v.deep ≤ 12) (fun h=>h2 h.2)]
   refine jE [(0,_)] Tryz.func93 Tryz.ntmps93 fun B hB=>?_
   repeat' (first | refine jR ?_ | (refine jo ?_;first | refine jO fun _=>?_ | refine aQ F ?_ | refine aK F ?_ | refine ac F F F cx_pr F ?_ | refine ac F F F cx_dp F ?_) | refine aA F F (aD oM) ?_)
   all_goals refine jY (vs:=[_]) ?_
   all_goals (rw [aH,decide_eq_false oM])
 ·rw [decide_eq_false (p:=v.out.length ≤ 400 ∧ v.deep ≤ 12) (fun h=>h1 h.1)]
  refine jE [(0,_)] Tryz.func93 Tryz.ntmps93 fun B hB=>?_
  repeat' (first | refine jR ?_ | (refine jo ?_;first | refine jO fun _=>?_ | refine aQ F ?_ | refine aw F ?_ | refine ac F F F cx_pr F ?_) | refine am F F (aE oM) ?_)
  all_goals refine jY (vs:=[_]) ?_
  all_goals rfl
theorem xZ {sc : Nat} {qs : List cC} {k b : adE} (hS : ScI G sc qs) (hw : SchW (ah qs)) (hk : aB (ah qs) k = true) (hb : b.length ≤ 1048576) (hno : ¬ (b.length ≤ 600 ∧ ∃ v,cU (rb (ah qs) 13) k b = some v ∧ v.out.length ≤ 400 ∧ v.deep ≤ 12)) :
  bd adD 51 [Pt sc 0,Ag [S (sg k),S (bs k),S (nm k)],S b] G (fun v _=>∃ a n c,v = Tu [Ag [U8 (0 : Nat),S [],I 0,aN],.slice a n c,Bo false]):=by
 by_cases hl : b.length ≤ 600
 case neg =>
  refine jB [(0,_),(1,_),(2,_)] Tryz.func51 Tryz.ntmps51 fun B hok hB hW=>?_
  repeat' (first | refine jR ?_ | (refine jo ?_;first | refine jO fun _=>?_ | refine jL fun _=>?_ | refine jV (ao F F) ?_ | refine jC F F F ?_) | refine ab F (aD oM) ?_)
  all_goals refine jZ (vs:=[_,_,_]) F ⟨ay F F F F,F,F,trivial⟩ F ⟨Gh.le.refl _,F,?_⟩
  all_goals exact ⟨_,_,_,F⟩
 refine jB [(0,_),(1,_),(2,_)] Tryz.func51 Tryz.ntmps51 fun B hok hB hW=>?_
 repeat' (first | refine jR ?_ | (refine jo ?_;first | refine jO fun _=>?_ | refine jL fun _=>?_ | refine jV (ao F F) ?_ | refine aQ F ?_) | refine ad F (aE oM) ?_)
 rename_i x4 x6 y
 have hv:=qi (sc:=sc) hw 13 (Nat.le_refl _) G y k b false hS hk oM
 rw [show (13 : Int) - ((13 : Nat) : Int) = 0 from rfl] at hv
 refine jo ?_
 refine cY F F F hv F ?_
 rintro _ G1 _ hle ⟨u1,c1,t1,b1,a1,n1,k1,rfl,hrep,rfl,hsk,hP⟩
 dsimp only [zA,fA]
 obtain ⟨hQ1,hQ2,hQ3⟩:=lf hP
 clear hv hP
 cases b1 with
 | true =>
  repeat' (first | refine jR ?_ | (refine jo ?_;first | refine jL fun _=>?_ | refine jV (ao F F) ?_ | refine jC F F F ?_ | refine al F ?_ | refine aK F ?_) | refine aA F F F ?_ | refine ab F F ?_)
  all_goals refine jZ (vs:=[_,_,_]) F ⟨ay F F F F,F,F,trivial⟩ F ⟨hle,F,?_⟩
  all_goals exact ⟨_,_,_,F⟩
 | false =>
  obtain ⟨h1,h2,h3⟩:=hQ2 rfl
  cases t1 with
  | cons e t1 =>
   repeat' (first | refine jR ?_ | (refine jo ?_;first | refine jL fun _=>?_ | refine jV (ao F F) ?_ | refine jC F F F ?_ | refine al F ?_ | refine aK F ?_ | refine aw F ?_) | refine aA F F F ?_ | refine am F F F ?_ | refine ab F F ?_)
   all_goals refine jZ (vs:=[_,_,_]) F ⟨ay F F F F,F,F,trivial⟩ F ⟨hle,F,?_⟩
   all_goals exact ⟨_,_,_,F⟩
  | nil =>
   simp only [List.length_nil] at h2
   have hnf : ¬ (u1.out.length ≤ 400 ∧ u1.deep ≤ 12):=fun h=>hno ⟨hl,u1,gK h1,h⟩
   have cx_fit:=wQ hrep oM
   rw [decide_eq_false hnf] at cx_fit
   simp only [bG,VC.sl] at cx_fit
   dsimp only [bG,VC.sl]
   repeat' (first | refine jR ?_ | (refine jo ?_;first | refine jL fun _=>?_ | refine jV (ao F F) ?_ | refine jC F F F ?_ | refine al F ?_ | refine aQ F ?_ | refine aw F ?_ | refine ac F F F cx_fit F ?_) | refine am F F F ?_ | refine ab F F ?_)
   all_goals refine jZ (vs:=[_,_,_]) F ⟨ay F F F F,F,F,trivial⟩ F ⟨hle,F,?_⟩
   all_goals exact ⟨_,_,_,F⟩
theorem xY {sc : Nat} {qs : List cC} {k b : adE} {v : V} (hS : ScI G sc qs) (hw : SchW (ah qs)) (hk : aB (ah qs) k = true) (hl : b.length ≤ 600) (hv : cU (rb (ah qs) 13) k b = some v) (ho : v.out.length ≤ 400) (hd : v.deep ≤ 12) :
  bd adD 51 [Pt sc 0,Ag [S (sg k),S (bs k),S (nm k)],S b] G (fun r G'=>∃ c a n k',r = Tu [Ag (bG c),.slice a n k',Bo true] ∧ V.rep G' v c):=by
 have hin:=cS hv
 refine jB [(0,_),(1,_),(2,_)] Tryz.func51 Tryz.ntmps51 fun B hok hB hW=>?_
 repeat' (first | refine jR ?_ | (refine jo ?_;first | refine jO fun _=>?_ | refine jL fun _=>?_ | refine jV (ao F F) ?_ | refine aQ F ?_) | refine ad F (aE oM) ?_)
 rename_i x4 x6 y
 have hv2:=qi (sc:=sc) hw 13 (Nat.le_refl _) G y k b false hS hk oM
 rw [show (13 : Int) - ((13 : Nat) : Int) = 0 from rfl] at hv2
 refine jo ?_
 refine cY F F F hv2 F ?_
 rintro _ G1 _ hle ⟨u1,c1,t1,b1,a1,n1,k1,rfl,hrep,rfl,hsk,hP⟩
 dsimp only [zA,fA]
 obtain ⟨hQ1,hQ2,hQ3⟩:=lf hP
 clear hv2 hP
 cases b1 with
 | true=>have:=hQ3 rfl;rw [hin] at this;cases this
 | false =>
  obtain ⟨h1,h2,h3⟩:=hQ2 rfl
  rw [hin] at h1
  simp only [Option.some.injEq,Prod.mk.injEq] at h1
  obtain ⟨rfl,rfl⟩:=h1
  simp only [List.length_nil] at h2
  have cx_fit:=wQ hrep oM
  rw [decide_eq_true ⟨ho,hd⟩] at cx_fit
  simp only [bG,VC.sl] at cx_fit
  dsimp only [bG,VC.sl]
  repeat' (first | refine jR ?_ | (refine jo ?_;first | refine jL fun _=>?_ | refine jC F F F ?_ | refine al F ?_ | refine aQ F ?_ | refine aw F ?_ | refine ac F F F cx_fit F ?_) | refine am F F F ?_ | refine ad F F ?_ | (refine ak (dL (id:=7) (tt:=6) F aj ?_);refine jW 5 [1,2,3] (aa 8 14) ?_;(refine jG (aa 8 15) 0 F (bz F F F F) ?_);(refine jG (aa 8 31) 4 F (aC F F F) ?_);refine jA 5 F ?_;(refine jC F F F ?_);refine jK (aa 8 63) ?_;refine jW 0 [6,7] (aa 8 255) ?_;refine jQ ?_))
  all_goals refine jZ (vs:=[_,_,_]) F ⟨ay F F F F,F,F,trivial⟩ F ⟨hle,F,?_⟩
  all_goals exact ⟨c1,_,_,_,F,hrep⟩
theorem aaQ {s k b : adE} (h : cz s k = false) : iD s k b = none:=by
 unfold iD
 unfold cz at h
 cases hs : aP s with
 | none=>rfl
 | some ts=>rw [hs] at h;dsimp only at h ⊢;rw [if_neg (by rw [h];simp)]
theorem k8 {s k b : adE} (h : s.length ≤ 1048576 ∧ k.length ≤ 1048576 ∧ b.length ≤ 1048576) : aG adD 19 [S s,S k,S b] G (· = ob ((iD s k b).map V.out)):=by
 by_cases hk : cz s k = true
 case neg =>
  have hk2 : cz s k = false:=by simpa using hk
  have cx_bo1 : ∀ G,bd adD 50 [S s,S k] G (fun v _=>∃ p a b c,v = Tu [p,Ag [S a,S b,S c],Bo false]):=fun G=>by
   refine (nx (G:=G) (s:=s) (k:=k) oM oM).mono ?_
   rintro v G' L' ⟨h1,h2,⟨h4,p,a,b,c,rfl⟩ | ⟨b,qs,rfl,h4,h5,h6⟩⟩
   ·exact ⟨h1,h2,p,a,b,c,F⟩
   ·unfold cz at hk;rw [h4] at hk;exact absurd h5 hk
  rw [aaQ hk2]
  refine jB (Post:=fun v G' L'=>G' = G ∧ L' = [] ∧ _) [(0,_),(1,_),(2,_)] Tryz.func19 Tryz.ntmps19 fun B hok hB hW=>?_
  repeat' (first | refine jR ?_ | (refine jo ?_;first | refine jL fun _=>?_ | refine jC F F F ?_ | (refine aF F F F (cx_bo1 _) F ?_;rintro _ G hle ⟨p1,a1,b1,c1,rfl⟩;skip)) | refine ab F F ?_)
  all_goals refine Nx.base hok hB ?_
  all_goals refine jY (vs:=[_,_]) ?_
  all_goals rfl
 case pos =>
  obtain ⟨ts,hs,hki⟩ : ∃ ts,aP s = some ts ∧ aB ts k = true:=by
   unfold cz at hk
   cases hs : aP s with
   | none=>rw [hs] at hk;cases hk
   | some ts=>rw [hs] at hk;exact ⟨ts,F,hk⟩
  have hw:=b6 hs
  have cx_boa : ∀ G,bd adD 50 [S s,S k] G (fun v G'=>∃ b qs,v = Tu [Pt b 0,Ag [S (sg k),S (bs k),S (nm k)],Bo true] ∧ ah qs = ts ∧ ScI G' b qs):=fun G=>by
   refine (nx (G:=G) (s:=s) (k:=k) oM oM).mono ?_
   rintro v G' L' ⟨h1,h2,⟨h4,_⟩ | ⟨b,qs,rfl,h4,h5,h6⟩⟩
   ·rw [h4] at hk;cases hk
   ·rw [hs] at h4;exact ⟨h1,h2,b,qs,F,(Option.some.inj h4).symm,h6⟩
  cases hg : iD s k b with
  | none =>
   refine jB (Post:=fun v G' L'=>G' = G ∧ L' = [] ∧ _) [(0,_),(1,_),(2,_)] Tryz.func19 Tryz.ntmps19 fun B hok hB hW=>?_
   repeat' (first | refine jR ?_ | (refine jo ?_;first | refine jL fun _=>?_ | refine jC F F F ?_ | refine aQ F ?_ | (refine aF F F F (cx_boa _) F ?_;rintro _ G hle ⟨ba,qa,rfl,hT1,hR1⟩;skip)) | refine ad F F ?_)
   subst hT1
   have cx_fb0:=xZ (G:=G) (b:=b) hR1 hw hki oM (fun h=>by
    obtain ⟨a1,v,a2,a3⟩:=h
    unfold iD at hg
    rw [hs] at hg
    dsimp only at hg
    rw [if_pos ⟨hki,a1⟩,a2] at hg
    dsimp only at hg
    rw [if_pos a3] at hg
    cases hg)
   repeat' (first | refine jR ?_ | (refine jo ?_;first | refine jL fun _=>?_ | refine jC F F F ?_ | (refine aF F F F cx_fb0 F ?_;rintro _ G hle ⟨za,zn,zk,rfl⟩;skip)) | refine ab F F ?_)
   all_goals refine Nx.base hok hB ?_
   all_goals refine jY (vs:=[_,_]) ?_
   all_goals rfl
  | some v =>
   obtain ⟨ts',hs',_,hl,hr,ho,hd⟩:=qy hg
   obtain rfl : ts = ts':=by rw [hs] at hs';exact Option.some.inj hs'
   have htot:=j9 _ _ _ _ _ (cS hr)
   simp only [List.length_nil] at htot
   refine jB (Post:=fun v G' L'=>G' = G ∧ L' = [] ∧ _) [(0,_),(1,_),(2,_)] Tryz.func19 Tryz.ntmps19 fun B hok hB hW=>?_
   repeat' (first | refine jR ?_ | (refine jo ?_;first | refine jL fun _=>?_ | refine jC F F F ?_ | refine aQ F ?_ | (refine aF F F F (cx_boa _) F ?_;rintro _ G hle ⟨ba,qa,rfl,hT1,hR1⟩;skip)) | refine ad F F ?_)
   subst hT1
   have cx_fb1:=xY (G:=G) (b:=b) hR1 hw hki hl hr ho hd
   clear hr
   unfold ob
   dsimp only [Option.map,Option.getD,Option.isSome]
   repeat' (first | refine jR ?_ | (refine jo ?_;first | refine jL fun _=>?_ | refine jC F F F ?_ | refine aQ F ?_ | (refine aF F F F cx_fb1 F ?_;rintro _ G hle ⟨c1,za,zn,zk,rfl,hrep⟩;skip)) | refine ad F F ?_)
   have cx_pr:=lq (G:=G) v.tot (Nat.le_refl _) oM hrep
   simp only [bG,VC.sl] at cx_pr
   generalize v.out = vo at cx_pr ⊢
   repeat' (first | refine jR ?_ | (refine jo ?_;refine ac F F F cx_pr F ?_))
   all_goals refine Nx.base hok hB ?_
   all_goals refine jY (vs:=[_,_]) ?_
   all_goals rfl
theorem rM {s k b : adE} (h : s.length ≤ 1048576 ∧ k.length ≤ 1048576 ∧ b.length ≤ 1048576) : aG adD 32 [S s,S k,S b] G (· = Bo (dM s k b).isSome):=by
 have cx_bg1:=k8 (G:=G) h
 cases hg : iD s k b with
 | none =>
  rw [hg] at cx_bg1
  unfold ob at cx_bg1
  dsimp only [Option.map,Option.getD,Option.isSome] at cx_bg1
  rw [zf hg]
  refine jE [(0,_),(1,_),(2,_)] Tryz.func32 Tryz.ntmps32 fun B hB=>?_
  repeat' (first | refine jR ?_ | (refine jo ?_;refine ac F F F cx_bg1 F ?_) | refine ab F F ?_)
  all_goals refine jY (vs:=[_]) ?_
  all_goals rfl
 | some v =>
  obtain ⟨ts,hs,hki,hl,hr,ho,hd⟩:=qy hg
  rw [hg] at cx_bg1
  unfold ob at cx_bg1
  dsimp only [Option.map,Option.getD,Option.isSome] at cx_bg1
  have hpb:=oi hs hki (lL _ _ _ _ (cS hr)).1 hd ho
  have cx_bp1:=k7 (G:=G) (s:=s) (k:=k) (w:=v.out) oM
  rw [hpb] at cx_bp1
  have hcn:=vm hg
  clear hg hpb hr
  generalize v.out = vo at cx_bg1 cx_bp1
  by_cases h6 : v.bys.length ≤ 600
  ·rw [if_pos h6] at cx_bp1
   dsimp only [Option.getD,Option.isSome] at cx_bp1
   have hres : (dM s k b).isSome = decide (v.bys = b):=by
    rw [hcn]
    by_cases h1 : v.bys = b
    ·rw [if_pos h1,decide_eq_true h1];rfl
    ·rw [if_neg h1,decide_eq_false h1];rfl
   rw [hres]
   clear hres hcn
   generalize v.bys = vb at cx_bp1 ⊢
   refine jE [(0,_),(1,_),(2,_)] Tryz.func32 Tryz.ntmps32 fun B hB=>?_
   repeat' (first | refine jR ?_ | (refine jo ?_;first | refine aK F ?_ | refine ac F F F cx_bg1 F ?_ | refine ac F F F cx_bp1 F ?_) | refine aA F F F ?_ | refine ad F F ?_)
   all_goals refine jY (vs:=[_]) ?_
   all_goals rfl
  ·rw [if_neg h6] at cx_bp1
   dsimp only [Option.getD,Option.isSome] at cx_bp1
   rw [if_neg (fun h1=>by rw [h1] at h6;exact h6 hl)] at hcn
   rw [hcn]
   refine jE [(0,_),(1,_),(2,_)] Tryz.func32 Tryz.ntmps32 fun B hB=>?_
   repeat' (first | refine jR ?_ | (refine jo ?_;first | refine aw F ?_ | refine ac F F F cx_bg1 F ?_ | refine ac F F F cx_bp1 F ?_) | refine am F F F ?_ | refine ad F F ?_)
   all_goals refine jY (vs:=[_]) ?_
   all_goals rfl
variable {ts : List Ty}
theorem uW (hw : SchW ts) {k : adE} {v : V} (h : OfK ts k v) (hk : aB ts k = true) {n : Int} (hn : 0 ≤ n) {k' : adE} {v' : V} (e : bw ts k v n = some (k',v')) (hd : v.deep ≤ 12) (hl : v.out.length ≤ 400) : v'.deep ≤ 12 ∧ v'.out.length ≤ 400:=by
 obtain ⟨c,r,rfl⟩:=gX hk
 unfold bw at e
 dsimp only at e
 split at e
 ·rename_i hc
  split at e
  ·rename_i hlt
   simp only [Option.some.injEq,Prod.mk.injEq] at e
   obtain ⟨rfl,rfl⟩:=e
   rcases iY h oM with ⟨g1,_⟩ | ⟨g1,_⟩ | ⟨g1,_⟩ | ⟨g1,ks,g2,g3,rfl⟩ | ⟨g1,rfl | ⟨u,g3,rfl⟩⟩
   ·omega
   ·omega
   ·omega
   ·rw [V.kids] at hlt ⊢
    have hi : n.toNat < ks.length:=oM
    rw [cy dC] at hd
    rw [q6] at hl
    have h1:=V.deep_mem (bh hi)
    have h2:=kE (xs:=ks.map V.out) (List.mem_map_of_mem (f:=V.out) (bh hi))
    simp only [List.length_cons,List.length_append,List.length_nil] at hl
    exact ⟨oM,oM⟩
   ·simp [V.kids] at hlt;omega
   ·simp [V.kids] at hlt
    obtain rfl : n = 0:=oM
    rw [cy dC] at hd
    have e1 : V.out (.nd 63 [] 0 [u]) = 43 :: u.out:=by rw [V.out];simp [V.outs,aO,cO]
    rw [e1,List.length_cons] at hl
    have h1:=V.deep_mem (ks:=[u]) (v:=u) (by simp)
    exact ⟨by show u.deep ≤ 12;omega,by show u.out.length ≤ 400;omega⟩
  ·cases e
 ·split at e
  ·cases e
  ·rename_i t hr
   have ht:=bi hr
   split at e
   ·cases e
   ·rename_i f hf
    have hfm:=List.mem_of_find?_eq_some hf
    split at e
    ·cases e
    ·rename_i h69
     split at e
     ·rename_i h82
      simp only [Option.some.injEq,Prod.mk.injEq] at e
      obtain ⟨rfl,rfl⟩:=e
      rcases dR h hr with ⟨_,fs,rfl,g3,g4,_,_⟩ | ⟨g1,_⟩ | ⟨g1,_⟩
      ·unfold fk
       rw [V.kids]
       cases hto : cT f (fs.map aV) with
       | none =>
        obtain ⟨a1,a2,a3⟩:=gV hw ht h69 hfm
        unfold bV at a2
        split at a2
        ·rename_i hl4
         split at a2
         ·rename_i v' hv'
          have:=jk _ _ _ _ hv'
          simp only [Option.some.injEq] at a2
          subst a2
          exact ⟨this,by show (fI ts f).out.length ≤ 400;rw [a3];exact hl4⟩
         ·cases a2
        ·cases a2
       | some u =>
        obtain ⟨_,p,hp,_,rfl⟩:=lC (hw.ty t ht) hfm (fun p hp=>⟨g3 p hp,g4 p hp⟩) hto
        rw [cy dC] at hd
        rw [sh] at hl
        have h1:=V.deep_mem (List.mem_map_of_mem (f:=aV) hp)
        rw [show (aV p).deep = p.2.deep from l6] at h1
        have h2:=kE (xs:=(fs.map aV).map V.out) (List.mem_map_of_mem (f:=V.out) (List.mem_map_of_mem (f:=aV) hp))
        rw [show (aV p).out = a8 p.1.tag ++ 61 :: p.2.out from fN] at h2
        simp only [List.length_cons,List.length_append,List.length_nil] at hl h2
        exact ⟨by show p.2.deep ≤ 12;omega,by show p.2.out.length ≤ 400;omega⟩
      ·omega
      ·omega
     ·rename_i h82
      split at e
      ·simp only [Option.some.injEq,Prod.mk.injEq] at e
       obtain ⟨rfl,rfl⟩:=e
       rcases dR h hr with ⟨h1,_⟩ | ⟨h1,_⟩ | ⟨_,_,d,u,rfl,g4,g5⟩
       ·omega
       ·omega
       ·rw [cy dC] at hd
        have e1 : V.out (.nd 85 [] d.tag [u]) = 60 :: (a8 d.tag ++ 61 :: (u.out ++ [62])):=by rw [V.out];simp [V.outs,aO,cO]
        rw [e1] at hl
        have h1:=V.deep_mem (ks:=[u]) (v:=u) (by simp)
        simp only [List.length_cons,List.length_append,List.length_nil] at hl
        exact ⟨by show u.deep ≤ 12;omega,by show u.out.length ≤ 400;omega⟩
      ·cases e
theorem fm (hw : SchW ts) : ∀ {p : List Int} {k : adE} {v : V} {k' : adE} {v' : V},OfK ts k v → aB ts k = true → (∀ n ∈ p,0 ≤ n) → bD ts k v p = some (k',v') → v.deep ≤ 12 → v.out.length ≤ 400 → v'.deep ≤ 12 ∧ v'.out.length ≤ 400
 | [],k,v,k',v',h,hk,_,e,hd,hl=>by
  simp only [bD,Option.some.injEq,Prod.mk.injEq] at e
  obtain ⟨rfl,rfl⟩:=e
  exact ⟨hd,hl⟩
 | n :: p,k,v,k',v',h,hk,hp,e,hd,hl=>by
  unfold bD at e
  cases hs : bw ts k v n with
  | none=>rw [hs] at e;cases e
  | some x =>
   rw [hs] at e
   obtain ⟨k1,v1⟩:=x
   obtain ⟨h1,h2⟩:=gI hw h hk (hp n (by simp)) hs
   obtain ⟨h3,h4⟩:=uW hw h hk (hp n (by simp)) hs hd hl
   exact fm hw h1 h2 (fun m hm=>hp m (by simp [hm])) e h3 h4
def a9 (q : List Int) : adE:=aO 47 (q.map a8)
theorem wy {n : Int} (h : 0 ≤ n) : fJ 47 (a8 n):=fun c hc=>by
 have:=vx ((g0 _ (Nat.le_refl _) h).2 c hc)
 omega
theorem nR : ∀ {xs : List adE} {p : List Int},cj xs = some p → xs = p.map a8 ∧ ∀ n ∈ p,0 ≤ n ∧ n ≤ 999999
 | [],p,h=>by simp only [cj,Option.some.injEq] at h;subst h;simp
 | x :: xs,p,h=>by
  unfold cj at h
  cases hn : aM x 999999 with
  | none=>rw [hn] at h;cases h
  | some n =>
   rw [hn] at h
   dsimp only at h
   cases hs : cj xs with
   | none=>rw [hs] at h;cases h
   | some q =>
    rw [hs] at h
    simp only [Option.map_some,Option.some.injEq] at h
    subst h
    obtain ⟨h1,h2⟩:=nR hs
    refine ⟨by rw [List.map_cons,← h1,← (dE hn).2.1],fun m hm=>?_⟩
    rcases List.mem_cons.1 hm with rfl | hm
    ·exact ⟨ke hn,(dE hn).1⟩
    ·exact h2 m hm
theorem ph : ∀ {p : List Int},(∀ n ∈ p,0 ≤ n ∧ n ≤ 999999) → cj (p.map a8) = some p
 | [],_=>rfl
 | n :: p,h=>by
  have h1:=h n (by simp)
  rw [List.map_cons,cj,jl h1.1 h1.2 dC]
  dsimp only
  rw [ph fun m hm=>h m (by simp [hm])];rfl
theorem od {s : adE} {q : List Int} (h : cJ s = some q) : s = a9 q ∧ q.length ≤ 8 ∧ (∀ n ∈ q,0 ≤ n ∧ n ≤ 999999) ∧ (s = [] ↔ q = []):=by
 unfold cJ at h
 split at h
 ·rename_i hs
  simp only [Option.some.injEq] at h;subst h
  exact ⟨by rw [hs];rfl,by simp,by simp,by simp [hs]⟩
 ·rename_i hs
  split at h
  ·rename_i q' hq
   split at h
   ·rename_i h8
    simp only [Option.some.injEq] at h;subst h
    obtain ⟨h1,h2⟩:=nR hq
    have h3:=l8 47 s
    have h4 : (47 : UInt8).toNat = 47:=rfl
    rw [h4,h1] at h3
    refine ⟨h3.symm,h8,h2,fun h=>absurd h hs,fun h=>?_⟩
    rw [h] at h3
    exact h3.symm
   ·cases h
  ·cases h
theorem oc {q : List Int} (h : q ≠ []) : a9 q ≠ []:=by
 cases q with
 | nil=>exact absurd F h
 | cons n q =>
  have:=fE n
  unfold a9
  intro e
  have e2:=congrArg List.length e
  cases q with
  | nil=>simp [aO] at e2;rw [e2] at this;simp at this
  | cons m q=>simp [aO] at e2
theorem v5 {q : List Int} (h : ∀ n ∈ q,0 ≤ n ∧ n ≤ 999999) : cJ (a9 q) = if q.length ≤ 8 then some q else none:=by
 by_cases hq : q = []
 ·subst hq;rfl
 ·unfold cJ
  rw [if_neg (oc hq)]
  have h1 : aY 47 (a9 q) = q.map a8:=lU (c:=47) (by simpa using hq) fun x hx=>by
   obtain ⟨n,hn,rfl⟩:=List.mem_map.1 hx
   exact wy (h n hn).1
  rw [h1,ph h]
theorem gB {n : Int} {q : List Int} (h : q ≠ []) : a9 (n :: q) = a8 n ++ 47 :: a9 q:=by
 cases q with
 | nil=>exact absurd F h
 | cons m q=>rfl
theorem m1 : ∀ {p q : List Int},p ≠ [] → q ≠ [] → a9 (p ++ q) = a9 p ++ 47 :: a9 q
 | [],_,h,_=>absurd rfl h
 | [n],q,_,hq=>by rw [List.singleton_append,gB hq];rfl
 | n :: m :: p,q,_,hq=>by
  rw [List.cons_append,gB (n:=n) (q:=m :: p ++ q) (by simp),m1 (p:=m :: p) (by simp) hq,gB (n:=n) (q:=m :: p) (by simp)]
  simp
def en (w : Nat) (t : Int) (i : Nat) (v : V) : Int:=if w = 85 then t else if w = 82 then v.tag else (i : Int)
mutual
def V.leaves : V → List (List Int)
 | .nd w _ t ks=>if cN w ks.isEmpty = true then [[]] else if w = 61 then V.leavesF ks else V.leavesS ks w t 0
def V.leavesF : List V → List (List Int)
 | []=>[]
 | v :: r=>V.leaves v ++ V.leavesF r
def V.leavesS : List V → Nat → Int → Nat → List (List Int)
 | [],_,_,_=>[]
 | v :: r,w,t,i=>(V.leaves v).map (en w t i v :: ·) ++ V.leavesS r w t (i + 1)
end
mutual
theorem iN : ∀ v : V,v.size = v.leaves.length
 | .nd w x t ks=>by
  rw [V.size,V.leaves]
  split
  ·rfl
  ·split
   ·exact mP ks
   ·exact j7 ks w t 0
theorem mP : ∀ ks : List V,V.sizes ks = (V.leavesF ks).length
 | []=>by rw [V.sizes,V.leavesF];rfl
 | v :: r=>by rw [V.sizes,V.leavesF,List.length_append,iN v,mP r]
theorem j7 : ∀ (ks : List V) (w : Nat) (t : Int) (i : Nat),V.sizes ks = (V.leavesS ks w t i).length
 | [],_,_,_=>by rw [V.sizes,V.leavesS];rfl
 | v :: r,w,t,i=>by rw [V.sizes,V.leavesS,List.length_append,List.length_map,iN v,j7 r w t (i + 1)]
end
theorem fO : ∀ {ks : List V} {w : Nat} {t : Int} {i : Nat} {p : List Int},p ∈ V.leavesS ks w t i → ∃ j q,j < ks.length ∧ p = en w t (i + j) (ae ks j) :: q ∧ q ∈ (ae ks j).leaves
 | [],_,_,_,_,h=>by rw [V.leavesS] at h;cases h
 | v :: r,w,t,i,p,h=>by
  rw [V.leavesS] at h
  rcases List.mem_append.1 h with h | h
  ·obtain ⟨q,hq,rfl⟩:=List.mem_map.1 h
   exact ⟨0,q,by simp,F,hq⟩
  ·obtain ⟨j,q,h1,h2,h3⟩:=fO h
   exact ⟨j + 1,q,by simp;omega,by rw [h2,show i + 1 + j = i + (j + 1) by omega];rfl,h3⟩
theorem xB {p : Fld × V} : (aV p).leaves = p.2.leaves:=by
 show V.leaves (.nd 61 [] p.1.tag [p.2]) = _
 rw [V.leaves,if_neg (by simp [cN]),if_pos rfl,V.leavesF,V.leavesF,List.append_nil]
theorem sv {b : Bool} : cN 82 b = false:=by cases b <;> rfl
theorem ss {b : Bool} : cN 91 b = false:=by cases b <;> rfl
theorem su {b : Bool} : cN 85 b = false:=by cases b <;> rfl
theorem qR {t : Ty} (hw : TyW t) : ∀ {fs : List (Fld × V)},(∀ p ∈ fs,p.1 ∈ t.fields) → (fs.Pairwise fun a b=>a.1.tag < b.1.tag) → ∀ {p : Fld × V},p ∈ fs → cT p.1 (fs.map aV) = some p.2
 | q :: fs,hf,hs,p,hp=>by
  rw [List.pairwise_cons] at hs
  rw [List.map_cons,cT]
  rcases List.mem_cons.1 hp with rfl | hp
  ·rw [if_pos (show (aV p).tag = p.1.tag from rfl)];rfl
  ·have:=hs.1 p hp
   rw [if_neg (show ¬ (aV q).tag = p.1.tag by show ¬ q.1.tag = p.1.tag;omega)]
   exact qR hw (fun r hr=>hf r (by simp [hr])) hs.2 hp
theorem rn (hw : SchW ts) {k : adE} {v : V} (h : OfK ts k v) : ∀ p ∈ v.leaves,(∀ n ∈ p,0 ≤ n ∧ n ≤ 999999) ∧ ∃ k' u,bD ts k v p = some (k',u) ∧ u.size = 1:=by
 have one : ∀ (k : adE) (w : Nat) (x : adE) (t : Int),cN w true = true → ∀ p ∈ (V.nd w x t []).leaves,(∀ n ∈ p,0 ≤ n ∧ n ≤ 999999) ∧ ∃ k' u,bD ts k (.nd w x t []) p = some (k',u) ∧ u.size = 1:=fun k w x t hl p hp=>by
  rw [V.leaves,if_pos (by simpa using hl)] at hp
  simp only [List.mem_singleton] at hp
  subst hp
  exact ⟨by simp,k,_,F,by rw [V.size,if_pos (by simpa using hl)]⟩
 induction h with
 | num k n h1 h2=>exact one _ _ _ _ F
 | txt k x h1=>exact one _ _ _ _ F
 | flg k x h1=>exact one _ _ _ _ F
 | lst k ks h1 h2 ih =>
  intro p hp
  rw [V.leaves,if_neg (by rw [ss];decide),if_neg dC] at hp
  obtain ⟨j,q,h3,rfl,h4⟩:=fO hp
  obtain ⟨g1,k',u,g2,g3⟩:=ih _ (bh h3) q h4
  have e1 : en 91 0 (0 + j) (ae ks j) = (j : Int):=by unfold en;rw [if_neg dC,if_neg dC];simp
  rw [e1]
  refine ⟨fun n hn=>?_,k',u,?_,g3⟩
  ·rcases List.mem_cons.1 hn with rfl | hn
   ·omega
   ·exact g1 n hn
  ·have hs : bw ts (91 :: k) (.nd 91 [] 0 ks) (j : Int) = some (k,ae ks j):=by
    unfold bw;dsimp only
    rw [if_pos (.inl rfl),V.kids,if_pos oM,Int.toNat_natCast]
   rw [f9 hs,g2]
 | non k=>exact one _ _ _ _ F
 | opt k v h1 ih =>
  intro p hp
  rw [V.leaves,if_neg (by simp [cN]),if_neg dC] at hp
  obtain ⟨j,q,h3,rfl,h4⟩:=fO hp
  obtain rfl : j = 0:=by simp at h3;omega
  obtain ⟨g1,k',u,g2,g3⟩:=ih q h4
  have e1 : en 63 0 (0 + 0) (ae [v] 0) = 0:=by unfold en;rw [if_neg dC,if_neg dC];simp
  rw [e1]
  refine ⟨fun n hn=>?_,k',u,?_,g3⟩
  ·rcases List.mem_cons.1 hn with rfl | hn
   ·omega
   ·exact g1 n hn
  ·have hs : bw ts (63 :: k) (.nd 63 [] 0 [v]) 0 = some (k,v):=by
    unfold bw;dsimp only
    rw [if_pos (.inr rfl),V.kids,if_pos (by simp)];rfl
   rw [f9 hs,g2]
 | recd k t fs h1 h2 h3 h4 h5 h6 ih =>
  intro p hp
  rw [V.leaves,if_neg (by rw [sv];decide),if_neg dC] at hp
  obtain ⟨j,q,h7,rfl,h8⟩:=fO hp
  have hW:=hw.ty t (bi h1)
  have hj : j < fs.length:=by simpa using h7
  have e0 : ae (fs.map aV) j = aV (ae fs j):=by rw [aI h7,aI hj];simp
  rw [e0,xB] at h8
  have hm:=bh hj
  obtain ⟨g1,k',u,g2,g3⟩:=ih _ hm q h8
  have ht:=(hW.fld _ (h3 _ hm)).tag
  have e1 : en 82 0 (0 + j) (ae (fs.map aV) j) = (ae fs j).1.tag:=by rw [e0];unfold en;rw [if_neg dC,if_pos rfl];rfl
  rw [e1]
  refine ⟨fun n hn=>?_,k',u,?_,g3⟩
  ·rcases List.mem_cons.1 hn with rfl | hn
   ·omega
   ·exact g1 n hn
  ·obtain ⟨r,rfl⟩:=lk h1
   have hs : bw ts (64 :: r) (.nd 82 [] 0 (fs.map aV)) (ae fs j).1.tag = some ((ae fs j).1.kind,(ae fs j).2):=by
    unfold bw;dsimp only
    rw [if_neg dC,h1]
    dsimp only
    rw [ga hW (h3 _ hm)]
    dsimp only
    rw [if_neg oM,if_pos h2]
    unfold fk
    rw [V.kids,qR hW h3 h6 hm];rfl
   rw [f9 hs,g2]
 | enm k t d h1 h2 h3=>exact one _ _ _ _ F
 | uni k t d v h1 h2 h3 h4 h5 ih =>
  intro p hp
  rw [V.leaves,if_neg (by rw [su];decide),if_neg dC] at hp
  obtain ⟨j,q,h7,rfl,h8⟩:=fO hp
  obtain rfl : j = 0:=by simp at h7;omega
  obtain ⟨g1,k',u,g2,g3⟩:=ih q h8
  have hW:=hw.ty t (bi h1)
  have ht:=(hW.fld _ h4).tag
  have e1 : en 85 d.tag (0 + 0) (ae [v] 0) = d.tag:=by unfold en;rw [if_pos rfl]
  rw [e1]
  refine ⟨fun n hn=>?_,k',u,?_,g3⟩
  ·rcases List.mem_cons.1 hn with rfl | hn
   ·omega
   ·exact g1 n hn
  ·obtain ⟨r,rfl⟩:=lk h1
   have hs : bw ts (64 :: r) (.nd 85 [] d.tag [v]) d.tag = some (d.kind,v):=by
    unfold bw;dsimp only
    rw [if_neg dC,h1]
    dsimp only
    rw [ga hW h4]
    dsimp only
    rw [if_neg h3,if_neg h2,V.tag,if_pos rfl];rfl
   rw [f9 hs,g2]
def okV (s k w : adE) : Bool:=(cW s k w).isSome
theorem oI {s k w p k1 x1 : adE} (h : dY s k w p = some (k1,x1)) : ∃ ts u q v1,aP s = some ts ∧ cW s k w = some u ∧ cJ p = some q ∧ bD ts k u q = some (k1,v1) ∧ x1 = v1.out:=by
 unfold dY at h
 split at h
 ·rename_i ts u q h1 h2 h3
  cases hf : bD ts k u q with
  | none=>rw [hf] at h;cases h
  | some y =>
   rw [hf] at h
   obtain ⟨k',v'⟩:=y
   simp only [Option.map_some,Option.some.injEq,Prod.mk.injEq] at h
   obtain ⟨rfl,rfl⟩:=h
   exact ⟨ts,u,q,v',h1,h2,h3,hf,F⟩
 ·cases h
theorem aaK {s k w p x k1 : adE} {ts : List Ty} {u v1 y : V} {q : List Int} (h1 : aP s = some ts) (h2 : cW s k w = some u) (h3 : cJ p = some q) (h4 : bD ts k u q = some (k1,v1)) (h5 : rd ts 12 k1 x = some (y,[])) (h6 : (dm ts k u q y).out.length ≤ 400 ∧ (dm ts k u q y).deep ≤ 12) : oJ s k w p x = some (dm ts k u q y).out:=by
 unfold oJ
 rw [h1,h2,h3]
 dsimp only
 rw [h4]
 dsimp only
 rw [h5]
 dsimp only
 rw [if_pos h6]
theorem xH {s k w : adE} {ts : List Ty} {u : V} (h1 : aP s = some ts) (h2 : aB ts k = true) (h3 : bV ts k w = some u) : cW s k w = some u:=by
 unfold cW
 rw [h1]
 dsimp only
 rw [if_pos h2,h3]
theorem aaE {ts : List Ty} (hw : SchW ts) {k : adE} {v : V} (h : OfK ts k v) (hd : v.deep ≤ 12) : rd ts 12 k v.out = some (v,[]):=by
 have:=lI hw 12 h hd [] lm
 rwa [List.append_nil] at this
theorem xw {s k w p k1 x1 : adE} (h : dY s k w p = some (k1,x1)) : okV s k1 x1 = true ∧ oJ s k w p x1 = some w:=by
 obtain ⟨ts,u,q,v1,h1,h2,h3,h4,rfl⟩:=oI h
 obtain ⟨ts',g1,g2,g3,g4,g5⟩:=eU h2
 obtain rfl : ts = ts':=Option.some.inj (h1.symm.trans g1)
 have hw:=b6 h1
 have ho:=gg g3
 obtain ⟨a1,a2,a3⟩:=mE g3
 obtain ⟨b1,b2,b3,b4⟩:=od h3
 have hq0 : ∀ n ∈ q,0 ≤ n:=fun n hn=>(b3 n hn).1
 obtain ⟨c1,c2⟩:=fC hw ho g2 hq0 h4
 obtain ⟨d1,d2⟩:=fm hw ho g2 hq0 h4 a3 (by rw [a1];exact a2)
 have hv:=iu hw c1 d2 d1
 refine ⟨by unfold okV;rw [xH h1 c2 hv];rfl,?_⟩
 have e:=(mC hw (x:=v1) (y:=v1) ho g2 hq0 h4 c1).2.1
 have:=aaK h1 h2 h3 h4 (aaE hw c1 d1) (by rw [e,a1];exact ⟨a2,a3⟩)
 rwa [e,a1] at this
def em (s k b p : adE) : Option adE:=match dM s k b with
 | some v=>match dY s k v.out p with
  | some y=>dN s y.1 y.2
  | none=>none
 | none=>none
theorem vg {s k b p : adE} {v : V} {ts : List Ty} {q : List Int} (h : dM s k b = some v) (hs : aP s = some ts) (hp : cJ p = some q) : em s k b p = (bD ts k v q).map fun y=>y.2.bys:=by
 obtain ⟨ts',hs',hk,hb,h1,h2,h3,h4⟩:=hC h
 obtain rfl : ts = ts':=by rw [hs] at hs';exact Option.some.inj hs'
 have hw:=b6 hs
 have hgv:=oH hs hk h1 h2 h3
 have hq:=(iX hp).2
 unfold em
 rw [h]
 dsimp only
 unfold dY
 rw [hs,hgv,hp]
 dsimp only
 cases hf : bD ts k v q with
 | none=>rfl
 | some y =>
  obtain ⟨k1,v1⟩:=y
  obtain ⟨g1,g2⟩:=fC hw h1 hk (fun n hn=>(hq n hn).1) hf
  obtain ⟨g3,g4⟩:=fm hw h1 hk (fun n hn=>(hq n hn).1) hf h2 h3
  have g5:=aae hw g1 oM
  show dN s k1 v1.out = some v1.bys
  rw [oi hs g2 g1 g3 g4,if_pos oM]
theorem ve {s k b p : adE} (h : cJ p = none) : em s k b p = none:=by
 unfold em
 cases dM s k b with
 | none=>rfl
 | some v =>
  dsimp only
  unfold dY
  rw [h]
  cases aP s <;> cases cW s k v.out <;> rfl
theorem tr {s k b p : adE} (h : s.length ≤ 1048576 ∧ k.length ≤ 1048576 ∧ b.length ≤ 1048576 ∧ p.length ≤ 1048576) : aG adD 17 [S s,S k,S b,S p] G (· = ob (em s k b p)):=by
 have cx_bg1:=k8 (G:=G) (s:=s) (k:=k) (b:=b) oM
 have cx_bc1:=rM (G:=G) (s:=s) (k:=k) (b:=b) oM
 unfold em
 cases hc : dM s k b with
 | none =>
  rw [hc] at cx_bc1
  dsimp only [Option.isSome] at cx_bc1 ⊢
  unfold ob at cx_bg1 ⊢
  cases hg : iD s k b with
  | none =>
   rw [hg] at cx_bg1
   dsimp only [Option.map,Option.getD,Option.isSome] at cx_bg1 ⊢
   refine jE [(0,_),(1,_),(2,_),(3,_)] Tryz.func17 Tryz.ntmps17 fun B hB=>?_
   repeat' (first | refine jR ?_ | (refine jo ?_;first | refine aK F ?_ | refine ac F F F cx_bg1 F ?_) | refine aA F F F ?_ | refine ab F F ?_)
   all_goals refine jY (vs:=[_,_]) ?_
   all_goals rfl
  | some v =>
   rw [hg] at cx_bg1
   dsimp only [Option.map,Option.getD,Option.isSome] at cx_bg1 ⊢
   generalize v.out = vo at cx_bg1
   refine jE [(0,_),(1,_),(2,_),(3,_)] Tryz.func17 Tryz.ntmps17 fun B hB=>?_
   repeat' (first | refine jR ?_ | (refine jo ?_;first | refine aw F ?_ | refine ac F F F cx_bg1 F ?_ | refine ac F F F cx_bc1 F ?_) | refine am F F F ?_ | refine ab F F ?_)
   all_goals refine jY (vs:=[_,_]) ?_
   all_goals rfl
 | some v =>
  obtain ⟨ts,hs,hk,hb,h1,h2,h3,h4⟩:=hC hc
  rw [hc] at cx_bc1
  rw [mc hc] at cx_bg1
  dsimp only [Option.isSome] at cx_bc1 ⊢
  unfold ob at cx_bg1 ⊢
  dsimp only [Option.map,Option.getD,Option.isSome] at cx_bg1
  have cx_pg1:=p9 (G:=G) (s:=s) (k:=k) (w:=v.out) (p:=p) oM
  unfold pgR at cx_pg1
  cases hp : dY s k v.out p with
  | none =>
   rw [hp] at cx_pg1
   dsimp only [Option.map,Option.getD,Option.isSome] at cx_pg1 ⊢
   clear hp h3 h4 h1 h2 hc
   generalize v.out = vo at cx_bg1 cx_pg1
   refine jE [(0,_),(1,_),(2,_),(3,_)] Tryz.func17 Tryz.ntmps17 fun B hB=>?_
   repeat' (first | refine jR ?_ | (refine jo ?_;first | refine aw F ?_ | refine ac F F F cx_bg1 F ?_ | refine ac F F F cx_bc1 F ?_ | refine ac F F F cx_pg1 F ?_) | refine am F F F ?_ | refine ab F F ?_ | refine ad F F ?_)
   all_goals refine jY (vs:=[_,_]) ?_
   all_goals rfl
  | some y =>
   obtain ⟨k1,x1⟩:=y
   rw [hp] at cx_pg1
   dsimp only [Option.map,Option.getD,Option.isSome] at cx_pg1
   obtain ⟨l1,l2⟩ : k1.length ≤ 1048576 ∧ x1.length ≤ 1048576:=by
    obtain ⟨ts',u,q,v1,e1,e2,e3,e4,rfl⟩:=oI hp
    have hok:=(xw hp).1
    have hw:=b6 e1
    obtain rfl : ts' = ts:=by rw [hs] at e1;exact (Option.some.inj e1).symm
    have hgv:=oH hs hk h1 h2 h3
    rw [hgv] at e2
    obtain rfl:=Option.some.inj e2
    obtain ⟨g1,g2⟩:=fC hw h1 hk (fun n hn=>((iX e3).2 n hn).1) e4
    obtain ⟨g3,g4⟩:=fm hw h1 hk (fun n hn=>((iX e3).2 n hn).1) e4 h2 h3
    have:=(cm (cE g2)).2
    exact ⟨oM,oM⟩
   have cx_bp1:=k7 (G:=G) (s:=s) (k:=k1) (w:=x1) ⟨h.1,l1,l2⟩
   clear hp h3 h4 h1 h2 hc
   generalize v.out = vo at cx_bg1 cx_pg1
   dsimp only
   generalize (dN s k1 x1).getD [] = r1 at *
   generalize (dN s k1 x1).isSome = r2 at *
   refine jE [(0,_),(1,_),(2,_),(3,_)] Tryz.func17 Tryz.ntmps17 fun B hB=>?_
   repeat' (first | refine jR ?_ | (refine jo ?_;first | refine aw F ?_ | refine ac F F F cx_bg1 F ?_ | refine ac F F F cx_bc1 F ?_ | refine ac F F F cx_pg1 F ?_ | refine ac F F F cx_bp1 F ?_) | refine am F F F ?_ | refine ad F F ?_)
   all_goals refine jY (vs:=[_,_]) ?_
   all_goals rfl
theorem tq {s k b p : adE} (h : s.length ≤ 1048576 ∧ k.length ≤ 1048576 ∧ b.length ≤ 1048576 ∧ p.length ≤ 1048576) : aG adD 18 [S s,S k,S b,S p] G (· = ob (em s k b p)):=by
 cases hg : k5 s k b with
 | none =>
  have cx_l50:=z0 (G:=G) (s:=s) (k:=k) (b:=b) oM hg
  have hno : em s k b p = none:=by unfold em;rw [ze hg]
  rw [hno]
  cases hpo : cJ p with
  | none =>
   have cx_sp:=oD h.2.2.2 hpo
   refine jB (Post:=fun v G' L'=>G' = G ∧ L' = [] ∧ _) [(0,_),(1,_),(2,_),(3,_)] Tryz.func18 Tryz.ntmps18 fun B hok hB hW=>?_
   repeat' (first | refine jR ?_ | (refine jo ?_;first | refine aK F ?_ | (refine aF F F F cx_l50 F ?_;rintro _ G hle ⟨u5,q5,rfl⟩;skip) | (refine aF F F F (cx_sp _) F ?_;rintro _ G hle ⟨sa,sc,sn,rfl,hsp⟩;skip)) | refine aA F F F ?_ | refine ab F F ?_)
   all_goals refine Nx.base hok hB ?_
   all_goals refine jY (vs:=[_,_]) ?_
   all_goals rfl
  | some q =>
   have cx_sp:=mK h.2.2.2 hpo
   refine jB (Post:=fun v G' L'=>G' = G ∧ L' = [] ∧ _) [(0,_),(1,_),(2,_),(3,_)] Tryz.func18 Tryz.ntmps18 fun B hok hB hW=>?_
   repeat' (first | refine jR ?_ | (refine jo ?_;first | refine aK F ?_ | (refine aF F F F cx_l50 F ?_;rintro _ G hle ⟨u5,q5,rfl⟩;skip) | (refine aF F F F (cx_sp _) F ?_;rintro _ G hle ⟨sa,sc,sn,rfl,hsp⟩;skip)) | refine aA F F F ?_ | refine ab F F ?_)
   all_goals refine Nx.base hok hB ?_
   all_goals refine jY (vs:=[_,_]) ?_
   all_goals rfl
 | some v =>
  obtain ⟨hwf,htot⟩:=zd hg
  have hl5:=zZ (G:=G) (s:=s) (k:=k) (b:=b) oM hg
  cases hpo : cJ p with
  | none =>
   rw [ve hpo]
   have cx_sp:=oD h.2.2.2 hpo
   refine jB (Post:=fun v G' L'=>G' = G ∧ L' = [] ∧ _) [(0,_),(1,_),(2,_),(3,_)] Tryz.func18 Tryz.ntmps18 fun B hok hB hW=>?_
   repeat' (refine jR ?_)
   refine jo ?_
   refine aF F F F hl5 F ?_
   rintro _ G2 hle2 ⟨a5,c5,vs5,wb5,rfl,hR5,hs5,hrep5⟩
   repeat' (first | refine jR ?_ | (refine jo ?_;first | refine aK F ?_ | refine aw F ?_ | (refine aF F F F (cx_sp _) F ?_;rintro _ G hle ⟨sa,sc,sn,rfl,hsp⟩;skip)) | refine aA F F F ?_ | refine am F F F ?_ | refine ab F F ?_)
   all_goals refine Nx.base hok hB ?_
   all_goals refine jY (vs:=[_,_]) ?_
   all_goals rfl
  | some q =>
   have hsp0:=mK h.2.2.2 hpo
   obtain ⟨hq8,hqn⟩:=iX hpo
   refine jB (Post:=fun v G' L'=>G' = G ∧ L' = [] ∧ _) [(0,_),(1,_),(2,_),(3,_)] Tryz.func18 Tryz.ntmps18 fun B hok hB hW=>?_
   repeat' (refine jR ?_)
   refine jo ?_
   refine aF F F F hl5 F ?_
   rintro _ G2 hle2 ⟨a5,c5,vs5,wb5,rfl,hR5,hs5,hrep5⟩
   repeat' (refine jR ?_)
   refine jo ?_
   refine aF F F F (hsp0 _) F ?_
   rintro _ G3 hle3 ⟨sa,sc,sn,rfl,rfl,hsp⟩
   have hw:=b6 hs5
   have hrep:=hrep5.mono hle3
   have hR:=hR5.mono hle3
   have cx_bys:=th hw hrep hwf oM
   clear hl5 hsp0
   by_cases hb : v.bys = b
   case neg =>
    have hno : em s k b p = none:=by unfold em;rw [pP hg,if_neg hb]
    rw [hno]
    clear hg hwf hrep hrep5 hno
    generalize v.bys = vb at cx_bys hb
    repeat' (first | refine jR ?_ | (refine jo ?_;first | refine aw F ?_ | refine ac F F F cx_bys F ?_) | refine am F F F ?_ | refine ab F (aD ‹_›) ?_)
    all_goals refine Nx.base hok hB ?_
    all_goals refine jY (vs:=[_,_]) ?_
    all_goals rfl
   have hc : dM s k b = some v:=by rw [pP hg,if_pos hb]
   obtain ⟨ts,hs,hk,hbl,h1,h2,h3,h4⟩:=hC hc
   obtain rfl : af vs5 = ts:=by rw [hs5] at hs;exact Option.some.inj hs
   rw [vg hc hs5 hpo]
   rw [hb] at cx_bys
   have hwk:=zH hR hw hsp hqn oM hrep h1 hk oM
   cases hfo : bD (af vs5) k v q with
   | none =>
    have cx_wan:=iS.no hwk hfo
    clear hg hwf hrep hrep5 h1 h2 h3 h4 hb hc hwk hR hR5
    repeat' (first | refine jR ?_ | (refine jo ?_;first | refine aw F ?_ | refine ac F F F cx_bys F ?_ | (refine aF F F F cx_wan F ?_;rintro _ G hle ⟨q1,rfl⟩;skip)) | refine am F F F ?_ | refine ab F F ?_ | (refine ad F ?_ ?_;(focus ((simp [*];done);done))))
    all_goals refine Nx.base hok hB ?_
    all_goals refine jY (vs:=[_,_]) ?_
    all_goals rfl
   | some y =>
    obtain ⟨k1,v1⟩:=y
    have cx_way:=iS.yes hwk hfo
    obtain ⟨g1,g2⟩:=fC hw h1 hk (fun n hn=>(hqn n hn).1) hfo
    obtain ⟨g3,g4⟩:=fm hw h1 hk (fun n hn=>(hqn n hn).1) hfo h2 h3
    have g5:=k6 hw h1 hk (fun n hn=>(hqn n hn).1) hfo (N:=60000) htot oM
    have hwf1:=(ou (iu hw g1 g4 g3)).1
    clear hg hwf hrep hrep5 h1 h2 h3 h4 hb hc hwk hR5
    repeat' (first | refine jR ?_ | (refine jo ?_;first | refine aw F ?_ | refine ac F F F cx_bys F ?_ | (refine aF F F F cx_way F ?_;rintro _ G hle ⟨b1,rfl,hrep1⟩;skip)) | refine am F F F ?_ | (refine ad F ?_ ?_;(focus ((first | rfl | (simp [*];done));done))))
    have cx_bys:=th hw hrep1 hwf1 oM
    simp only [Option.map_some]
    generalize v1.bys = vb at cx_bys ⊢
    repeat' (first | refine jR ?_ | (refine jo ?_;refine ac F F F cx_bys F ?_))
    all_goals refine Nx.base hok hB ?_
    all_goals refine jY (vs:=[_,_]) ?_
    all_goals rfl
def fU (q : List Int) (v : V) : List adE:=v.leaves.map fun r=>a9 (q ++ r)
def eS (q : List Int) (ks : List V) (w : Nat) (t : Int) : List adE:=(V.leavesS ks w t 0).map fun r=>a9 (q ++ r)
theorem m8 {w : Nat} {t : Int} {v : V} : ∀ {ks : List V} {i : Nat},V.leavesS (ks ++ [v]) w t i = V.leavesS ks w t i ++ v.leaves.map (en w t (i + ks.length) v :: ·)
 | [],i=>by rw [List.nil_append,V.leavesS,V.leavesS,V.leavesS];simp
 | u :: ks,i=>by rw [List.cons_append,V.leavesS,V.leavesS,m8,List.append_assoc,List.length_cons,show i + 1 + ks.length = i + (ks.length + 1) by omega]
theorem lS {q : List Int} {ks : List V} {v : V} {w : Nat} {t : Int} : eS q (ks ++ [v]) w t = eS q ks w t ++ fU (q ++ [en w t ks.length v]) v:=by
 unfold eS fU
 rw [m8,List.map_append,List.map_map,Nat.zero_add]
 congr 1
 refine List.map_congr_left fun r _=>?_
 simp
theorem jx {q : List Int} {w : Nat} {t : Int} : eS q [] w t = []:=by unfold eS;rw [V.leavesS];rfl
theorem oN {q : List Int} {w : Nat} {x : adE} {t : Int} (h : cN w true = true) : fU q (.nd w x t []) = [a9 q]:=by
 unfold fU
 rw [V.leaves,if_pos (c:=cN w ([] : List V).isEmpty = true) h]
 simp
theorem pI {q : List Int} {w : Nat} {x : adE} {t : Int} {ks : List V} (h : cN w ks.isEmpty = false) (h61 : w ≠ 61) : fU q (.nd w x t ks) = eS q ks w t:=by
 unfold fU eS
 rw [V.leaves,if_neg (by rw [h];simp),if_neg h61]
theorem yY {q : List Int} {t : Int} {v : V} : fU q (.nd 61 [] t [v]) = fU q v:=by
 unfold fU
 rw [V.leaves,if_neg (by simp [cN]),if_pos rfl,V.leavesF,V.leavesF,List.append_nil]
theorem nL {q : List Int} {ks : List V} {w : Nat} {t : Int} : (eS q ks w t).length = V.sizes ks:=by unfold eS;rw [List.length_map,j7 ks w t 0]
theorem uf {q : List Int} {v : V} : (fU q v).length = v.size:=by unfold fU;rw [List.length_map,iN]
theorem mQ {w : Nat} {x : adE} {t : Int} (h : cN w true = true) : V.size (.nd w x t []) = 1:=by rw [V.size,if_pos (c:=cN w ([] : List V).isEmpty = true) h]
theorem gx (v : V) : ∀ (ks : List V),V.sizes (ks ++ [v]) = V.sizes ks + v.size
 | []=>by simp [V.sizes]
 | u :: r=>by simp only [List.cons_append,V.sizes,gx v r];omega
mutual
theorem mO : ∀ v : V,v.size ≤ v.tot
 | .nd w x t ks=>by
  have:=eP ks
  rw [V.size,V.tot];split <;> omega
theorem eP : ∀ ks : List V,V.sizes ks ≤ V.tots ks
 | []=>by simp [V.sizes]
 | v :: r=>by
  have:=mO v
  have:=eP r
  rw [V.sizes,V.tots];omega
end
theorem se {n : Int} : a9 [n] = a8 n:=rfl
theorem kA {q : List Int} {n : Int} (h : q ≠ []) : a9 q ++ [47] ++ a8 n = a9 (q ++ [n]):=by
 rw [m1 h (by simp),se];simp
theorem f2 {q : List Int} : a9 q = [] ↔ q = []:=⟨fun h=>by
 cases q with
 | nil=>rfl
 | cons n q=>exact absurd h (oc (by simp)),fun h=>by rw [h];rfl⟩
theorem eJ : ∀ {q : List Int},(∀ n ∈ q,0 ≤ n ∧ n ≤ 999999) → (a9 q).length ≤ 7 * q.length
 | [],_=>by simp [a9,aO]
 | [n],h=>by
  have:=gz (h n (by simp)).2
  rw [se];simp only [List.length_cons,List.length_nil];omega
 | n :: m :: q,h=>by
  have h1:=gz (h n (by simp)).2
  have h2:=eJ (q:=m :: q) fun x hx=>h x (by simp [List.mem_cons] at hx ⊢;exact .inr hx)
  rw [gB (by simp)]
  simp only [List.length_append,List.length_cons] at h2 ⊢
  omega
theorem nF {q : List Int} {s : Int} (hq : ∀ n ∈ q,0 ≤ n ∧ n ≤ 999999) (h : 0 ≤ s ∧ s ≤ 999999) : ∀ n ∈ q ++ [s],0 ≤ n ∧ n ≤ 999999:=fun n hn=>by
 rcases List.mem_append.1 hn with hn | hn
 ·exact hq n hn
 ·simp only [List.mem_singleton] at hn;subst hn;exact h
abbrev mI : TypeId:=9
def LvC (G : Gh) (b : Nat) (v : V) : Prop:=∀ (q : List Int) (a : Option Addr) (m cap : Nat) (out : List adE),m = out.length → m + v.tot ≤ 100000 → (∀ n ∈ q,0 ≤ n ∧ n ≤ 999999) → q.length + v.tot ≤ 100000 →
 cM adD 115 [Pt b 0,S (a9 q),.slice a m cap] G [.acc (.slice a m cap) mI 1 m (ax bY out)]
  (fun r L'=>∃ a' cap',r = .slice a' (m + v.size) cap' ∧ L' = [.acc (.slice a' (m + v.size) cap') mI 1 (m + v.size) (ax bY (out ++ fU q v))])
theorem wJ {ts : List Ty} (hw : SchW ts) {v : V} {k : adE} {b : Nat} (h : RepR G ts v k b) : LvC G b v:=by
 induction h with
 | leaf w x k tx b h1 h2 =>
  intro q a m cap out hm hto hqn hql
  have hn82 : ¬ tx = [82]:=by
   rcases h2 with ⟨_,_,rfl,h⟩ | ⟨_,_,rfl⟩ | ⟨_,_,rfl,h⟩
   ·rintro rfl;exact absurd (h 82 (by simp)) dC
   ·simp
   ·rcases h with rfl | rfl <;> decide
  have hrow : ax bY out ++ [S (a9 q)] = ax bY (out ++ [a9 q]):=(b5 bY out (a9 q)).symm
  have key : cM adD 115 [Pt b 0,S (a9 q),.slice a m cap] G [.acc (.slice a m cap) mI 1 m (ax bY out)]
    (fun r L'=>∃ a' cap',r = .slice a' (m + 1) cap' ∧ L' = [.acc (.slice a' (m + 1) cap') mI 1 (m + 1) (ax bY (out ++ [a9 q]))]):=by
   rcases h2 with ⟨rfl,rfl,_⟩ | ⟨rfl,rfl,_⟩ | ⟨rfl,rfl,_⟩
   all_goals
    refine jH [(0,_),(1,_),(2,_)] Tryz.func115 Tryz.ntmps115 fun B hB hW=>?_
    repeat' (first | refine jX ?_ | (refine jo ?_;first | refine jV (an F F aS F F) ?_ | refine jV (ag F) ?_ | refine aw F ?_ | refine jF fun _=>?_ | refine ci F F F F F F F F F oM fun _ _=>?_) | (refine am F F (by first | rfl | (refine decide_eq_false ?_;(assumption))) ?_) | refine ab F F ?_ | refine ad F F ?_)
    rw [hrow]
    refine aR (vs:=[_]) F ⟨F,trivial⟩ F sB ⟨F,_,_,F,F⟩
  have hwl : cN w true = true:=by rcases h2 with ⟨rfl,_⟩ | ⟨rfl,_⟩ | ⟨rfl,_⟩ <;> rfl
  have hsz : V.size (.nd w x 0 []) = 1:=mQ hwl
  rw [hsz,oN hwl]
  exact key
 | lst k b ks bs a' c h1 h2 h3 hk ih =>
  intro q a m cap out hm hto hqn hql
  rw [br] at hto hql
  have hsz : V.size (.nd 91 [] 0 ks) = V.sizes ks:=by rw [V.size,if_neg (by unfold cN;simp)]
  have hst:=eP ks
  have hkl:=dq ks
  rw [hsz,pI (ss) dC]
  have hk0 : bt (91 :: k) (Int.toNat 0) = 91:=a6 91 k
  have hkl2 : (91 :: k).length = k.length + 1:=rfl
  by_cases hne : ks.length = 0
  ·obtain rfl : ks = []:=List.length_eq_zero_iff.1 hne
   rw [jx,List.append_nil]
   refine jH [(0,_),(1,_),(2,_)] Tryz.func115 Tryz.ntmps115 fun B hB hW=>?_
   repeat' (first | refine jM ?_ | (refine jo ?_;first | refine jV (an F F aS F F) ?_ | refine jV (ag F) ?_ | refine aK F ?_) | refine aA F F F ?_ | refine ab F F ?_)
   refine aR (vs:=[_]) F ⟨F,trivial⟩ F aZ ⟨F,_,_,F,F⟩
  obtain ⟨kb,ko,kc,e,hs⟩:=h2.expl oM
  simp only [Value.slice.injEq] at e
  obtain ⟨rfl,-,rfl⟩:=e
  refine jH [(0,_),(1,_),(2,_)] Tryz.func115 Tryz.ntmps115 fun B hB hW=>?_
  repeat' (first | refine jR ?_ | (refine jo ?_;first | refine jV (an F F aS F F) ?_ | refine jV (ag F) ?_) | refine ad F (aE oM) ?_)
  rw [show ax bY out = ax bY (out ++ eS q (ks.take 0) 91 0) by rw [List.take_zero,jx,List.append_nil]]
  refine aU (ι:=Nat × Option Addr × Nat) (fun i=>i.1 ≤ ks.length) (fun i=>[(0,Pt b 0),(1,S (a9 q)),(2,.slice i.2.1 (m + V.sizes (ks.take i.1)) i.2.2),(7,I i.1)]) (fun _=>G) (fun i=>[.acc (.slice i.2.1 (m + V.sizes (ks.take i.1)) i.2.2) mI 1 (m + V.sizes (ks.take i.1)) (ax bY (out ++ eS q (ks.take i.1) 91 0))]) (fun i=>ks.length - i.1) (0,a,cap) ?_ tU F aZ (fun i Hi=>?_)
  ·exact Nat.zero_le _
  obtain ⟨i,a,cap⟩:=i
  dsimp only at Hi ⊢
  by_cases hi : i < ks.length
  ·have hti:=eM (ks:=ks) hi
   have hsn : m + V.sizes (ks.take (i + 1)) = m + V.sizes (ks.take i) + (ae ks i).size:=by rw [cr oM,gx,Nat.add_assoc]
   have hls : out ++ eS q (ks.take (i + 1)) 91 0 = out ++ eS q (ks.take i) 91 0 ++ fU (q ++ [(i : Int)]) (ae ks i):=by rw [cr oM,lS,show en 91 0 (ks.take i).length (ae ks i) = (i : Int) by rw [List.length_take,Nat.min_eq_left oM];rfl,List.append_assoc]
   have hlen : m + V.sizes (ks.take i) = (out ++ eS q (ks.take i) 91 0).length:=by rw [List.length_append,nL,hm]
   have hs1:=eP (ks.take i)
   have htk:=eO ks i
   have htk1:=eO ks (i + 1)
   rw [cr (by (omega)),dW] at htk1
   simp only [V.tots] at htk1
   have hxi : ae bs i = ae bs i:=rfl
   have hpl:=eJ hqn
   have hq2 : ∀ n ∈ q ++ [(i : Int)],0 ≤ n ∧ n ≤ 999999:=nF hqn ⟨oM,oM⟩
   have hdl:=gz (hq2 (i : Int) (by simp)).2
   have cx_lv:=ih i hi (q ++ [(i : Int)]) a (m + V.sizes (ks.take i)) cap _ hlen oM hq2 (by simp only [List.length_append,List.length_singleton];omega)
   by_cases hq : q = []
   ·have hp : a9 q = []:=f2.2 hq
    rw [show a9 (q ++ [(i : Int)]) = a8 (i : Int) by rw [hq];rfl] at cx_lv
    clear hq
    repeat' (first | refine jM ?_ | (refine jo ?_;first | refine jV (an F F aS F F) ?_ | (refine jV (cZ F F aS ?_ aS F) ?_;focus omega) | refine jV (ag F) ?_ | refine jV (aq F F oM) ?_ | refine ac F F F (dp oM) F ?_ | (refine ip F F F cx_lv F ?_;rintro _ _ ⟨av,cv,rfl,rfl⟩;dsimp only [zA,fA])) | refine ab F (aD oM) ?_ | (refine ad F ?_ ?_;(focus ((first | rfl | (simp [*];done));done))))
    exact a7 (i + 1,av,cv) (by dsimp only;omega) (by dsimp only;omega) (by dsimp only;rw [hsn];repeat (first | exact trivial | refine ⟨F,?_⟩)) F (by dsimp only;rw [hsn,hls];repeat (exact List.Sublist.refl _))
   ·have hp : a9 q ≠ []:=fun h=>hq (f2.1 h)
    rw [← kA hq] at cx_lv
    clear hq
    repeat' (first | refine jX ?_ | (refine jo ?_;first | refine jV (an F F aS F F) ?_ | (refine jV (cZ F F aS ?_ aS F) ?_;focus omega) | refine jV (ag F) ?_ | refine jV (aq F F oM) ?_ | refine ac F F F (dp oM) F ?_ | (refine ip F F F cx_lv F ?_;rintro _ _ ⟨av,cv,rfl,rfl⟩;dsimp only [zA,fA])) | (refine ab F (by refine decide_eq_true ?_;first | assumption | omega) ?_) | refine ad F F ?_)
    exact a7 (i + 1,av,cv) (by dsimp only;omega) (by dsimp only;omega) (by dsimp only;rw [hsn];repeat (first | exact trivial | refine ⟨F,?_⟩)) F (by dsimp only;rw [hsn,hls];repeat (exact List.Sublist.refl _))
  ·obtain rfl : i = ks.length:=oM
   rw [show ks.take (ks.length) = ks from List.take_of_length_le oM]
   repeat' (first | refine jR ?_ | (refine jo ?_;first | refine jV (an F F aS F F) ?_ | refine jV (ag F) ?_) | refine ad F (aE oM) ?_)
   refine aR (vs:=[_]) F ⟨F,trivial⟩ F aZ ⟨F,_,_,F,F⟩
 | non k b h1 =>
  intro q a m cap out hm hto hqn hql
  have hk0 : bt (63 :: k) (Int.toNat 0) = 63:=a6 63 k
  have hkl2 : (63 :: k).length = k.length + 1:=rfl
  have hrow : ax bY out ++ [S (a9 q)] = ax bY (out ++ [a9 q]):=(b5 bY out (a9 q)).symm
  have hsz : V.size (.nd 63 [] 0 []) = 1:=mQ rfl
  rw [br] at hto hql
  rw [hsz,oN rfl]
  refine jH [(0,_),(1,_),(2,_)] Tryz.func115 Tryz.ntmps115 fun B hB hW=>?_
  repeat' (first | refine jM ?_ | (refine jo ?_;first | refine jV (an F F aS F F) ?_ | refine jV (ag F) ?_ | refine aw F ?_ | refine jF fun _=>?_ | refine ci F F F F F F F F F oM fun _ _=>?_) | refine am F F F ?_ | refine ab F F ?_ | refine ad F F ?_)
  rw [hrow]
  refine aR (vs:=[_]) F ⟨F,trivial⟩ F sB ⟨F,_,_,F,F⟩
 | opt k b kb b' cc v h0 h1 h2 h3 ih =>
  intro q a m cap out hm hto hqn hql
  simp only [br,V.tots] at hto hql
  have hk0 : bt (63 :: k) (Int.toNat 0) = 63:=a6 63 k
  have hkl2 : (63 :: k).length = k.length + 1:=rfl
  have hsz : V.size (.nd 63 [] 0 [v]) = V.sizes [v]:=by rw [V.size,if_neg (by unfold cN;simp)]
  rw [hsz,pI (by simp [cN]) dC]
  refine jH [(0,_),(1,_),(2,_)] Tryz.func115 Tryz.ntmps115 fun B hB hW=>?_
  repeat' (first | refine jR ?_ | (refine jo ?_;first | refine jV (an F F aS F F) ?_ | refine jV (ag F) ?_) | refine ad F F ?_)
  rw [show ax bY out = ax bY (out ++ eS q ([v].take 0) 63 0) by rw [List.take_zero,jx,List.append_nil]]
  refine aU (ι:=Nat × Option Addr × Nat) (fun i=>i.1 ≤ 1) (fun i=>[(0,Pt b 0),(1,S (a9 q)),(2,.slice i.2.1 (m + V.sizes ([v].take i.1)) i.2.2),(7,I i.1)]) (fun _=>G) (fun i=>[.acc (.slice i.2.1 (m + V.sizes ([v].take i.1)) i.2.2) mI 1 (m + V.sizes ([v].take i.1)) (ax bY (out ++ eS q ([v].take i.1) 63 0))]) (fun i=>1 - i.1) (0,a,cap) ?_ tU F aZ (fun i Hi=>?_)
  ·exact Nat.zero_le _
  obtain ⟨i,a,cap⟩:=i
  dsimp only at Hi ⊢
  by_cases hi : i < 1
  ·obtain rfl : i = 0:=oM
   have hsn : m + V.sizes ([v].take (0 + 1)) = m + V.sizes ([v].take 0) + (v).size:=by rw [cr oM,gx,show ae [v] 0 = v from rfl,Nat.add_assoc]
   have hls : out ++ eS q ([v].take (0 + 1)) 63 0 = out ++ eS q ([v].take 0) 63 0 ++ fU (q ++ [((0 : Nat) : Int)]) (v):=by rw [cr oM,lS,show en 63 0 (List.take 0 [v]).length (ae [v] 0) = ((0 : Nat) : Int) from rfl,show ae [v] 0 = v from rfl,List.append_assoc]
   have hlen : m + V.sizes ([v].take 0) = (out ++ eS q ([v].take 0) 63 0).length:=by rw [List.length_append,nL,hm]
   have hs1:=eP ([v].take 0)
   have htk:=eO [v] 0
   have htk1:=eO [v] (0 + 1)
   rw [cr (by (omega)),dW] at htk1
   simp only [V.tots] at htk1
   have hnv : (ae [v] 0).tot = v.tot:=rfl
   have htv : V.tots [v] = v.tot:=by simp [V.tots]
   have hpl:=eJ hqn
   have hq2 : ∀ n ∈ q ++ [((0 : Nat) : Int)],0 ≤ n ∧ n ≤ 999999:=nF hqn ⟨oM,oM⟩
   have hdl:=gz (hq2 ((0 : Nat) : Int) (by simp)).2
   have cx_lv:=ih (q ++ [((0 : Nat) : Int)]) a (m + V.sizes ([v].take 0)) cap _ hlen oM hq2 (by simp only [List.length_append,List.length_singleton];omega)
   by_cases hq : q = []
   ·have hp : a9 q = []:=f2.2 hq
    rw [show a9 (q ++ [((0 : Nat) : Int)]) = a8 ((0 : Nat) : Int) by rw [hq];rfl] at cx_lv
    clear hq
    repeat' (first | refine jM ?_ | (refine jo ?_;first | refine jV (an F F aS F F) ?_ | refine jV (ag F) ?_ | refine jV (aq F F oM) ?_ | refine ac F F F (dp oM) F ?_ | (refine ip F F F cx_lv F ?_;rintro _ _ ⟨av,cv,rfl,rfl⟩;dsimp only [zA,fA])) | refine ab F F ?_ | (refine ad F ?_ ?_;(focus ((first | rfl | (simp [*];done));done))))
    exact a7 (0 + 1,av,cv) (by dsimp only;omega) (by dsimp only;omega) (by dsimp only;rw [hsn];repeat (first | exact trivial | refine ⟨F,?_⟩)) F (by dsimp only;rw [hsn,hls];repeat (exact List.Sublist.refl _))
   ·have hp : a9 q ≠ []:=fun h=>hq (f2.1 h)
    rw [← kA hq] at cx_lv
    clear hq
    repeat' (first | refine jX ?_ | (refine jo ?_;first | refine jV (an F F aS F F) ?_ | refine jV (ag F) ?_ | refine jV (aq F F oM) ?_ | refine ac F F F (dp oM) F ?_ | (refine ip F F F cx_lv F ?_;rintro _ _ ⟨av,cv,rfl,rfl⟩;dsimp only [zA,fA])) | (refine ab F (by first | rfl | (refine decide_eq_true ?_;(assumption))) ?_) | refine ad F F ?_)
    exact a7 (0 + 1,av,cv) (by dsimp only;omega) (by dsimp only;omega) (by dsimp only;rw [hsn];repeat (first | exact trivial | refine ⟨F,?_⟩)) F (by dsimp only;rw [hsn,hls];repeat (exact List.Sublist.refl _))
  ·obtain rfl : i = 1:=oM
   rw [show [v].take (1) = [v] from List.take_of_length_le (by simp)]
   repeat' (first | refine jR ?_ | (refine jo ?_;first | refine jV (an F F aS F F) ?_ | refine jV (ag F) ?_) | refine ad F F ?_)
   refine aR (vs:=[_]) F ⟨F,trivial⟩ F aZ ⟨F,_,_,F,F⟩
 | recd k b t fs bs a1 a2 c c2 h0 h1 h2 h3 h4 h5 hk ih =>
  intro q a m cap out hm hto hqn hql
  obtain ⟨r,rfl⟩:=dv h0.1
  rw [br] at hto hql
  have hml : (fs.map (fun p : Fld × V=>V.nd 61 [] p.1.tag [p.2])).length = fs.length:=by simp
  have hnt : ∀ i,i < fs.length → ae (fs.map (fun p : Fld × V=>V.nd 61 [] p.1.tag [p.2])) i = V.nd 61 [] (ae fs i).1.tag [(ae fs i).2]:=fun i hi=>by rw [aI (by simpa using hi),aI hi];simp
  generalize hKS : fs.map (fun p : Fld × V=>V.nd 61 [] p.1.tag [p.2]) = KS at *
  have hsz : V.size (.nd 82 [] 0 KS) = V.sizes KS:=by rw [V.size,if_neg (by unfold cN;simp)]
  rw [hsz,pI sv dC]
  have hk0 : bt (64 :: r) (Int.toNat 0) = 64:=a6 64 r
  have hkl2 : (64 :: r).length = r.length + 1:=rfl
  have hst:=eP KS
  have hkl:=dq KS
  by_cases hne : fs.length = 0
  ·obtain rfl : KS = []:=List.length_eq_zero_iff.1 oM
   rw [jx,List.append_nil]
   refine jH [(0,_),(1,_),(2,_)] Tryz.func115 Tryz.ntmps115 fun B hB hW=>?_
   repeat' (first | refine jM ?_ | (refine jo ?_;first | refine jV (an F F aS F F) ?_ | refine jV (ag F) ?_ | refine aK F ?_ | refine aw F ?_) | refine aA F F F ?_ | refine am F F F ?_ | (refine ab F (by first | rfl | (refine decide_eq_true ?_;(omega))) ?_))
   refine aR (vs:=[_]) F ⟨F,trivial⟩ F aZ ⟨F,_,_,F,F⟩
  obtain ⟨kb,ko,kc,e,hs⟩:=h3.expl oM
  simp only [Value.slice.injEq] at e
  obtain ⟨rfl,-,rfl⟩:=e
  obtain ⟨tb2,to,tc,e,hts⟩:=h2.expl oM
  simp only [Value.slice.injEq] at e
  obtain ⟨rfl,-,rfl⟩:=e
  have hmt : (fs.map fun p : Fld × V=>p.1.tag).length = fs.length:=by simp
  have hnm : ∀ i,i < fs.length → ae (fs.map fun p : Fld × V=>p.1.tag) i = (ae fs i).1.tag:=fun i hi=>by rw [aI (by simpa using hi),aI hi];simp
  refine jH [(0,_),(1,_),(2,_)] Tryz.func115 Tryz.ntmps115 fun B hB hW=>?_
  repeat' (first | refine jR ?_ | (refine jo ?_;first | refine jV (an F F aS F F) ?_ | refine jV (ag F) ?_) | refine ad F (aE oM) ?_)
  rw [show ax bY out = ax bY (out ++ eS q (KS.take 0) 82 0) by rw [List.take_zero,jx,List.append_nil]]
  refine aU (ι:=Nat × Option Addr × Nat) (fun i=>i.1 ≤ fs.length) (fun i=>[(0,Pt b 0),(1,S (a9 q)),(2,.slice i.2.1 (m + V.sizes (KS.take i.1)) i.2.2),(7,I i.1)]) (fun _=>G) (fun i=>[.acc (.slice i.2.1 (m + V.sizes (KS.take i.1)) i.2.2) mI 1 (m + V.sizes (KS.take i.1)) (ax bY (out ++ eS q (KS.take i.1) 82 0))]) (fun i=>fs.length - i.1) (0,a,cap) ?_ tU F aZ (fun i Hi=>?_)
  ·exact Nat.zero_le _
  obtain ⟨i,a,cap⟩:=i
  dsimp only at Hi ⊢
  by_cases hi : i < fs.length
  ·have hti:=eM (ks:=KS) (i:=i) oM
   have hxt:=hnm i hi
   have hti2 : (ae KS i).tot = 20 + (ae fs i).2.tot:=by rw [hnt i hi];simp [br,V.tots]
   have hsk : (ae KS i).size = (ae fs i).2.size:=by rw [hnt i hi,V.size,if_neg (by unfold cN;simp),V.sizes,V.sizes];rfl
   have htg:=((hw.ty t (bi h0.1)).fld _ (h5 i hi)).tag
   have hsn : m + V.sizes (KS.take (i + 1)) = m + V.sizes (KS.take i) + ((ae fs i).2).size:=by rw [cr oM,gx,hsk,Nat.add_assoc]
   have hls : out ++ eS q (KS.take (i + 1)) 82 0 = out ++ eS q (KS.take i) 82 0 ++ fU (q ++ [(ae fs i).1.tag]) ((ae fs i).2):=by rw [cr oM,lS,show en 82 0 (KS.take i).length (ae KS i) = (ae fs i).1.tag by rw [hnt i hi];rfl,hnt i hi,yY,List.append_assoc]
   have hlen : m + V.sizes (KS.take i) = (out ++ eS q (KS.take i) 82 0).length:=by rw [List.length_append,nL,hm]
   have hs1:=eP (KS.take i)
   have htk:=eO KS i
   have htk1:=eO KS (i + 1)
   rw [cr (by (omega)),dW] at htk1
   simp only [V.tots] at htk1
   have hxi : ae bs i = ae bs i:=rfl
   have hpl:=eJ hqn
   have hq2 : ∀ n ∈ q ++ [(ae fs i).1.tag],0 ≤ n ∧ n ≤ 999999:=nF hqn ⟨oM,oM⟩
   have hdl:=gz (hq2 ((ae fs i).1.tag) (by simp)).2
   have cx_lv:=ih i hi (q ++ [(ae fs i).1.tag]) a (m + V.sizes (KS.take i)) cap _ hlen oM hq2 (by simp only [List.length_append,List.length_singleton];omega)
   by_cases hq : q = []
   ·have hp : a9 q = []:=f2.2 hq
    rw [show a9 (q ++ [(ae fs i).1.tag]) = a8 ((ae fs i).1.tag) by rw [hq];rfl] at cx_lv
    clear hq
    repeat' (first | refine jM ?_ | (refine jo ?_;first | refine jV (an F F aS F F) ?_ | (refine jV (cZ F F aS ?_ aS F) ?_;focus omega) | refine jV (ag F) ?_ | refine jV (aq F F oM) ?_ | refine ac F F F (dp oM) F ?_ | (refine ip F F F cx_lv F ?_;rintro _ _ ⟨av,cv,rfl,rfl⟩;dsimp only [zA,fA])) | (refine ab F (by first | rfl | (refine decide_eq_true ?_;(omega))) ?_) | (refine ad F ?_ ?_;(focus ((simp [*];done);done))))
    exact a7 (i + 1,av,cv) (by dsimp only;omega) (by dsimp only;omega) (by dsimp only;rw [hsn];repeat (first | exact trivial | refine ⟨F,?_⟩)) F (by dsimp only;rw [hsn,hls];repeat (exact List.Sublist.refl _))
   ·have hp : a9 q ≠ []:=fun h=>hq (f2.1 h)
    rw [← kA hq] at cx_lv
    clear hq
    repeat' (first | refine jX ?_ | (refine jo ?_;first | refine jV (an F F aS F F) ?_ | (refine jV (cZ F F aS ?_ aS F) ?_;focus omega) | refine jV (ag F) ?_ | refine jV (aq F F oM) ?_ | refine ac F F F (dp oM) F ?_ | (refine ip F F F cx_lv F ?_;rintro _ _ ⟨av,cv,rfl,rfl⟩;dsimp only [zA,fA])) | (refine ab F (by first | rfl | (refine decide_eq_true ?_;first | assumption | omega)) ?_))
    exact a7 (i + 1,av,cv) (by dsimp only;omega) (by dsimp only;omega) (by dsimp only;rw [hsn];repeat (first | exact trivial | refine ⟨F,?_⟩)) F (by dsimp only;rw [hsn,hls];repeat (exact List.Sublist.refl _))
  ·obtain rfl : i = fs.length:=oM
   rw [show KS.take (fs.length) = KS from List.take_of_length_le oM]
   repeat' (first | refine jR ?_ | (refine jo ?_;first | refine jV (an F F aS F F) ?_ | refine jV (ag F) ?_) | refine ad F (aE oM) ?_)
   refine aR (vs:=[_]) F ⟨F,trivial⟩ F aZ ⟨F,_,_,F,F⟩
 | enm k b tgb t d h0 h1 h2 h3 =>
  intro q a m cap out hm hto hqn hql
  obtain ⟨r,rfl⟩:=dv h0.1
  have hk0 : bt (64 :: r) (Int.toNat 0) = 64:=a6 64 r
  have hkl2 : (64 :: r).length = r.length + 1:=rfl
  have hrow : ax bY out ++ [S (a9 q)] = ax bY (out ++ [a9 q]):=(b5 bY out (a9 q)).symm
  have hsz : V.size (.nd 69 [] d.tag []) = 1:=mQ rfl
  rw [br] at hto hql
  rw [hsz,oN rfl]
  refine jH [(0,_),(1,_),(2,_)] Tryz.func115 Tryz.ntmps115 fun B hB hW=>?_
  repeat' (first | refine jM ?_ | (refine jo ?_;first | refine jV (an F F aS F F) ?_ | refine jV (ag F) ?_ | refine aw F ?_ | refine jF fun _=>?_ | refine ci F F F F F F F F F oM fun _ _=>?_) | refine am F F F ?_ | refine ab F F ?_ | refine ad F F ?_)
  rw [hrow]
  refine aR (vs:=[_]) F ⟨F,trivial⟩ F sB ⟨F,_,_,F,F⟩
 | uni k b tgb kb b' cc t d v hcc h0 h1 h2 h3 h4 hk ih =>
  intro q a m cap out hm hto hqn hql
  obtain ⟨r,rfl⟩:=dv h0.1
  simp only [br,V.tots] at hto hql
  have hk0 : bt (64 :: r) (Int.toNat 0) = 64:=a6 64 r
  have hkl2 : (64 :: r).length = r.length + 1:=rfl
  have htg:=((hw.ty t (bi h0.1)).fld _ h1).tag
  have hsz : V.size (.nd 85 [] d.tag [v]) = V.sizes [v]:=by rw [V.size,if_neg (by unfold cN;simp)]
  rw [hsz,pI su dC]
  refine jH [(0,_),(1,_),(2,_)] Tryz.func115 Tryz.ntmps115 fun B hB hW=>?_
  repeat' (first | refine jR ?_ | (refine jo ?_;first | refine jV (an F F aS F F) ?_ | refine jV (ag F) ?_) | refine ad F F ?_)
  rw [show ax bY out = ax bY (out ++ eS q ([v].take 0) 85 d.tag) by rw [List.take_zero,jx,List.append_nil]]
  refine aU (ι:=Nat × Option Addr × Nat) (fun i=>i.1 ≤ 1) (fun i=>[(0,Pt b 0),(1,S (a9 q)),(2,.slice i.2.1 (m + V.sizes ([v].take i.1)) i.2.2),(7,I i.1)]) (fun _=>G) (fun i=>[.acc (.slice i.2.1 (m + V.sizes ([v].take i.1)) i.2.2) mI 1 (m + V.sizes ([v].take i.1)) (ax bY (out ++ eS q ([v].take i.1) 85 d.tag))]) (fun i=>1 - i.1) (0,a,cap) ?_ tU F aZ (fun i Hi=>?_)
  ·exact Nat.zero_le _
  obtain ⟨i,a,cap⟩:=i
  dsimp only at Hi ⊢
  by_cases hi : i < 1
  ·obtain rfl : i = 0:=oM
   have hsn : m + V.sizes ([v].take (0 + 1)) = m + V.sizes ([v].take 0) + (v).size:=by rw [cr oM,gx,show ae [v] 0 = v from rfl,Nat.add_assoc]
   have hls : out ++ eS q ([v].take (0 + 1)) 85 d.tag = out ++ eS q ([v].take 0) 85 d.tag ++ fU (q ++ [d.tag]) (v):=by rw [cr oM,lS,show en 85 d.tag (List.take 0 [v]).length (ae [v] 0) = d.tag from rfl,show ae [v] 0 = v from rfl,List.append_assoc]
   have hlen : m + V.sizes ([v].take 0) = (out ++ eS q ([v].take 0) 85 d.tag).length:=by rw [List.length_append,nL,hm]
   have hs1:=eP ([v].take 0)
   have htk:=eO [v] 0
   have htk1:=eO [v] (0 + 1)
   rw [cr (by (omega)),dW] at htk1
   simp only [V.tots] at htk1
   have hnv : (ae [v] 0).tot = v.tot:=rfl
   have htv : V.tots [v] = v.tot:=by simp [V.tots]
   have hpl:=eJ hqn
   have hq2 : ∀ n ∈ q ++ [d.tag],0 ≤ n ∧ n ≤ 999999:=nF hqn ⟨oM,oM⟩
   have hdl:=gz (hq2 (d.tag) (by simp)).2
   have cx_lv:=ih (q ++ [d.tag]) a (m + V.sizes ([v].take 0)) cap _ hlen oM hq2 (by simp only [List.length_append,List.length_singleton];omega)
   by_cases hq : q = []
   ·have hp : a9 q = []:=f2.2 hq
    rw [show a9 (q ++ [d.tag]) = a8 (d.tag) by rw [hq];rfl] at cx_lv
    clear hq
    repeat' (first | refine jM ?_ | (refine jo ?_;first | refine jV (an F F aS F F) ?_ | refine jV (ag F) ?_ | refine jV (aq F F oM) ?_ | refine ac F F F (dp oM) F ?_ | (refine ip F F F cx_lv F ?_;rintro _ _ ⟨av,cv,rfl,rfl⟩;dsimp only [zA,fA])) | refine ab F F ?_ | (refine ad F ?_ ?_;(focus ((simp [*];done);done))))
    exact a7 (0 + 1,av,cv) (by dsimp only;omega) (by dsimp only;omega) (by dsimp only;rw [hsn];repeat (first | exact trivial | refine ⟨F,?_⟩)) F (by dsimp only;rw [hsn,hls];repeat (exact List.Sublist.refl _))
   ·have hp : a9 q ≠ []:=fun h=>hq (f2.1 h)
    rw [← kA hq] at cx_lv
    clear hq
    repeat' (first | refine jX ?_ | (refine jo ?_;first | refine jV (an F F aS F F) ?_ | refine jV (ag F) ?_ | refine jV (aq F F oM) ?_ | refine ac F F F (dp oM) F ?_ | (refine ip F F F cx_lv F ?_;rintro _ _ ⟨av,cv,rfl,rfl⟩;dsimp only [zA,fA])) | (refine ab F (by first | rfl | (refine decide_eq_true ?_;(assumption))) ?_))
    exact a7 (0 + 1,av,cv) (by dsimp only;omega) (by dsimp only;omega) (by dsimp only;rw [hsn];repeat (first | exact trivial | refine ⟨F,?_⟩)) F (by dsimp only;rw [hsn,hls];repeat (exact List.Sublist.refl _))
  ·obtain rfl : i = 1:=oM
   rw [show [v].take (1) = [v] from List.take_of_length_le (by simp)]
   repeat' (first | refine jR ?_ | (refine jo ?_;first | refine jV (an F F aS F F) ?_ | refine jV (ag F) ?_) | refine ad F F ?_)
   refine aR (vs:=[_]) F ⟨F,trivial⟩ F aZ ⟨F,_,_,F,F⟩
abbrev c8 : TypeId:=101
theorem xV {v : Value} {l : adE} (h : bq G v 1 l.length (bM l)) : cM adD 26 [v] G [] (fun v L'=>∃ b code l',v = Pt b 0 ∧ L' = [dV b code 0 c8] ∧ bq G code 1 l'.length (bM l') ∧ l'.length ≤ 2000):=by
 obtain ⟨h1,⟨rfl,h2⟩ | ⟨c,o,cap,rfl,h2,h3⟩⟩:=id h
 ·refine jH [(0,_)] Tryz.func26 Tryz.ntmps26 fun B hB hW=>?_
  repeat' (first | refine jR ?_ | (refine jo ?_;first | refine jV (ag F) ?_ | refine jV (ao F F) ?_ | refine jO fun _=>?_) | refine ad F F ?_)
  refine aR (vs:=[_]) F ⟨F,trivial⟩ F (List.Sublist.refl _) ⟨F,_,_,[],F,F,⟨by simp [bM],.inl ⟨F,F⟩⟩,by simp⟩
 ·refine jH [(0,_)] Tryz.func26 Tryz.ntmps26 fun B hB hW=>?_
  repeat' (first | refine jR ?_ | (refine jo ?_;first | refine jV (ag F) ?_ | refine jV (sF F F oM) ?_ | refine jV (ao F F) ?_ | refine jO fun _=>?_) | refine dJ F (fun _=>?_) (fun _=>?_))
  ·refine aR (vs:=[_]) F ⟨F,trivial⟩ F (List.Sublist.refl _) ⟨F,_,_,l.take 2000,F,F,?_,by simp;omega⟩
   have e : (l.take 2000).length = 2000:=by simp;omega
   rw [e]
   refine ⟨by simp [bM];omega,.inr ⟨c,o,cap,rfl,oM,?_⟩⟩
   have:=h3.take 2000
   simpa [bM] using this
  ·exact aR (vs:=[_]) F ⟨F,trivial⟩ F (List.Sublist.refl _) ⟨F,_,_,l,F,F,h,oM⟩
theorem cR {b : Nat} {code : Value} {p n : Int} {l : adE} (hp : 0 ≤ p ∧ p ≤ 1000000000000 ∧ n ≤ 1000000000000) (hs : bq G code 1 l.length (bM l)) :
  cM adD 28 [Pt b 0,I n] G [dV b code p c8] (fun v L'=>∃ k,v = I k ∧ L' = [dV b code (p + 1) c8] ∧ 0 ≤ k ∧ (k < n ∨ k = 0)):=by
 obtain ⟨h1,⟨rfl,h2⟩ | ⟨c,o,cap,rfl,h2,h3⟩⟩:=id hs
 ·refine jH [(0,_),(1,_)] Tryz.func28 Tryz.ntmps28 fun B hB hW=>?_
  repeat' (first | (refine run (t:=tb) 400 F ?_ ?_;(focus (repeat' (first | exact trivial | apply And.intro | omega)))) | (refine jo ?_;first | refine al F ?_ | refine jD F F F ?_ | refine jV (ag F) ?_ | refine aK F ?_ | refine aw F ?_) | refine eD F F (fun _=>?_) (fun _=>?_) | refine ab F F ?_)
  all_goals exact aR (vs:=[_]) F ⟨F,trivial⟩ F (List.Sublist.refl _) ⟨F,_,F,F,oM,oM⟩
 ·have b1:=mt l (p + 1 - 1).toNat
  have b2:=mt l ((p + 1 - 1) % (l.length : Int)).toNat
  have b3:=mt l (((p + 1 - 1) * 7 + 3) % (l.length : Int)).toNat
  have e1:=fun h=>Int.emod_nonneg (p + 1 - 1) (b:=(l.length : Int)) h
  have e2:=fun h=>Int.emod_lt_of_pos (p + 1 - 1) (b:=(l.length : Int)) h
  have e3:=fun h=>Int.emod_nonneg ((p + 1 - 1) * 7 + 3) (b:=(l.length : Int)) h
  have e4:=fun h=>Int.emod_lt_of_pos ((p + 1 - 1) * 7 + 3) (b:=(l.length : Int)) h
  have e5:=fun h=>Int.ediv_nonneg (a:=p + 1 - 1) (b:=(l.length : Int)) h oM
  have e6:=fun h=>Int.ediv_le_self (a:=p + 1 - 1) (l.length : Int) h
  refine jH [(0,_),(1,_)] Tryz.func28 Tryz.ntmps28 fun B hB hW=>?_
  repeat' (first | (refine run (t:=tb) 400 F ?_ ?_;(focus (repeat' (first | exact trivial | apply And.intro | omega)))) | (refine jo ?_;first | refine al F ?_ | (refine jV (vp F aS ?_) ?_;focus omega) | refine jD F F F ?_ | refine jV (ag F) ?_ | refine aK F ?_ | refine aw F ?_ | refine jV (aT F F oM) ?_ | refine jV (aaR F F oM) ?_) | refine eD F F (fun _=>?_) (fun _=>?_) | refine ab F F ?_ | refine dJ F (fun _=>?_) (fun _=>?_) | (refine ak (ar (id:=7) _ (fun _ h=>h) aj ?_);refine jU 24 [0,1,2,4,5,6,7,15,16,17,19,20,21,22,23,24,33,34,36,37,38,39] (aa 46 1056595214583) ?_ ?_;(focus (repeat' (first | exact trivial | apply And.intro | omega)));(refine jG (aa 46 1056595214591) 3 F (aC F F F) ?_);(refine jG (aa 46 1056595214847) 8 F (aC F F F) ?_);(refine jG (aa 46 1056595215359) 9 F (ag F) ?_);refine jU 20 [10] (aa 46 1056595216383) ?_ ?_;(focus (repeat' (first | exact trivial | apply And.intro | omega)));(refine jG (aa 46 1056595218431) 11 F (aT F F oM) ?_);((refine jG (aa 46 1056595222527) 12 F (vp F aS ?_) ?_;focus omega));refine jU 16 [13,14] (aa 46 1056595247103) ?_ ?_;(focus (repeat' (first | exact trivial | apply And.intro | omega)));(refine jG (aa 46 1056595509247) 18 F (aC F F F) ?_);(refine jG (aa 46 1056629063679) 25 F (aC F F F) ?_);(refine jG (aa 46 1056696172543) 26 F (ag F) ?_);refine jU 12 [27] (aa 46 1056830390271) ?_ ?_;(focus (repeat' (first | exact trivial | apply And.intro | omega)));(refine jG (aa 46 1057098825727) 28 F (aT F F oM) ?_);((refine jG (aa 46 1057635696639) 29 F (vp F aS ?_) ?_;focus omega));refine jU 6 [30,31,32,35] (aa 46 1099511627775) ?_ ?_;(focus (repeat' (first | exact trivial | apply And.intro | omega)));(refine jG (aa 46 2199023255551) 40 F (aC F F F) ?_);(refine jG (aa 46 4398046511103) 41 F (ag F) ?_);refine jU 0 [42,43,44,45] (aa 46 70368744177663) ?_ ?_;(focus (repeat' (first | exact trivial | apply And.intro | omega)));refine jQ ?_))
  all_goals (first | exact aR (vs:=[_]) F ⟨F,trivial⟩ F (List.Sublist.refl _) ⟨F,_,F,F,oM,oM⟩ | exact aR (vs:=[_]) F ⟨F,trivial⟩ F (List.Sublist.refl _) ⟨F,_,F,F,Int.emod_nonneg _ oM,.inl (Int.emod_lt_of_pos _ oM)⟩ | exact yH _ _)
theorem rE {r : Nat} {code : Value} {p : Int} {l : adE} (hp : 0 ≤ p ∧ p ≤ 900000000000) (hs : bq G code 1 l.length (bM l)) :
  cM adD 110 [Pt r 0] G [dV r code p c8] (fun v L'=>∃ x q,v = S x ∧ x.length ≤ 400 ∧ L' = [dV r code q c8] ∧ p ≤ q ∧ q ≤ p + 10):=by
 refine jH [(0,_)] Tryz.func110 Tryz.ntmps110 fun B hB hW=>?_
 repeat' (first | refine jR ?_ | (refine jo ?_;first | refine jF fun _=>?_ | refine jV (aT F F oM) ?_ | (refine eX 64 F F F ?_ F (fun xs hxs=>?_);(focus ((simp only [List.length_append,List.length_cons,List.length_nil,List.length_take];omega);done))) | (refine ai F F F (cR ?_ (by (repeat (assumption));done)) rfl ?_;(focus omega);rintro _ _ ⟨k,rfl,rfl,hk0,hk1⟩;dsimp only [zA,fA])))
 refine aU (ι:=adE × Int × Int) (fun j=>(0 ≤ j.2.1 ∧ j.2.1 ≤ 3) ∧ ((j.1.length : Nat) : Int) ≤ 64 * (4 - j.2.1) ∧ p ≤ j.2.2 ∧ j.2.2 ≤ p + 5 - j.2.1) (fun j=>[(0,Pt r 0),(3,S j.1),(4,I j.2.1)]) (fun _=>G) (fun j=>[dV r code j.2.2 c8]) (fun j=>j.2.1.toNat) (xs,k,p + 1 + 1) ?_ tU F sB (fun j Hj=>?_)
 ·dsimp only;omega
 obtain ⟨s,kk,q⟩:=j
 dsimp only at Hj ⊢
 obtain ⟨hk,hsl,hq0,hq1⟩:=Hj
 by_cases h1 : 1 < kk
 ·repeat' (first | refine jM ?_ | (refine jo ?_;first | refine jF fun _=>?_ | refine jV (aT F F oM) ?_ | (refine eX 64 F F F ?_ F (fun xs hxs=>?_);(focus ((simp only [List.length_append,List.length_cons,List.length_nil,List.length_take];omega);done))) | (refine ai F F F (cR ?_ (by (repeat (assumption));done)) rfl ?_;(focus omega);rintro _ _ ⟨k,rfl,rfl,hk0,hk1⟩;dsimp only [zA,fA])) | refine ab F (aD ‹_›) ?_)
  exact a7 (xs ++ s,kk - 1,q + 1) (by dsimp only;rw [List.length_append];omega) (by dsimp only;omega) tU rfl sB
 ·repeat' (first | refine jR ?_ | (refine jo ?_;first | refine jF fun _=>?_ | refine jV (aT F F oM) ?_ | (refine eX 64 F F F ?_ F (fun xs hxs=>?_);(focus ((simp only [List.length_append,List.length_cons,List.length_nil,List.length_take];omega);done))) | (refine ai F F F (cR ?_ (by (repeat (assumption));done)) rfl ?_;(focus omega);rintro _ _ ⟨k,rfl,rfl,hk0,hk1⟩;dsimp only [zA,fA])) | refine ad F (aE ‹_›) ?_ | refine dJ F (fun _=>?_) (fun _=>?_))
  all_goals exact aR (vs:=[_]) F ⟨F,trivial⟩ F sB ⟨F,_,_,F,oM,F,oM,oM⟩
theorem wL {r : Nat} {code : Value} {p : Int} {l : adE} (hp : 0 ≤ p ∧ p ≤ 900000000000) (hs : bq G code 1 l.length (bM l)) :
  cM adD 147 [Pt r 0] G [dV r code p c8] (fun v L'=>∃ x q,v = S (39 :: (x ++ [39])) ∧ x.length ≤ 64 ∧ L' = [dV r code q c8] ∧ p ≤ q ∧ q ≤ p + 10):=by
 refine jH [(0,_)] Tryz.func147 Tryz.ntmps147 fun B hB hW=>?_
 repeat' (first | refine jX ?_ | (refine jo ?_;first | refine jF fun _=>?_ | refine jV (aT F F oM) ?_ | (refine eX 64 F F F ?_ F (fun xs hxs=>?_);(focus ((simp only [List.length_append,List.length_cons,List.length_nil,List.length_take];omega);done))) | (refine ai F F F (cR ?_ (by (repeat (assumption));done)) rfl ?_;(focus omega);rintro _ _ ⟨k,rfl,rfl,hk0,hk1⟩;dsimp only [zA,fA])))
 exact aR (vs:=[_]) F ⟨F,trivial⟩ F sB ⟨F,xs,_,F,oM,F,oM,oM⟩
theorem vC {r : Nat} {code : Value} {p tag : Int} {l so nm : adE} (hp : 0 ≤ p ∧ p ≤ 800000000000) (hs : bq G code 1 l.length (bM l)) (ht : 0 ≤ tag ∧ tag ≤ 1000000) (hnm : nm.length ≤ 100) :
  cM adD 150 [Pt r 0,S so,I tag,S nm] G [dV r code p c8] (fun v L'=>∃ x q,v = S x ∧ x.length ≤ 1000 ∧ L' = [dV r code q c8] ∧ p ≤ q ∧ q ≤ p + 20):=by
 have hdl:=gR (n:=tag) oM
 refine jH [(0,_),(1,_),(2,_),(3,_)] Tryz.func150 Tryz.ntmps150 fun B hB hW=>?_
 repeat' (first | refine jX ?_ | (refine jo ?_;first | refine aK F ?_ | refine aw F ?_ | refine jF fun _=>?_ | refine jV (aT F F oM) ?_ | (refine eX 64 F F F ?_ F (fun xs hxs=>?_);(focus ((simp only [List.length_append,List.length_cons,List.length_nil,List.length_take];omega);done))) | refine ac F F F (dp oM) F ?_ | (refine ai F F F (rE ?_ (by (repeat (assumption));done)) rfl ?_;(focus omega);rintro _ _ ⟨kd,q1,rfl,hkd,rfl,hq1,hq2⟩;dsimp only [zA,fA]) | (refine ai F F F (cR ?_ (by (repeat (assumption));done)) rfl ?_;(focus omega);rintro _ _ ⟨k,rfl,rfl,hk0,hk1⟩;dsimp only [zA,fA])) | refine eD F F (fun _=>?_) (fun _=>?_) | refine ad F F ?_ | refine dJ F (fun _=>?_) (fun _=>?_))
 all_goals exact aR (vs:=[_]) F ⟨F,trivial⟩ F sB ⟨F,_,_,F,by simp only [List.length_append,List.length_cons,List.length_nil];omega,rfl,oM,oM⟩
theorem wK {r : Nat} {code : Value} {p : Int} {l so nm : adE} (hp : 0 ≤ p ∧ p ≤ 700000000000) (hs : bq G code 1 l.length (bM l)) (hso : so.length ≤ 64) (hnm : nm.length ≤ 64) :
  cM adD 109 [Pt r 0,S so,S nm] G [dV r code p c8] (fun v L'=>∃ x q,v = S x ∧ x.length ≤ 6000 ∧ 1 ≤ x.length ∧ L' = [dV r code q c8] ∧ p ≤ q ∧ q ≤ p + 200):=by
 refine jH [(0,_),(1,_),(2,_)] Tryz.func109 Tryz.ntmps109 fun B hB hW=>?_
 repeat' (first | refine jX ?_ | (refine jo ?_;first | refine aK F ?_ | refine aw F ?_ | (refine ai F F F (cR ?_ (by (repeat (assumption));done)) rfl ?_;(focus omega);rintro _ _ ⟨k,rfl,rfl,hk0,hk1⟩;dsimp only [zA,fA])) | refine eD F F (fun _=>?_) (fun _=>?_) | refine ad F F ?_ | refine dJ F (fun _=>?_) (fun _=>?_))
 all_goals
  have cx_pk2 : ∀ {p : Int},0 ≤ p ∧ p ≤ 1000000000000 → cM adD 28 [Pt r 0,I 2] G [dV r code p c8] (fun v L'=>L' = [dV r code (p + 1) c8] ∧ (v = I 0 ∨ v = I 1)):=fun {p} hp=>(cR (b:=r) (p:=p) (n:=2) ⟨hp.1,hp.2,by decide⟩ hs).mono fun v G' L' ⟨h1,k,h2,h3,h4,h5⟩=>⟨h1,h3,by subst h2;rcases (show k = 0 ∨ k = 1 by omega) with rfl | rfl;exact .inl F;exact .inr F⟩
  refine aU (ι:=adE × Int × Int × Int × Int) (fun j=>(0 ≤ j.2.2.1 ∧ j.2.2.1 ≤ j.2.2.2.1 ∧ j.2.2.2.1 ≤ 4) ∧ (0 ≤ j.2.1 ∧ j.2.1 ≤ 10 * j.2.2.1) ∧ (1 ≤ j.1.length ∧ ((j.1.length : Nat) : Int) ≤ 200 + 1001 * j.2.2.1) ∧ p ≤ j.2.2.2.2 ∧ j.2.2.2.2 ≤ p + 4 + 30 * j.2.2.1) (fun j=>[(0,Pt r 0),(1,S so),(7,S j.1),(8,I j.2.1),(9,I j.2.2.2.1),(10,I j.2.2.1)]) (fun _=>G) (fun j=>[dV r code j.2.2.2.2 c8]) (fun j=>(j.2.2.2.1 - j.2.2.1).toNat) (so ++ nm ++ [61],0,0,_,_) ?_ tU F aZ (fun j Hj=>?_)
  ·dsimp only;simp only [List.length_append,List.length_cons,List.length_nil];omega
  obtain ⟨s,tag,kk,n,q⟩:=j
  dsimp only at Hj ⊢
  obtain ⟨hk,htg,hsl,hq0,hq1⟩:=Hj
  by_cases h1 : kk < n
  ·repeat' (first | refine jX ?_ | (refine jo ?_;first | refine jF fun _=>?_ | refine jV (dU F F (by (repeat (first | exact BL.nil | apply BL.cons));done)) ?_ | (refine ai F F F (cx_pk2 oM) F ?_;rintro _ _ ⟨rfl,rfl | rfl⟩ <;> dsimp only [zA,fA]) | (refine ai F F F (cR ?_ (by (repeat (assumption));done)) rfl ?_;(focus omega);rintro _ _ ⟨k,rfl,rfl,hk0,hk1⟩;dsimp only [zA,fA]) | (refine ai F F F (vC ?_ (by (repeat (assumption));done) ?_ ?_) rfl ?_;(focus omega);(focus omega);(focus ((simp;done);done));rintro _ _ ⟨fd,q1,rfl,hfd,rfl,hq1,hq2⟩;dsimp only [zA,fA])) | refine ab F (aD ‹_›) ?_ | refine dJ F (fun _=>?_) (fun _=>?_))
   all_goals (refine a7 (_,_,kk + 1,n,_) ?_ ?_ tU F sB)
   all_goals (first | (dsimp only;simp only [List.length_append,List.length_cons,List.length_nil];omega) | (dsimp only;omega))
  ·repeat' (first | refine jX ?_ | refine ad F (aE ‹_›) ?_)
   exact aR (vs:=[_]) F ⟨F,trivial⟩ F aZ ⟨F,_,_,F,by simp only [List.length_append,List.length_cons,List.length_nil];omega,by simp only [List.length_append,List.length_cons,List.length_nil];omega,rfl,oM,oM⟩
def e7 (u : Value) (vs : List bU) (k : adE) (deep cp : Int) (ct : Nat) : Prop:=∀ (G : Gh) (r : Nat) (code : Value) (p : Int) (l : adE),SchR G u vs → bq G code 1 l.length (bM l) → 0 ≤ p ∧ p + cp ≤ 600000000000 →
 dD adD 103 [Pt r 0,u,S k,I deep] G [dV r code p c8] (fun v G' L'=>∃ w b q,v = Pt b 0 ∧ RepR G' (af vs) w k b ∧ w.tot ≤ ct ∧ 1 ≤ w.out.length ∧ L' = [dV r code q c8] ∧ p ≤ q ∧ q ≤ p + cp)
theorem e7.le {u : Value} {vs : List bU} {k : adE} {deep cp cp' : Int} {ct ct' : Nat} (h : e7 u vs k deep cp ct) (h1 : cp ≤ cp') (h2 : ct ≤ ct') : e7 u vs k deep cp' ct':=fun G r code p l h3 h4 h5 =>
 (h G r code p l h3 h4 ⟨h5.1,oM⟩).mono fun _ _ _ ⟨h6,w,b,q,h7,h8,h9,h10,h11,h12,h13⟩=>⟨h6,w,b,q,h7,h8,oM,h10,h11,h12,oM⟩
theorem qE {u : Value} {vs : List bU} {deep : Int} : e7 u vs [102] deep 15 200:=by
 intro G r code p l hR hs hp
 have cx_pk2 : ∀ {p : Int},0 ≤ p ∧ p ≤ 1000000000000 → cM adD 28 [Pt r 0,I 2] G [dV r code p c8] (fun v L'=>L' = [dV r code (p + 1) c8] ∧ (v = I 0 ∨ v = I 1)):=fun {p} hp=>(cR (b:=r) (p:=p) (n:=2) ⟨hp.1,hp.2,by decide⟩ hs).mono fun v G' L' ⟨h1,k,h2,h3,h4,h5⟩=>⟨h1,h3,by subst h2;rcases (show k = 0 ∨ k = 1 by omega) with rfl | rfl;exact .inl F;exact .inr F⟩
 refine bT [(0,_),(1,_),(2,_),(3,_)] Tryz.func103 kR Tryz.ntmps103 F F tU fun B hB hW=>?_
 repeat' (first | refine jX ?_ | (refine jo ?_;first | refine jV (ao F F) ?_ | refine jO fun _=>?_ | refine jF fun _=>?_ | refine jV (aT F F oM) ?_ | refine al F ?_ | refine jD F F F ?_ | (refine ai F F F (cx_pk2 oM) F ?_;rintro _ _ ⟨rfl,rfl | rfl⟩ <;> dsimp only [zA,fA])) | refine ab F F ?_ | refine ad F F ?_)
 all_goals rename_i y _
 all_goals refine Nx.sealC (b:=y) fun G2 hG2 hsy=>?_
 ·exact aR (vs:=[_]) F ⟨F,trivial⟩ F sB ⟨hG2,.nd 102 [121,101,115] 0 [],y,_,F,.leaf 102 _ _ _ y hsy (.inr (.inr ⟨F,F,F,.inl F⟩)),by simp [br,V.tots],by rw [V.out];simp [cO],rfl,oM,oM⟩
 ·exact aR (vs:=[_]) F ⟨F,trivial⟩ F sB ⟨hG2,.nd 102 [110,111] 0 [],y,_,F,.leaf 102 _ _ _ y hsy (.inr (.inr ⟨F,F,F,.inr F⟩)),by simp [br,V.tots],by rw [V.out];simp [cO],rfl,oM,oM⟩
abbrev uU : TypeId:=60
theorem abm {m : Int} (h : 0 ≤ m) : ∀ c ∈ a8 m,bc c = true:=(g0 m.toNat (Nat.le_refl _) h).2
theorem sN {u : Value} {vs : List bU} {deep : Int} : e7 u vs [110] deep 15 200:=by
 intro G r code p l hR hs hp
 refine bT [(0,_),(1,_),(2,_),(3,_)] Tryz.func103 kR Tryz.ntmps103 F F tU fun B hB hW=>?_
 repeat' (first | refine jX ?_ | (refine jo ?_;first | refine jV (ao F F) ?_ | refine jO fun _=>?_ | refine jF fun _=>?_ | refine jV (aT F F oM) ?_ | (refine abG 999999 F F F ?_ ?_ (fun iz hz0 hz1=>?_);(focus ((simp only [List.length_append,List.length_cons,List.length_nil,List.length_take];omega);done));(focus ((repeat' (first | exact vl | refine tN ⟨oM,oM⟩ ?_));done))) | refine jD F F F ?_ | (refine ai F F F (cR ?_ (by (repeat (assumption));done)) rfl ?_;(focus omega);rintro _ _ ⟨k,rfl,rfl,hk0,hk1⟩;dsimp only [zA,fA]) | refine ac F F F (dp oM) F ?_) | refine ab F F ?_)
 rename_i y _ _ _ _
 have hdl:=gR (n:=iz) oM
 have hdp:=fE iz
 refine Nx.sealC (b:=y) fun G2 hG2 hsy=>?_
 exact aR (vs:=[_]) F ⟨F,trivial⟩ F sB ⟨hG2,.nd 110 (a8 iz) 0 [],y,_,F,.leaf 110 _ _ _ y hsy (.inl ⟨F,F,F,abm hz0⟩),by rw [br,V.tots];omega,by rw [V.out];exact hdp,F,oM,oM⟩
theorem sL {u : Value} {vs : List bU} {deep : Int} : e7 u vs [116] deep 15 200:=by
 intro G r code p l hR hs hp
 refine bT [(0,_),(1,_),(2,_),(3,_)] Tryz.func103 kR Tryz.ntmps103 F F tU fun B hB hW=>?_
 repeat' (first | refine jX ?_ | (refine jo ?_;first | refine jV (ao F F) ?_ | refine jO fun _=>?_ | refine jD F F F ?_ | (refine ai F F F (wL ?_ (by (repeat (assumption));done)) rfl ?_;(focus omega);rintro _ _ ⟨tx,q1,rfl,htx,rfl,hq1,hq2⟩;dsimp only [zA,fA])) | refine ab F F ?_ | refine ad F F ?_)
 rename_i y
 refine Nx.sealC (b:=y) fun G2 hG2 hsy=>?_
 exact aR (vs:=[_]) F ⟨F,trivial⟩ F aZ ⟨hG2,.nd 116 tx 0 [],y,_,F,.leaf 116 _ _ _ y hsy (.inr (.inl ⟨F,F,F⟩)),by rw [br,V.tots];omega,by rw [V.out];simp [cO],rfl,oM,oM⟩
theorem u9 {ts : List Ty} {k : adE} {ks : List V} {bs : List Nat} {w : V} {b : Nat} (hl : bs.length = ks.length) (h : ∀ i,i < ks.length → RepR G ts (ae ks i) k (ae bs i)) (hw : RepR G ts w k b) : ∀ i,i < (ks ++ [w]).length → RepR G ts (ae (ks ++ [w]) i) k (ae (bs ++ [b]) i):=fun i hi=>by
 by_cases h1 : i < ks.length
 ·have e1 : ae (ks ++ [w]) i = ae ks i:=by rw [aI hi,aI h1,List.getElem_append_left h1]
  have e2 : ae (bs ++ [b]) i = ae bs i:=by rw [aI (by simp;omega),aI oM,List.getElem_append_left oM]
  rw [e1,e2];exact h i h1
 ·have h2 : i = ks.length:=by simp at hi;omega
  have e1 : ae (ks ++ [w]) i = w:=by rw [aI hi];simp [h2]
  have e2 : ae (bs ++ [b]) i = b:=by rw [aI (by simp;omega)];simp [h2,hl]
  rw [e1,e2];exact hw
theorem qD {u : Value} {vs : List bU} {kd : adE} {deep cp : Int} {ct : Nat} (hcp : 0 ≤ cp ∧ cp ≤ 100000000) (hct : ct ≤ 100000000) (hD : 0 < deep → e7 u vs kd (deep - 1) cp ct) (hu : u.oneCell' = true) (hkl : kd.length ≤ 1000) (hd : -1000 ≤ deep ∧ deep ≤ 1000) : e7 u vs (91 :: kd) deep (3 * cp + 10) (3 * ct + 200):=by
 intro G r code p l hR hs hp
 have hkd0 : bt (91 :: kd) (Int.toNat 0) = 91:=a6 91 kd
 have hkl2 : (91 :: kd).length = kd.length + 1:=rfl
 refine bT [(0,_),(1,_),(2,_),(3,_)] Tryz.func103 kR Tryz.ntmps103 F F tU fun B hB hW=>?_
 repeat' (first | refine jM ?_ | (refine jo ?_;first | refine jV (ao F F) ?_ | refine jO fun _=>?_ | (refine ai F F F (cR ?_ (by (repeat (assumption));done)) rfl ?_;(focus omega);rintro _ _ ⟨k,rfl,rfl,hk0,hk1⟩;dsimp only [zA,fA])) | refine ab F F ?_ | refine ad F F ?_)
 rename_i y
 refine Nx.addNil uU 1 ?_
 refine aU (ι:=List V × List Nat × Option Addr × Nat × Int × Int × Gh) (fun j=>((j.2.1.length = j.1.length ∧ ∀ i,i < j.1.length → RepR j.2.2.2.2.2.2 (af vs) (ae j.1 i) kd (ae j.2.1 i)) ∧ Gh.le G j.2.2.2.2.2.2) ∧ (0 ≤ j.2.2.2.2.1 ∧ ((j.1.length : Nat) : Int) + j.2.2.2.2.1 ≤ 3) ∧ V.tots j.1 ≤ ct * j.1.length ∧ p ≤ j.2.2.2.2.2.1 ∧ j.2.2.2.2.2.1 ≤ p + 1 + cp * ((j.1.length : Nat) : Int)) (fun j=>[(0,Pt r 0),(1,u),(2,S (91 :: kd)),(3,I deep),(9,Pt y 0),(10,I j.2.2.2.2.1)]) (fun j=>j.2.2.2.2.2.2) (fun j=>[.acc (.slice j.2.2.1 j.1.length j.2.2.2.1) uU 1 j.1.length (ax eR j.2.1),dV r code j.2.2.2.2.2.1 c8,.blk y (.cells (List.toArray [S (91 :: kd),S [],aN,.slice j.2.2.1 j.1.length j.2.2.2.1]) qT (0,0))]) (fun j=>j.2.2.2.2.1.toNat) ([],[],none,0,k,p + 1,G) ?_ tU F aZ (fun j Hj=>?_)
 ·refine ⟨⟨⟨F,fun i hi=>absurd hi (by simp)⟩,Gh.le.refl _⟩,?_,?_,?_,?_⟩
  ·dsimp only;simp only [List.length_nil];omega
  ·simp [V.tots]
  ·dsimp only;omega
  ·dsimp only;simp
 obtain ⟨ks,bs,a,c,kk,q,Gq⟩:=j
 dsimp only at Hj ⊢
 obtain ⟨⟨⟨hbl,hreps⟩,hgq⟩,hk,htt,hq0,hq1⟩:=Hj
 have hcl : cp * ((ks.length : Nat) : Int) ≤ cp * 3:=Int.mul_le_mul_of_nonneg_left oM hcp.1
 have hcl0 : 0 ≤ cp * ((ks.length : Nat) : Int):=Int.mul_nonneg hcp.1 oM
 have htl : ct * ks.length ≤ ct * 3:=Nat.mul_le_mul_left _ oM
 by_cases hgo : 0 < kk ∧ 0 < deep
 ·obtain ⟨hk0,hd0⟩:=hgo
  have hcl3 : cp * ((ks.length : Nat) : Int) + cp ≤ cp * 3:=by
   have:=Int.mul_le_mul_of_nonneg_left (show ((ks.length : Nat) : Int) + 1 ≤ 3 by omega) hcp.1
   rwa [Int.mul_add,Int.mul_one] at this
  have cx_dv:=fun {p : Int} (hp : 0 ≤ p ∧ p + cp ≤ 600000000000)=>hD hd0 Gq r code p l (hR.mono hgq) (hs.mono hgq) hp
  repeat' (first | refine jR ?_ | (refine jo ?_;refine aK F ?_) | refine aA F F (aD ‹_›) ?_ | refine ab F (aD ‹_›) ?_)
  (refine ak (ar (id:=16) [] (fun _ h=>absurd h (by simp)) aj ?_);refine jW 7 [0,1,2,3,5,6,7,8,9,10] (aa 17 2031) ?_;refine cX [4,11] kR dC ⟨?_,?_,trivial⟩;(focus (refine bE F F ?_;(refine al F ?_);refine jK (aa 17 2047) ?_;refine jA 11 F ?_;((refine cY F F F (cx_dv ?_) F ?_;(focus omega);rintro _ G1 _ hle ⟨w1,b1,q1,rfl,hrep,htot,hone,rfl,hq1,hq2⟩;dsimp only [zA,fA];skip));refine jK (aa 17 4095) ?_;refine jA 12 F ?_;(refine jF fun _=>?_);refine jK (aa 17 8191) ?_;refine jA 13 F ?_;((refine ci F F F F F F F F F ?_ fun _ _=>?_;focus omega));refine jK (aa 17 16383) ?_;refine jW 1 [14,15] (aa 17 65535) ?_;refine jA 16 F ?_;(refine jD F F F ?_);refine jK (aa 17 131071) ?_;refine jQ ?_));rotate_left 1;(focus (refine bE F F ?_;((refine cY F F F (cx_dv ?_) F ?_;(focus omega);rintro _ G1 _ hle ⟨w1,b1,q1,rfl,hrep,htot,hone,rfl,hq1,hq2⟩;dsimp only [zA,fA];skip));refine jK (aa 17 4079) ?_;refine cX [4,12] kR dC ⟨?_,?_,trivial⟩;(focus (refine bE F F ?_;(refine al F ?_);refine jK (aa 17 4095) ?_;refine jA 12 F ?_;(refine jF fun _=>?_);refine jK (aa 17 8191) ?_;refine jA 13 F ?_;((refine ci F F F F F F F F F ?_ fun _ _=>?_;focus omega));refine jK (aa 17 16383) ?_;refine jW 1 [14,15] (aa 17 65535) ?_;refine jA 16 F ?_;(refine jD F F F ?_);refine jK (aa 17 131071) ?_;refine jQ ?_));rotate_left 1;(focus (refine bE F F ?_;(refine jF fun _=>?_);refine jK (aa 17 8175) ?_;refine jA 4 F ?_;(refine al F ?_);refine jK (aa 17 8191) ?_;refine jA 13 F ?_;((refine ci F F F F F F F F F ?_ fun _ _=>?_;focus omega));refine jK (aa 17 16383) ?_;refine jW 1 [14,15] (aa 17 65535) ?_;refine jA 16 F ?_;(refine jD F F F ?_);refine jK (aa 17 131071) ?_;refine jQ ?_));rotate_left 1));rotate_left 2)
  all_goals repeat' (refine jM ?_)
  all_goals
   rename_i _ y1 yc
   have hl1 : (ks ++ [w1]).length = ks.length + 1:=by simp
   have hms : ct * (ks.length + 1) = ct * ks.length + ct:=Nat.mul_succ _ _
   have hts : V.tots (ks ++ [w1]) = V.tots ks + w1.tot:=by simp [dW,V.tots]
   rw [show ax eR bs ++ [Pt b1 0] = ax eR (bs ++ [b1]) from (b5 eR bs b1).symm]
   exact a7 (ks ++ [w1],bs ++ [b1],some ⟨y1,0,none⟩,yc,kk - 1,q1,G1) ⟨⟨⟨by simp [hbl],u9 hbl (fun i hi=>(hreps i hi).mono hle) hrep⟩,hgq.trans hle⟩,by dsimp only;rw [hl1];omega,by dsimp only;rw [hl1,hms,hts];omega,by dsimp only;omega,by dsimp only;rw [hl1,Int.natCast_succ,Int.mul_add,Int.mul_one];omega⟩ (by dsimp only;omega) tU rfl (by rw [hl1];repeat (first | exact List.Sublist.refl _ | apply List.Sublist.cons_cons | apply List.Sublist.cons))
 ·have : kk = 0 ∨ deep ≤ 0:=oM
  repeat' (first | refine jR ?_ | (refine jo ?_;first | refine aK F ?_ | refine aw F ?_) | refine eD F F (fun _=>?_) (fun _=>?_) | (refine ad F (by first | rfl | (refine decide_eq_false ?_;(omega))) ?_))
  all_goals
   refine Nx.sealS (v:=.slice a ks.length c) fun G2 hG2 hsl=>?_
   refine Nx.sealC (b:=y) fun G3 hG3 hsg=>?_
   exact aR (vs:=[_]) F ⟨F,trivial⟩ F aZ ⟨hgq.trans (hG2.trans hG3),.nd 91 [] 0 ks,y,q,F,.lst kd y ks bs a c hsg (hsl.mono hG3) hbl (fun i hi=>(hreps i hi).mono (hG2.trans hG3)),by rw [br];simp only [List.length_nil];omega,by rw [V.out];simp [cO],rfl,oM,oM⟩
theorem sM {u : Value} {vs : List bU} {kd : adE} {deep cp : Int} {ct : Nat} (hcp : 0 ≤ cp ∧ cp ≤ 100000000) (hct : ct ≤ 100000000) (hD : 0 < deep → e7 u vs kd (deep - 1) cp ct) (hu : u.oneCell' = true) (hkl : kd.length ≤ 1000) (hd : -1000 ≤ deep ∧ deep ≤ 1000) : e7 u vs (63 :: kd) deep (cp + 10) (ct + 200):=by
 intro G r code p l hR hs hp
 have hkd0 : bt (63 :: kd) (Int.toNat 0) = 63:=a6 63 kd
 have hkl2 : (63 :: kd).length = kd.length + 1:=rfl
 by_cases h0 : 0 < deep
 ·have cx_dv:=fun {p : Int} (hp : 0 ≤ p ∧ p + cp ≤ 600000000000)=>hD h0 G r code p l hR hs hp
  refine bT [(0,_),(1,_),(2,_),(3,_)] Tryz.func103 kR Tryz.ntmps103 F F tU fun B hB hW=>?_
  repeat' (first | refine jM ?_ | (refine jo ?_;first | refine jV (ao F F) ?_ | refine jO fun _=>?_ | refine aK F ?_ | (refine ai F F F (cR ?_ (by (repeat (assumption));done)) rfl ?_;(focus omega);rintro _ _ ⟨k,rfl,rfl,hk0,hk1⟩;dsimp only [zA,fA])) | refine aA F F (aD ‹_›) ?_ | refine ab F F ?_ | refine ad F F ?_ | refine dJ F (fun _=>?_) (fun _=>?_))
  ·refine Nx.addNil uU 1 ?_
   (refine ak (ar (id:=20) [] (fun _ h=>absurd h (by simp)) aj ?_);refine jW 7 [0,1,2,3,5,6,7,8,9,10] (aa 17 2031) ?_;refine cX [4,11] kR dC ⟨?_,?_,trivial⟩;(focus (refine bE F F ?_;(refine al F ?_);refine jK (aa 17 2047) ?_;refine jA 11 F ?_;((refine cY F F F (cx_dv ?_) F ?_;(focus omega);rintro _ G1 _ hle ⟨w1,b1,q1,rfl,hrep,htot,hone,rfl,hq1,hq2⟩;dsimp only [zA,fA];skip));refine jK (aa 17 4095) ?_;refine jA 12 F ?_;(refine jF fun _=>?_);refine jK (aa 17 8191) ?_;refine jA 13 F ?_;((refine ci F F F F F F F F F ?_ fun _ _=>?_;focus omega));refine jK (aa 17 16383) ?_;refine jW 1 [14,15] (aa 17 65535) ?_;refine jA 16 F ?_;(refine jD F F F ?_);refine jK (aa 17 131071) ?_;refine jQ ?_));rotate_left 1;(focus (refine bE F F ?_;((refine cY F F F (cx_dv ?_) F ?_;(focus omega);rintro _ G1 _ hle ⟨w1,b1,q1,rfl,hrep,htot,hone,rfl,hq1,hq2⟩;dsimp only [zA,fA];skip));refine jK (aa 17 4079) ?_;refine cX [4,12] kR dC ⟨?_,?_,trivial⟩;(focus (refine bE F F ?_;(refine al F ?_);refine jK (aa 17 4095) ?_;refine jA 12 F ?_;(refine jF fun _=>?_);refine jK (aa 17 8191) ?_;refine jA 13 F ?_;((refine ci F F F F F F F F F ?_ fun _ _=>?_;focus omega));refine jK (aa 17 16383) ?_;refine jW 1 [14,15] (aa 17 65535) ?_;refine jA 16 F ?_;(refine jD F F F ?_);refine jK (aa 17 131071) ?_;refine jQ ?_));rotate_left 1;(focus (refine bE F F ?_;(refine jF fun _=>?_);refine jK (aa 17 8175) ?_;refine jA 4 F ?_;(refine al F ?_);refine jK (aa 17 8191) ?_;refine jA 13 F ?_;((refine ci F F F F F F F F F ?_ fun _ _=>?_;focus omega));refine jK (aa 17 16383) ?_;refine jW 1 [14,15] (aa 17 65535) ?_;refine jA 16 F ?_;(refine jD F F F ?_);refine jK (aa 17 131071) ?_;refine jQ ?_));rotate_left 1));rotate_left 2)
   all_goals repeat' (refine jR ?_)
   all_goals
    rename_i y _ _ y1 yc
    refine Nx.sealS (v:=.slice (some ⟨y1,0,none⟩) (0 + 1) yc) fun G2 hG2 hsl=>?_
    refine Nx.sealC (b:=y) fun G3 hG3 hsg=>?_
    obtain ⟨_,⟨h,_⟩ | ⟨b2,o2,c2,e,hc2,hs2⟩⟩:=hsl
    ·cases h
    simp only [Value.slice.injEq,Option.some.injEq,Addr.mk.injEq,and_true] at e
    obtain ⟨⟨rfl,rfl⟩,-,rfl⟩:=e
    exact aR (vs:=[_]) F ⟨F,trivial⟩ F sB ⟨hle.trans (hG2.trans hG3),.nd 63 [] 0 [w1],y,q1,F,.opt kd y y1 b1 yc w1 oM hsg (hs2.mono hG3) (hrep.mono (hG2.trans hG3)),by simp only [br,V.tots,List.length_nil];omega,by rw [V.out];simp [cO],rfl,oM,oM⟩
  ·rename_i y _
   refine Nx.sealC (b:=y) fun G2 hG2 hsy=>?_
   exact aR (vs:=[_]) F ⟨F,trivial⟩ F aZ ⟨hG2,.nd 63 [] 0 [],y,_,F,.non kd y hsy,by simp [br,V.tots],by rw [V.out];simp [cO],rfl,oM,oM⟩
 ·refine bT [(0,_),(1,_),(2,_),(3,_)] Tryz.func103 kR Tryz.ntmps103 F F tU fun B hB hW=>?_
  repeat' (first | refine jM ?_ | (refine jo ?_;first | refine jV (ao F F) ?_ | refine jO fun _=>?_ | refine aw F ?_) | refine am F F (aE ‹_›) ?_ | refine ab F F ?_ | refine ad F F ?_)
  rename_i y
  refine Nx.sealC (b:=y) fun G2 hG2 hsy=>?_
  exact aR (vs:=[_]) F ⟨F,trivial⟩ F aZ ⟨hG2,.nd 63 [] 0 [],y,_,F,.non kd y hsy,by simp [br,V.tots],by rw [V.out];simp [cO],rfl,oM,oM⟩
abbrev oC : TypeId:=146
abbrev yg : TypeId:=60
abbrev yk : TypeId:=3
def qf (u : Value) (vs : List bU) (k : adE) (deep cp : Int) (ct : Nat) : Prop:=∀ (G : Gh) (r : Nat) (code : Value) (p : Int) (l : adE),SchR G u vs → bq G code 1 l.length (bM l) → 0 ≤ p ∧ p + cp ≤ 600000000000 →
 dD adD 148 [Pt r 0,u,S k,I deep] G [dV r code p c8] (fun v G' L'=>∃ w b q,v = Pt b 0 ∧ RepR G' (af vs) w k b ∧ w.tot ≤ ct ∧ 1 ≤ w.out.length ∧ L' = [dV r code q c8] ∧ p ≤ q ∧ q ≤ p + cp)
theorem sK {u : Value} {vs : List bU} {k : adE} {deep cp : Int} {ct : Nat} (hD : qf u vs (64 :: k) deep cp ct) (hkl : k.length ≤ 1000) : e7 u vs (64 :: k) deep cp ct:=by
 intro G r code p l hR hs hp
 have hkd0 : bt (64 :: k) (Int.toNat 0) = 64:=a6 64 k
 have hkl2 : (64 :: k).length = k.length + 1:=rfl
 have cx_dt:=fun {p : Int} (hp : 0 ≤ p ∧ p + cp ≤ 600000000000)=>hD G r code p l hR hs hp
 refine bT [(0,_),(1,_),(2,_),(3,_)] Tryz.func103 kR Tryz.ntmps103 F F tU fun B hB hW=>?_
 repeat' (first | refine jM ?_ | (refine jo ?_;first | refine jV (ao F F) ?_ | refine jO fun _=>?_ | (refine cY F F F (cx_dt ‹_›) F ?_;rintro _ G1 _ hle ⟨w1,b1,q1,rfl,hrep,htot,hone,rfl,hq1,hq2⟩;dsimp only [zA,fA];skip)) | refine ad F F ?_)
 exact aR (vs:=[_]) F ⟨F,trivial⟩ F sB ⟨hle,w1,b1,q1,F,hrep,htot,hone,F,hq1,hq2⟩
section
variable {u : Value} {vs : List bU} {kd nm : adE} {fs : List Fld} {a : Option Addr} {ca : Nat} {deep cp : Int} {ct : Nat}
theorem ww (hr : d8 vs kd = some ((a,ca),⟨69,nm,fs⟩)) (hvl : vs.length ≤ 1000000) (hk : d9 kd = true) (hkl : kd.length ≤ 1000) (h0 : 0 < fs.length) (h8 : fs.length ≤ 8) (hw : SchW (af vs)) : qf u vs kd deep 10 300:=by
 intro G r code p l hR hs hp
 have href:=dX vs kd
 rw [hr] at href
 have cx_rf:=gE (G:=G) (k:=kd) hR hvl hk oM
 rw [hr] at cx_rf
 have htm:=bi href.symm
 obtain ⟨bf,of,cf,ef,hsf⟩:=(hR.fl _ (eI hr)).expl h0
 simp only [fY,Value.slice.injEq] at ef
 obtain ⟨rfl,-,rfl⟩:=ef
 dsimp only at hsf
 have cx_rf : aG adD 160 [u,S kd] G (· = Tu [Ag [U8 (69 : Nat),S nm,.slice (some ⟨bf,of,none⟩) fs.length ca],Bo true]):=cx_rf
 refine bT [(0,_),(1,_),(2,_),(3,_)] Tryz.func148 kR Tryz.ntmps148 F F tU fun B hB hW=>?_
 repeat' (first | refine jR ?_ | (refine jo ?_;first | refine jL fun _=>?_ | refine jC F F F ?_ | refine al F ?_ | refine jF fun _=>?_ | refine jV (dU F F (by (repeat (first | exact BL.nil | apply BL.lit rfl));done)) ?_ | refine jV (ao F F) ?_ | refine jO fun _=>?_ | refine ac F F F cx_rf F ?_) | refine ab F F ?_)
 rename_i y9 _ y11
 (refine ak (ar (id:=5) [.blk y9 (.cells (List.toArray [U8 (69 : Nat),S nm,.slice (some ⟨bf,of,none⟩) fs.length ca]) oC (0,0))] (by intro y hy;simp only [List.mem_cons,List.not_mem_nil,or_false] at hy ⊢;simp [hy]) aj ?_);refine jW 11 [0,1,3,4] (aa 15 27) ?_;(refine jG (aa 15 31) 2 F (aC F F F) ?_);(refine jG (aa 15 63) 5 F (aC F F F) ?_);(refine jG (aa 15 127) 6 F (ag F) ?_);refine jA 7 F ?_;((refine ai F F F (cR ?_ (by (repeat (assumption));done)) rfl ?_;(focus omega);rintro _ _ ⟨k,rfl,rfl,hk0,hk1⟩;dsimp only [zA,fA]));refine jK (aa 15 255) ?_;((refine jG (aa 15 511) 8 F (aT F F ?_) ?_;focus omega));refine jW 5 [9] (aa 15 1023) ?_;((refine jG (aa 15 2047) 10 F (b7 F F aS ?_ F F) ?_;focus omega));refine jA 11 F ?_;(refine jF fun _=>?_);refine jK (aa 15 4095) ?_;refine jW 1 [12,13] (aa 15 16383) ?_;refine jA 14 F ?_;(refine jD F F F ?_);refine jK (aa 15 32767) ?_;refine jQ ?_)
 all_goals repeat' (refine jR ?_)
 all_goals
  rename_i y1
  refine Nx.sealC (b:=y1) fun G2 hG2 hsy=>?_
  refine Nx.sealC (b:=y11) fun G3 hG3 hsg=>?_
  have hdm : ae fs k.toNat ∈ fs:=bh oM
  exact aR (vs:=[_]) F ⟨F,trivial⟩ F sB ⟨hG2.trans hG3,.nd 69 [] (ae fs k.toNat).tag [],y11,_,F,.enm kd y11 y1 ⟨69,nm,fs⟩ (ae fs k.toNat) ⟨href.symm,F⟩ hdm hsg (hsy.mono hG3),by simp [br,V.tots],by rw [V.out];simp [cO],rfl,oM,oM⟩
theorem wv (hr : d8 vs kd = some ((a,ca),⟨85,nm,fs⟩)) (hvl : vs.length ≤ 1000000) (hk : d9 kd = true) (hkl : kd.length ≤ 1000) (h0 : 0 < fs.length) (h8 : fs.length ≤ 8) (hw : SchW (af vs)) (hcp : 0 ≤ cp ∧ cp ≤ 100000000) (hct : ct ≤ 100000000)
  (hD : ∀ d ∈ fs,(0 < deep ∨ d = ae fs 0) → e7 u vs d.kind (deep - 1) cp ct) (hd : -1000 ≤ deep ∧ deep ≤ 1000) : qf u vs kd deep (cp + 10) (ct + 20):=by
 intro G r code p l hR hs hp
 have href:=dX vs kd
 rw [hr] at href
 have cx_rf:=gE (G:=G) (k:=kd) hR hvl hk oM
 rw [hr] at cx_rf
 have htm:=bi href.symm
 obtain ⟨bf,of,cf,ef,hsf⟩:=(hR.fl _ (eI hr)).expl h0
 simp only [fY,Value.slice.injEq] at ef
 obtain ⟨rfl,-,rfl⟩:=ef
 dsimp only at hsf
 have cx_rf : aG adD 160 [u,S kd] G (· = Tu [Ag [U8 (85 : Nat),S nm,.slice (some ⟨bf,of,none⟩) fs.length ca],Bo true]):=cx_rf
 refine bT [(0,_),(1,_),(2,_),(3,_)] Tryz.func148 kR Tryz.ntmps148 F F tU fun B hB hW=>?_
 repeat' (first | refine jM ?_ | (refine jo ?_;first | refine jL fun _=>?_ | refine jD F F F ?_ | refine jC F F F ?_ | refine al F ?_ | (refine jV (dH F F aS ?_) ?_;focus omega) | refine jF fun _=>?_ | refine jV (dU F F (by (repeat (first | exact BL.nil | apply BL.lit rfl));done)) ?_ | refine jV (ao F F) ?_ | refine jO fun _=>?_ | refine jV (aq F F oM) ?_ | refine ac F F F cx_rf F ?_) | refine ab F F ?_ | refine ad F F ?_ | refine dJ F (fun _=>?_) (fun _=>?_))
 ·rename_i y9 _ y11 y12 hd0
  (refine ak (ar (id:=10) [.blk y9 (.cells (List.toArray [U8 (85 : Nat),S nm,.slice (some ⟨bf,of,none⟩) fs.length ca]) oC (0,0))] (by intro y hy;simp only [List.mem_cons,List.not_mem_nil,or_false] at hy ⊢;simp [hy]) aj ?_);refine jW 7 [0,2,3] (aa 10 13) ?_;(refine jG (aa 10 15) 1 F (aC F F F) ?_);(refine jG (aa 10 31) 4 F (aC F F F) ?_);(refine jG (aa 10 63) 5 F (ag F) ?_);refine jA 6 F ?_;((refine ai F F F (cR ?_ (by (repeat (assumption));done)) rfl ?_;(focus omega);rintro _ _ ⟨k,rfl,rfl,hk0,hk1⟩;dsimp only [zA,fA]));refine jK (aa 10 127) ?_;((refine jG (aa 10 255) 7 F (aT F F ?_) ?_;focus omega));((refine jG (aa 10 511) 8 F (dH F F aS ?_) ?_;focus omega));refine jA 9 F ?_;(refine jC F F F ?_);refine jK (aa 10 1023) ?_;refine jQ ?_)
  all_goals have hdm : ae fs k.toNat ∈ fs:=bh oM
  all_goals have cx_dv:=fun {p : Int} (hp : 0 ≤ p ∧ p + cp ≤ 600000000000)=>hD (ae fs k.toNat) hdm (.inl hd0) G r code p l hR hs hp
  all_goals repeat' (first | refine jM ?_ | (refine jo ?_;first | refine jD F F F ?_ | refine al F ?_ | refine jF fun _=>?_ | (refine cY F F F (cx_dv oM) F ?_;rintro _ G1 _ hle ⟨w1,b1,q1,rfl,hrep,htot,hone,rfl,hq1,hq2⟩;dsimp only [zA,fA];skip)))
  all_goals
   rename_i y1 y2
   refine Nx.sealC (b:=y1) fun G2 hG2 hs1=>?_
   refine Nx.sealC (b:=y2) fun G3 hG3 hs2=>?_
   refine Nx.sealC (b:=y11) fun G4 hG4 hsg=>?_
   exact aR (vs:=[_]) F ⟨F,trivial⟩ F sB ⟨((hle.trans hG2).trans hG3).trans hG4,.nd 85 [] (ae fs k.toNat).tag [w1],y11,_,F,.uni kd y11 y1 y2 b1 1 ⟨85,nm,fs⟩ (ae fs k.toNat) w1 (Nat.le_refl _) ⟨href.symm,F⟩ hdm hsg (hs1.mono (hG3.trans hG4)) (hs2.mono hG4) (hrep.mono ((hG2.trans hG3).trans hG4)),by simp only [br,V.tots,List.length_nil];omega,by rw [V.out];simp [cO],rfl,oM,oM⟩
 ·have cx_dv:=fun {p : Int} (hp : 0 ≤ p ∧ p + cp ≤ 600000000000)=>hD (ae fs 0) (bh h0) (.inr rfl) G r code p l hR hs hp
  repeat' (first | refine jR ?_ | (refine jo ?_;first | refine jD F F F ?_ | refine jF fun _=>?_ | (refine cY F F F (cx_dv oM) F ?_;rintro _ G1 _ hle ⟨w1,b1,q1,rfl,hrep,htot,hone,rfl,hq1,hq2⟩;dsimp only [zA,fA];skip)))
  all_goals
   rename_i y9 _ y11 y12 _ y1 y2
   refine Nx.sealC (b:=y1) fun G2 hG2 hs1=>?_
   refine Nx.sealC (b:=y2) fun G3 hG3 hs2=>?_
   refine Nx.sealC (b:=y11) fun G4 hG4 hsg=>?_
   exact aR (vs:=[_]) F ⟨F,trivial⟩ F sB ⟨((hle.trans hG2).trans hG3).trans hG4,.nd 85 [] (ae fs 0).tag [w1],y11,_,F,.uni kd y11 y1 y2 b1 1 ⟨85,nm,fs⟩ (ae fs 0) w1 (Nat.le_refl _) ⟨href.symm,F⟩ (bh h0) hsg (hs1.mono (hG3.trans hG4)) (hs2.mono hG4) (hrep.mono ((hG2.trans hG3).trans hG4)),by simp only [br,V.tots,List.length_nil];omega,by rw [V.out];simp [cO],rfl,oM,oM⟩
theorem zC (hr : d8 vs kd = some ((a,ca),⟨82,nm,fs⟩)) (hvl : vs.length ≤ 1000000) (hk : d9 kd = true) (hkl : kd.length ≤ 1000) (h8 : fs.length ≤ 8) (hd : -1000 ≤ deep ∧ deep ≤ 0) : qf u vs kd deep 10 100:=by
 intro G r code p l hR hs hp
 have href:=dX vs kd
 rw [hr] at href
 have cx_rf:=gE (G:=G) (k:=kd) hR hvl hk oM
 rw [hr] at cx_rf
 have cx_rf : aG adD 160 [u,S kd] G (· = Tu [Ag [U8 (82 : Nat),S nm,.slice a fs.length ca],Bo true]):=cx_rf
 refine bT [(0,_),(1,_),(2,_),(3,_)] Tryz.func148 kR Tryz.ntmps148 F F tU fun B hB hW=>?_
 repeat' (first | refine jR ?_ | (refine jo ?_;first | refine jL fun _=>?_ | refine jC F F F ?_ | refine al F ?_ | refine jF fun _=>?_ | refine jV (dU F F (by (repeat (first | exact BL.nil | apply BL.lit rfl));done)) ?_ | refine jV (ao F F) ?_ | refine jO fun _=>?_ | refine ac F F F cx_rf F ?_) | refine ad F F ?_)
 rename_i y9 _ y11
 refine aU (ι:=Unit) (fun i=>True) (fun i=>[(0,Pt r 0),(1,u),(2,S kd),(3,I deep),(9,Pt y9 0),(11,Pt y11 0),(13,I 0)]) (fun _=>G) (fun i=>[.blk y11 (.cells (List.toArray [S kd,S [82],aN,aN]) qT (0,0)),.blk y9 (.cells (List.toArray [U8 (82 : Nat),S nm,.slice a fs.length ca]) oC (0,0)),dV r code p c8]) (fun i=>0) () ?_ tU F sB (fun i Hi=>?_)
 ·trivial
 by_cases h0 : 0 < fs.length
 all_goals repeat' (first | refine jR ?_ | (refine jo ?_;first | refine al F ?_ | refine jV (ag F) ?_ | refine aK F ?_ | refine aw F ?_) | refine aA F F (aD oM) ?_ | refine am F F (aE oM) ?_ | (refine ad F (by first | rfl | (refine decide_eq_false ?_;(omega))) ?_))
 all_goals
  refine Nx.sealC (b:=y11) fun G2 hG2 hsg=>?_
  exact aR (vs:=[_]) F ⟨F,trivial⟩ F sB ⟨hG2,.nd 82 [] 0 [],y11,p,F,.recd kd y11 ⟨82,nm,fs⟩ [] [] none none 0 0 ⟨href.symm,F⟩ hsg ⟨F,.inl ⟨F,F⟩⟩ ⟨F,.inl ⟨F,F⟩⟩ F (fun i hi=>absurd hi (by simp)) (fun i hi=>absurd hi (by simp)),by simp [br,V.tots],by rw [V.out];simp [cO],rfl,oM,oM⟩
theorem abk (hr : d8 vs kd = some ((a,ca),⟨82,nm,fs⟩)) (hvl : vs.length ≤ 1000000) (hk : d9 kd = true) (hkl : kd.length ≤ 1000) (h8 : fs.length ≤ 8) (hw : SchW (af vs)) (hcp : 0 ≤ cp ∧ cp ≤ 100000000) (hct : ct ≤ 100000000)
  (hD : ∀ d ∈ fs,e7 u vs d.kind (deep - 1) cp ct) (hd : 0 < deep ∧ deep ≤ 1000) : qf u vs kd deep (8 * cp + 20) (8 * ct + 200):=by
 intro G r code p l hR hs hp
 have href:=dX vs kd
 rw [hr] at href
 have cx_rf:=gE (G:=G) (k:=kd) hR hvl hk oM
 rw [hr] at cx_rf
 have htm:=bi href.symm
 have cx_rf : aG adD 160 [u,S kd] G (· = Tu [Ag [U8 (82 : Nat),S nm,.slice a fs.length ca],Bo true]):=cx_rf
 refine bT [(0,_),(1,_),(2,_),(3,_)] Tryz.func148 kR Tryz.ntmps148 F F tU fun B hB hW=>?_
 repeat' (first | refine jR ?_ | (refine jo ?_;first | refine jL fun _=>?_ | refine jC F F F ?_ | refine al F ?_ | refine jF fun _=>?_ | refine jV (dU F F (by (repeat (first | exact BL.nil | apply BL.lit rfl));done)) ?_ | refine jV (ao F F) ?_ | refine jO fun _=>?_ | refine ac F F F cx_rf F ?_) | refine ad F F ?_)
 rename_i y9 _ y11
 refine Nx.addNil yk 1 (Nx.addNil yg 1 ?_)
 refine Nx.perm (((List.perm_append_comm (l₁:=[_,_,_]) (l₂:=[_])).cons _).cons _) ?_
 dsimp only [zA,fA]
 refine aU (ι:=List (Fld × V) × List Nat × Option Addr × Nat × Option Addr × Nat × Nat × Int × Gh) (fun j=>((j.2.1.length = j.1.length ∧ (∀ i,i < j.1.length → (ae j.1 i).1 ∈ fs) ∧ ∀ i,i < j.1.length → RepR j.2.2.2.2.2.2.2.2 (af vs) (ae j.1 i).2 (ae j.1 i).1.kind (ae j.2.1 i)) ∧ Gh.le G j.2.2.2.2.2.2.2.2) ∧ (j.1.length ≤ j.2.2.2.2.2.2.1 ∧ j.2.2.2.2.2.2.1 ≤ fs.length) ∧ V.tots (ic j.1) ≤ (ct + 20) * j.1.length ∧ p ≤ j.2.2.2.2.2.2.2.1 ∧ j.2.2.2.2.2.2.2.1 ≤ p + (cp + 1) * ((j.2.2.2.2.2.2.1 : Nat) : Int)) (fun j=>[(0,Pt r 0),(1,u),(2,S kd),(3,I deep),(9,Pt y9 0),(11,Pt y11 0),(13,I ((j.2.2.2.2.2.2.1 : Nat) : Int))]) (fun j=>j.2.2.2.2.2.2.2.2) (fun j=>[.acc (.slice j.2.2.2.2.1 j.1.length j.2.2.2.2.2.1) yg 1 j.1.length (ax eR j.2.1),.acc (.slice j.2.2.1 j.1.length j.2.2.2.1) yk 1 j.1.length (ax eb (j.1.map fun p=>p.1.tag)),dV r code j.2.2.2.2.2.2.2.1 c8,.blk y11 (.cells (List.toArray [S kd,S [82],.slice j.2.2.1 j.1.length j.2.2.2.1,.slice j.2.2.2.2.1 j.1.length j.2.2.2.2.2.1]) qT (0,0)),.blk y9 (.cells (List.toArray [U8 (82 : Nat),S nm,.slice a fs.length ca]) oC (0,0))]) (fun j=>fs.length - j.2.2.2.2.2.2.1) ([],[],none,0,none,0,0,p,G) ?_ tU F sB (fun j Hj=>?_)
 ·refine ⟨⟨⟨F,fun i hi=>absurd hi (by simp),fun i hi=>absurd hi (by simp)⟩,Gh.le.refl _⟩,?_,?_,?_,?_⟩
  ·exact ⟨Nat.le_refl _,Nat.zero_le _⟩
  ·simp [ic,V.tots]
  ·dsimp only;omega
  ·dsimp only;simp
 obtain ⟨gs,bs,a1,c1,a2,c2,i,q,Gq⟩:=j
 dsimp only at Hj ⊢
 obtain ⟨⟨⟨hbl,hfm,hreps⟩,hgq⟩,hil,htt,hq0,hq1⟩:=Hj
 have hcl : (cp + 1) * ((i : Nat) : Int) ≤ (cp + 1) * 8:=Int.mul_le_mul_of_nonneg_left oM oM
 have hcl0 : 0 ≤ (cp + 1) * ((i : Nat) : Int):=Int.mul_nonneg oM oM
 have htl : (ct + 20) * gs.length ≤ (ct + 20) * 8:=Nat.mul_le_mul_left _ oM
 by_cases hgo : i < fs.length
 ·have hcl3 : (cp + 1) * ((i : Nat) : Int) + (cp + 1) ≤ (cp + 1) * 8:=by
   have:=Int.mul_le_mul_of_nonneg_left (show ((i : Nat) : Int) + 1 ≤ 8 by omega) (show 0 ≤ cp + 1 by omega)
   rwa [Int.mul_add,Int.mul_one] at this
  obtain ⟨bf,of,cf,ef,hsf⟩:=(hR.fl _ (eI hr)).expl (by dsimp only;omega)
  simp only [fY,Value.slice.injEq] at ef
  obtain ⟨rfl,-,rfl⟩:=ef
  dsimp only at hsf
  have hdm : ae fs i ∈ fs:=bh hgo
  have hdk : aB (af vs) (ae fs i).kind = true:=dk hw htm (by simp) hdm
  have cx_dv:=fun {p : Int} (hp : 0 ≤ p ∧ p + cp ≤ 600000000000)=>hD (ae fs i) hdm Gq r code p l (hR.mono hgq) (hs.mono hgq) hp
  have hsf:=hsf.mono hgq
  repeat' (first | refine jM ?_ | (refine jo ?_;first | refine al F ?_ | (refine jV (b7 F F aS ?_ F F) ?_;focus omega) | refine jV (ag F) ?_ | refine jV (aq F F oM) ?_ | refine aK F ?_ | (refine cY F F F (cx_dv oM) F ?_;rintro _ G1 _ hle ⟨w1,b1,q1,rfl,hrep,htot,hone,rfl,hq1,hq2⟩;dsimp only [zA,fA];(try have hsf:=hsf.mono hle))) | refine aA F F (aD oM) ?_ | refine ab F (aD oM) ?_)
  have hgl:=hgq.trans hle
  have cx_pk3 : ∀ {p : Int},0 ≤ p ∧ p ≤ 1000000000000 → cM adD 28 [Pt r 0,I 3] G1 [dV r code p c8] (fun v L'=>L' = [dV r code (p + 1) c8] ∧ (v = I 0 ∨ ∃ k,v = I k ∧ 0 < k)):=fun {p} hp=>(cR (b:=r) (p:=p) (n:=3) ⟨hp.1,hp.2,by decide⟩ (hs.mono hgl)).mono fun v G' L' ⟨h1,k,h2,h3,h4,h5⟩=>⟨h1,h3,by subst h2;rcases (show k = 0 ∨ 0 < k by omega) with rfl | h;exact .inl F;exact .inr ⟨k,F,h⟩⟩
  have cx_out:=kq hw hrep oM
  have cx_sta:=me (f:=ae fs i) (hR.mono hgl) hw hdk
  have hms : (cp + 1) * ((i + 1 : Nat) : Int) = (cp + 1) * ((i : Nat) : Int) + (cp + 1):=by rw [Int.natCast_succ,Int.mul_add,Int.mul_one]
  by_cases heq : w1.out = bK (af vs) (ae fs i)
  ·(refine ak (ar (id:=18) [.blk y9 (.cells (List.toArray [U8 (82 : Nat),S nm,.slice (some ⟨bf,of,none⟩) fs.length ca]) oC (0,0))] (by intro y hy;simp only [List.mem_cons,List.not_mem_nil,or_false] at hy ⊢;simp [hy]) aj ?_);refine jW 14 [0] (aa 15 1) ?_;refine cX [1] kR dC ⟨?_,trivial⟩;(refine bE F F ?_;(refine ai F F F (cx_pk3 oM) F ?_;rintro _ _ ⟨rfl,rfl | ⟨k,rfl,hk0⟩⟩ <;> dsimp only [zA,fA])) <;> (refine jS (aa 15 3) ?_;refine jT 11 [2,3] (aa 15 15) ?_;(try (first | (refine Nx.re (d:=107) (v':=Bo true) F (congrArg Value.bool (aD ‹_›)) ?_) | refine Nx.re (d:=107) (v':=Bo false) F (congrArg Value.bool F) ?_));refine jT 7 [4,6,7,9] (aa 15 735) ?_;(first | refine jG (aa 15 991) 8 F (aC F F F) ?_ | refine jN (aa 15 991) 8 F ?_);(first | refine jG (aa 15 2015) 10 F (aq F F oM) ?_ | refine jN (aa 15 2015) 10 F ?_);(first | (refine jG (aa 15 4063) 11 F (dH F F aS ?_) ?_;focus omega) | refine jN (aa 15 4063) 11 F ?_);(first | refine jN (aa 15 4095) 5 F ?_ | (refine jA 5 F ?_;(refine ac F F F cx_out F ?_);refine jS (aa 15 4095) ?_));(first | refine jN (aa 15 8191) 12 F ?_ | (refine jA 12 F ?_;(refine ac F F F cx_sta F ?_);refine jS (aa 15 8191) ?_));refine jT 1 [13] (aa 15 16383) ?_;(first | refine jG (aa 15 32767) 14 F (bJ F F F) ?_ | refine jG (aa 15 32767) 14 F (bm F F F) ?_);refine jQ ?_))
   all_goals repeat' (first | refine jM ?_ | (refine ad F ?_ ?_;(focus ((first | rfl | (simp [*];done));done))))
   all_goals
    refine Nx.perm ((List.Perm.swap _ _ _).trans ((List.Perm.swap _ _ _).cons _)) ?_
    exact a7 (gs,bs,a1,c1,a2,c2,i + 1,q1 + 1,G1) ⟨⟨⟨hbl,hfm,fun i hi=>(hreps i hi).mono hle⟩,hgl⟩,⟨by dsimp only;omega,by dsimp only;omega⟩,htt,by dsimp only;omega,by dsimp only;rw [hms];omega⟩ (by dsimp only;omega) tU rfl aZ
  ·(refine ak (ar (id:=18) [.blk y9 (.cells (List.toArray [U8 (82 : Nat),S nm,.slice (some ⟨bf,of,none⟩) fs.length ca]) oC (0,0))] (by intro y hy;simp only [List.mem_cons,List.not_mem_nil,or_false] at hy ⊢;simp [hy]) aj ?_);refine jW 14 [0] (aa 15 1) ?_;refine cX [1] kR dC ⟨?_,trivial⟩;(refine bE F F ?_;(refine ai F F F (cx_pk3 oM) F ?_;rintro _ _ ⟨rfl,rfl | ⟨k,rfl,hk0⟩⟩ <;> dsimp only [zA,fA])) <;> (refine jS (aa 15 3) ?_;refine jT 11 [2,3] (aa 15 15) ?_;(try (first | (refine Nx.re (d:=107) (v':=Bo true) F (congrArg Value.bool (aD ‹_›)) ?_) | refine Nx.re (d:=107) (v':=Bo false) F (congrArg Value.bool F) ?_));refine jT 7 [4,6,7,9] (aa 15 735) ?_;(first | refine jG (aa 15 991) 8 F (aC F F F) ?_ | refine jN (aa 15 991) 8 F ?_);(first | refine jG (aa 15 2015) 10 F (aq F F oM) ?_ | refine jN (aa 15 2015) 10 F ?_);(first | (refine jG (aa 15 4063) 11 F (dH F F aS ?_) ?_;focus omega) | refine jN (aa 15 4063) 11 F ?_);(first | refine jN (aa 15 4095) 5 F ?_ | (refine jA 5 F ?_;(refine ac F F F cx_out F ?_);refine jS (aa 15 4095) ?_));(first | refine jN (aa 15 8191) 12 F ?_ | (refine jA 12 F ?_;(refine ac F F F cx_sta F ?_);refine jS (aa 15 8191) ?_));refine jT 1 [13] (aa 15 16383) ?_;(first | refine jG (aa 15 32767) 14 F (bJ F F F) ?_ | refine jG (aa 15 32767) 14 F (bm F F F) ?_);refine jQ ?_))
   ·repeat' (first | refine jM ?_ | refine ad F F ?_)
    refine Nx.perm ((List.Perm.swap _ _ _).trans ((List.Perm.swap _ _ _).cons _)) ?_
    exact a7 (gs,bs,a1,c1,a2,c2,i + 1,q1 + 1,G1) ⟨⟨⟨hbl,hfm,fun i hi=>(hreps i hi).mono hle⟩,hgl⟩,⟨by dsimp only;omega,by dsimp only;omega⟩,htt,by dsimp only;omega,by dsimp only;rw [hms];omega⟩ (by dsimp only;omega) tU rfl aZ
   ·repeat' (first | refine jR ?_ | refine ab F (aD ‹_›) ?_)
    have hl' : (gs ++ [(ae fs i,w1)]).length = gs.length + 1:=by simp
    have hbl' : (bs ++ [b1]).length = (gs ++ [(ae fs i,w1)]).length:=by simp [hbl]
    have hnth : ∀ j,j < (gs ++ [(ae fs i,w1)]).length → (j < gs.length ∧ ae (gs ++ [(ae fs i,w1)]) j = ae gs j ∧ ae (bs ++ [b1]) j = ae bs j) ∨ (ae (gs ++ [(ae fs i,w1)]) j = (ae fs i,w1) ∧ ae (bs ++ [b1]) j = b1):=fun j hj=>by
     by_cases h1 : j < gs.length
     ·exact .inl ⟨h1,by rw [aI hj,aI h1,List.getElem_append_left h1],by rw [aI oM,aI oM,List.getElem_append_left oM]⟩
     ·have h2 : j = gs.length:=oM
      exact .inr ⟨by rw [aI hj];simp [h2],by rw [aI oM];simp [h2,hbl]⟩
    have hfm' : ∀ j,j < (gs ++ [(ae fs i,w1)]).length → (ae (gs ++ [(ae fs i,w1)]) j).1 ∈ fs:=fun j hj=>by
     rcases hnth j hj with ⟨h1,h2,_⟩ | ⟨h2,_⟩
     ·rw [h2];exact hfm j h1
     ·rw [h2];exact hdm
    have hreps' : ∀ j,j < (gs ++ [(ae fs i,w1)]).length → RepR G1 (af vs) (ae (gs ++ [(ae fs i,w1)]) j).2 (ae (gs ++ [(ae fs i,w1)]) j).1.kind (ae (bs ++ [b1]) j):=fun j hj=>by
     rcases hnth j hj with ⟨h1,h2,h3⟩ | ⟨h2,h3⟩
     ·rw [h2,h3];exact (hreps j h1).mono hle
     ·rw [h2,h3];exact hrep
    have hrow1 : ax eb (gs.map fun p=>p.1.tag) ++ [I (ae fs i).tag] = ax eb ((gs ++ [(ae fs i,w1)]).map fun p=>p.1.tag):=by rw [List.map_append];exact (b5 eb _ (ae fs i).tag).symm
    have hrow2 : ax eR bs ++ [Pt b1 0] = ax eR (bs ++ [b1]):=(b5 eR bs b1).symm
    have hnd : V.tots (ic (gs ++ [(ae fs i,w1)])) = V.tots (ic gs) + (20 + w1.tot):=by simp [ic,dW,V.tots,br]
    have hmt : (ct + 20) * (gs.length + 1) = (ct + 20) * gs.length + (ct + 20):=Nat.mul_succ _ _
    (refine ak (ar (id:=19) [.blk y9 (.cells (List.toArray [U8 (82 : Nat),S nm,.slice (some ⟨bf,of,none⟩) fs.length ca]) oC (0,0))] (by intro y hy;simp only [List.mem_cons,List.not_mem_nil,or_false] at hy ⊢;simp [hy]) aj ?_);refine jW 10 [0,1,2,3,5,7] (aa 16 175) ?_;(refine jG (aa 16 239) 6 F (aC F F F) ?_);((refine jG (aa 16 495) 8 F (aq F F ?_) ?_;focus omega));refine jW 7 [9] (aa 16 1007) ?_;((refine jG (aa 16 2031) 10 F (b7 F F aS ?_ F F) ?_;focus omega));refine cX [4,11] kR dC ⟨?_,?_,trivial⟩;(focus (refine bE F F ?_;(refine al F ?_);refine jK (aa 16 2047) ?_;refine jA 11 F ?_;(refine jF fun _=>?_);refine jK (aa 16 4095) ?_;refine jA 12 F ?_;((refine ci F F F F F F F F F ?_ fun _ _=>?_;focus omega));refine jK (aa 16 8191) ?_;refine jW 1 [13,14] (aa 16 32767) ?_;refine jA 15 F ?_;(refine jD F F F ?_);refine jK (aa 16 65535) ?_;refine jQ ?_));rotate_left 1;(focus (refine bE F F ?_;(refine jF fun _=>?_);refine jK (aa 16 4079) ?_;refine jA 4 F ?_;(refine al F ?_);refine jK (aa 16 4095) ?_;refine jA 12 F ?_;((refine ci F F F F F F F F F ?_ fun _ _=>?_;focus omega));refine jK (aa 16 8191) ?_;refine jW 1 [13,14] (aa 16 32767) ?_;refine jA 15 F ?_;(refine jD F F F ?_);refine jK (aa 16 65535) ?_;refine jQ ?_));rotate_left 1)
    all_goals repeat' (first | refine jM ?_ | (refine jo ?_;first | refine jD F F F ?_ | refine al F ?_ | refine jF fun _=>?_ | refine ci F F F F F F F F F oM fun _ _=>?_))
    all_goals
     rename_i _ y1 yc1 _ y2 yc2
     rw [hrow1,hrow2]
     exact a7 (gs ++ [(ae fs i,w1)],bs ++ [b1],some ⟨y1,0,none⟩,yc1,some ⟨y2,0,none⟩,yc2,i + 1,q1 + 1,G1) ⟨⟨⟨hbl',hfm',hreps'⟩,hgl⟩,⟨by dsimp only;rw [hl'];omega,by dsimp only;omega⟩,by dsimp only;rw [hl',hmt,hnd];omega,by dsimp only;omega,by dsimp only;rw [hms];omega⟩ (by dsimp only;omega) tU rfl (by rw [hl'];repeat (first | exact List.Sublist.refl _ | apply List.Sublist.cons_cons | apply List.Sublist.cons))
 ·repeat' (first | refine jR ?_ | (refine jo ?_;first | refine al F ?_ | refine jV (ag F) ?_ | refine aw F ?_) | refine am F F (aE oM) ?_ | refine ad F F ?_)
  refine Nx.sealS (v:=.slice a2 gs.length c2) fun G2 hG2 hs1=>?_
  refine Nx.sealS (v:=.slice a1 gs.length c1) fun G3 hG3 hs2=>?_
  refine Nx.sealC (b:=y11) fun G4 hG4 hsg=>?_
  exact aR (vs:=[_]) F ⟨F,trivial⟩ F sB ⟨hgq.trans ((hG2.trans hG3).trans hG4),.nd 82 [] 0 (ic gs),y11,q,F,.recd kd y11 ⟨82,nm,fs⟩ gs bs a1 a2 c1 c2 ⟨href.symm,F⟩ hsg (hs2.mono hG4) (hs1.mono (hG3.trans hG4)) hbl hfm (fun i hi=>(hreps i hi).mono ((hG2.trans hG3).trans hG4)),by rw [br];simp only [List.length_nil];omega,by rw [V.out];simp [cO],rfl,oM,oM⟩
end
theorem oO {ts : List Ty} {k : adE} (h : aB ts k = true) : ∃ c r,k = c :: r:=by
 cases k with
 | nil=>unfold aB bC d9 at h;simp at h
 | cons c r=>exact ⟨c,r,F⟩
def og : Nat → Int
 | 0=>105
 | d + 1=>8 * og d + 40
def ns : Nat → Nat
 | 0=>480
 | d + 1=>8 * ns d + 400
theorem wA : ∀ d,d ≤ 4 → 0 ≤ og d ∧ og d ≤ 500000 ∧ ns d ≤ 3000000 ∧ 105 ≤ og d ∧ 480 ≤ ns d:=by decide
theorem acw {u : Value} {vs : List bU} (hw : SchW (af vs)) (hu : u.oneCell' = true) : ∀ (n : Nat) {k : adE} {deep : Int},n ≤ 9 → deep ≤ 0 → (n : Int) - 900 ≤ deep → aB (af vs) k = true → (∀ t,aX (af vs) k = some t → bR (af vs) n t = true) → e7 u vs k deep (15 + 10 * n) (300 + 20 * n):=by
 have hvl : vs.length ≤ 8:=by have:=hw.len;unfold af at this;simpa using this
 intro n
 induction n with
 | zero =>
  intro k deep _ hd hd2 hk he
  obtain ⟨c,r,rfl⟩:=oO hk
  have hkk:=cm (cE hk)
  simp only [List.length_cons] at hkk
  by_cases h1 : c.toNat = 91
  ·obtain rfl:=bn h1 dC
   exact (qD (cp:=0) (ct:=0) oM oM (fun h=>absurd h oM) hu oM oM).le oM oM
  by_cases h2 : c.toNat = 63
  ·obtain rfl:=bn h2 dC
   exact (sM (cp:=0) (ct:=0) oM oM (fun h=>absurd h oM) hu oM oM).le oM oM
  have h91 : ¬ (c.toNat = 91 ∨ c.toNat = 63):=fun h=>by rcases h with h | h <;> omega
  cases hr : aX (af vs) (c :: r) with
  | some t=>have:=he t hr;simp [bR] at this
  | none =>
   rcases dK hk h91 hr with e1 | e1 | e1
   ·rw [e1];exact sN.le oM oM
   ·rw [e1];exact sL.le oM oM
   ·rw [e1];exact qE.le oM oM
 | succ n ih =>
  intro k deep hn hd hd2 hk he
  obtain ⟨c,r,rfl⟩:=oO hk
  have hkk:=cm (cE hk)
  have hkk1:=hkk.1
  simp only [List.length_cons] at hkk
  by_cases h1 : c.toNat = 91
  ·obtain rfl:=bn h1 dC
   exact (qD (cp:=0) (ct:=0) oM oM (fun h=>absurd h oM) hu oM oM).le oM oM
  by_cases h2 : c.toNat = 63
  ·obtain rfl:=bn h2 dC
   exact (sM (cp:=0) (ct:=0) oM oM (fun h=>absurd h oM) hu oM oM).le oM oM
  have h91 : ¬ (c.toNat = 91 ∨ c.toNat = 63):=fun h=>by rcases h with h | h <;> omega
  cases hr : aX (af vs) (c :: r) with
  | none =>
   rcases dK hk h91 hr with e1 | e1 | e1
   ·rw [e1];exact sN.le oM oM
   ·rw [e1];exact sL.le oM oM
   ·rw [e1];exact qE.le oM oM
  | some t =>
   obtain ⟨r',e⟩:=dv hr
   simp only [List.cons.injEq] at e
   obtain ⟨rfl,rfl⟩:=e
   have href:=dX vs (64 :: r)
   rw [hr] at href
   rcases hrv : d8 vs (64 :: r) with _ | ⟨⟨a,ca⟩,⟨so,nm,fs⟩⟩
   ·rw [hrv] at href;cases href
   rw [hrv] at href
   obtain rfl:=(Option.some.inj href).symm
   dsimp only at hr he
   have hTW:=hw.ty _ (bi hr)
   have h8 : fs.length ≤ 8:=hTW.len
   refine sK ?_ oM
   rcases hTW.sort with h3 | h3 | h3 <;> dsimp only at h3 <;> subst h3
   ·exact fun G r code p l g1 g2 g3=>((zC hrv oM hkk1 (by simp only [List.length_cons];omega) h8 oM) G r code p l g1 g2 ⟨g3.1,oM⟩).mono fun _ _ _ ⟨h6,w,b,q,h7,h8,h9,h10,h11,h12,h13⟩=>⟨h6,w,b,q,h7,h8,oM,h10,h11,h12,oM⟩
   ·have h0 : 0 < fs.length:=List.length_pos_iff.2 (hTW.ne (by simp))
    refine fun G r code p l g1 g2 g3=>((wv (cp:=15 + 10 * n) (ct:=300 + 20 * n) hrv oM hkk1 (by simp only [List.length_cons];omega) h0 h8 hw oM oM (fun d hdm hc=>?_) oM) G r code p l g1 g2 ⟨g3.1,oM⟩).mono fun _ _ _ ⟨h6,w,b,q,h7,h8,h9,h10,h11,h12,h13⟩=>⟨h6,w,b,q,h7,h8,oM,h10,h11,h12,oM⟩
    rcases hc with hc | rfl
    ·omega
    refine ih oM oM oM (dk hw (bi hr) (by simp) hdm) fun t' ht'=>?_
    have:=he _ hr
    rw [bR,if_neg (by simp),iZ] at this
    dsimp only at this
    rw [ht'] at this
    exact this
   ·have h0 : 0 < fs.length:=List.length_pos_iff.2 (hTW.ne (by simp))
    exact fun G r code p l g1 g2 g3=>((ww hrv oM hkk1 (by simp only [List.length_cons];omega) h0 h8 hw) G r code p l g1 g2 ⟨g3.1,oM⟩).mono fun _ _ _ ⟨h6,w,b,q,h7,h8,h9,h10,h11,h12,h13⟩=>⟨h6,w,b,q,h7,h8,oM,h10,h11,h12,oM⟩
theorem sP {u : Value} {vs : List bU} (hw : SchW (af vs)) (hu : u.oneCell' = true) : ∀ (m : Nat) {k : adE} {deep : Int},m ≤ 4 → deep ≤ m → -800 ≤ deep → aB (af vs) k = true → e7 u vs k deep (og m) (ns m):=by
 have hvl : vs.length ≤ 8:=by have:=hw.len;unfold af at this;simpa using this
 have hz : ∀ {k : adE} {deep : Int},deep ≤ 0 → -800 ≤ deep → aB (af vs) k = true → e7 u vs k deep 105 480:=fun {k deep} h1 h2 h3=>(acw hw hu ((af vs).length + 1) (by have:=hw.len;omega) h1 (by have:=hw.len;omega) h3 (fun t ht=>qC hw t ht)).le (by have:=hw.len;omega) (by have:=hw.len;omega)
 intro m
 induction m with
 | zero=>intro k deep _ hd hd2 hk;exact hz hd hd2 hk
 | succ m ih =>
  intro k deep hm hd hd2 hk
  have hcm:=wA m oM
  have e1 : og (m + 1) = 8 * og m + 40:=rfl
  have e2 : ns (m + 1) = 8 * ns m + 400:=rfl
  by_cases hd0 : deep ≤ 0
  ·exact (hz hd0 hd2 hk).le oM oM
  have hD : ∀ {k : adE},aB (af vs) k = true → e7 u vs k (deep - 1) (og m) (ns m):=fun {k} hk=>ih oM oM oM hk
  obtain ⟨c,r,rfl⟩:=oO hk
  have hkk:=cm (cE hk)
  have hkk1:=hkk.1
  simp only [List.length_cons] at hkk
  by_cases h1 : c.toNat = 91
  ·obtain rfl:=bn h1 dC
   exact (qD oM oM (fun _=>hD (dy (.inl F) hk)) hu oM oM).le oM oM
  by_cases h2 : c.toNat = 63
  ·obtain rfl:=bn h2 dC
   exact (sM oM oM (fun _=>hD (dy (.inr F) hk)) hu oM oM).le oM oM
  have h91 : ¬ (c.toNat = 91 ∨ c.toNat = 63):=fun h=>by rcases h with h | h <;> omega
  cases hr : aX (af vs) (c :: r) with
  | none =>
   rcases dK hk h91 hr with e1 | e1 | e1
   ·rw [e1];exact sN.le oM oM
   ·rw [e1];exact sL.le oM oM
   ·rw [e1];exact qE.le oM oM
  | some t =>
   obtain ⟨r',e⟩:=dv hr
   simp only [List.cons.injEq] at e
   obtain ⟨rfl,rfl⟩:=e
   have href:=dX vs (64 :: r)
   rw [hr] at href
   rcases hrv : d8 vs (64 :: r) with _ | ⟨⟨a,ca⟩,⟨so,nm,fs⟩⟩
   ·rw [hrv] at href;cases href
   rw [hrv] at href
   obtain rfl:=(Option.some.inj href).symm
   dsimp only at hr
   have hTW:=hw.ty _ (bi hr)
   have h8 : fs.length ≤ 8:=hTW.len
   refine sK ?_ oM
   rcases hTW.sort with h3 | h3 | h3 <;> dsimp only at h3 <;> subst h3
   ·exact fun G r code p l g1 g2 g3=>((abk hrv oM hkk1 (by simp only [List.length_cons];omega) h8 hw oM oM (fun d hdm=>hD (dk hw (bi hr) (by simp) hdm)) oM) G r code p l g1 g2 ⟨g3.1,oM⟩).mono fun _ _ _ ⟨h6,w,b,q,h7,h8,h9,h10,h11,h12,h13⟩=>⟨h6,w,b,q,h7,h8,oM,h10,h11,h12,oM⟩
   ·have h0 : 0 < fs.length:=List.length_pos_iff.2 (hTW.ne (by simp))
    exact fun G r code p l g1 g2 g3=>((wv hrv oM hkk1 (by simp only [List.length_cons];omega) h0 h8 hw oM oM (fun d hdm _=>hD (dk hw (bi hr) (by simp) hdm)) oM) G r code p l g1 g2 ⟨g3.1,oM⟩).mono fun _ _ _ ⟨h6,w,b,q,h7,h8,h9,h10,h11,h12,h13⟩=>⟨h6,w,b,q,h7,h8,oM,h10,h11,h12,oM⟩
   ·have h0 : 0 < fs.length:=List.length_pos_iff.2 (hTW.ne (by simp))
    exact fun G r code p l g1 g2 g3=>((ww hrv oM hkk1 (by simp only [List.length_cons];omega) h0 h8 hw) G r code p l g1 g2 ⟨g3.1,oM⟩).mono fun _ _ _ ⟨h6,w,b,q,h7,h8,h9,h10,h11,h12,h13⟩=>⟨h6,w,b,q,h7,h8,oM,h10,h11,h12,oM⟩
theorem tR {r : Nat} {code : Value} {p : Int} {l : adE} (hp : 0 ≤ p ∧ p ≤ 600000000000) (hs : bq G code 1 l.length (bM l)) :
  cM adD 72 [Pt r 0] G [dV r code p c8] (fun v L'=>∃ x q,v = S x ∧ x.length ≤ 20000 ∧ L' = [dV r code q c8] ∧ p ≤ q ∧ q ≤ p + 700):=by
 refine jH [(0,_)] Tryz.func72 Tryz.ntmps72 fun B hB hW=>?_
 repeat' (first | refine jX ?_ | (refine jo ?_;first | refine jF fun _=>?_ | refine jV (aT F F oM) ?_ | (refine eX 64 F F F ?_ F (fun xs hxs=>?_);(focus ((simp only [List.length_append,List.length_cons,List.length_nil,List.length_take];omega);done))) | refine aK F ?_ | refine aw F ?_ | (refine ai F F F (wK ?_ (by (repeat (assumption));done) ?_ ?_) rfl ?_;(focus omega);(focus ((first | assumption | (simp;done));done));(focus ((simp;done);done));rintro _ _ ⟨ty,q1,rfl,hty,hty1,rfl,hq1,hq2⟩;dsimp only [zA,fA]) | (refine ai F F F (cR ?_ (by (repeat (assumption));done)) rfl ?_;(focus ((first | omega | (simp;omega));done));rintro _ _ ⟨k,rfl,rfl,hk0,hk1⟩;dsimp only [zA,fA]) | (refine ac F F F (tS ?_) F ?_;(focus ((simp;omega);done)))) | refine oQ F F (fun _=>?_) (fun _=>?_) | refine ad F F ?_ | refine dJ F (fun _=>?_) (fun _=>?_))
 all_goals (first | exact aR (vs:=[_]) F ⟨F,trivial⟩ F sB ⟨F,_,_,F,by (simp only [List.length_append,List.length_cons,List.length_nil,List.length_take,List.length_drop];omega),rfl,oM,oM⟩ | skip)
 all_goals simp only [List.length_append,List.length_cons,List.length_nil] at hk1
 all_goals (refine ak (ar (id:=6) [] (fun _ h=>absurd h (by simp)) aj ?_);refine jW 7 [0,1,2,4,9,10,11,12] (aa 15 7703) ?_;refine cX [3,5] kR dC ⟨?_,?_,trivial⟩;(focus (refine bE F F ?_;(refine jF fun _=>?_);refine jK (aa 15 7711) ?_;refine jA 5 F ?_;((refine ai F F F (cR ?_ (by (repeat (assumption));done)) rfl ?_;(focus omega);rintro _ _ ⟨k,rfl,rfl,hk0,hk1⟩;dsimp only [zA,fA]));refine jK (aa 15 7743) ?_;((refine jG (aa 15 7807) 6 F (aT F F ?_) ?_;focus omega));refine jA 7 F ?_;((refine eX 64 F F F ?_ F (fun xs hxs=>?_);(focus ((simp only [List.length_append,List.length_cons,List.length_nil,List.length_take];omega);done))));refine jK (aa 15 7935) ?_;refine jW 0 [8,13,14] (aa 15 32767) ?_;refine jQ ?_));rotate_left 1;(focus (refine bE F F ?_;((refine ai F F F (cR ?_ (by (repeat (assumption));done)) rfl ?_;(focus omega);rintro _ _ ⟨k,rfl,rfl,hk0,hk1⟩;dsimp only [zA,fA]));refine jK (aa 15 7735) ?_;refine jA 3 F ?_;(refine jF fun _=>?_);refine jK (aa 15 7743) ?_;((refine jG (aa 15 7807) 6 F (aT F F ?_) ?_;focus omega));refine jA 7 F ?_;((refine eX 64 F F F ?_ F (fun xs hxs=>?_);(focus ((simp only [List.length_append,List.length_cons,List.length_nil,List.length_take];omega);done))));refine jK (aa 15 7935) ?_;refine jW 0 [8,13,14] (aa 15 32767) ?_;refine jQ ?_));rotate_left 1)
 all_goals repeat' (refine jR ?_)
 all_goals exact aR (vs:=[_]) F ⟨F,trivial⟩ F sB ⟨F,_,_,F,by (simp only [List.length_append,List.length_cons,List.length_nil,List.length_take,List.length_drop];omega),rfl,oM,oM⟩
theorem wM {r : Nat} {code : Value} {p : Int} {l s : adE} (hp : 0 ≤ p ∧ p ≤ 600000000000) (hs : bq G code 1 l.length (bM l)) (hsl : s.length ≤ 10000000) :
  cM adD 73 [Pt r 0,S s] G [dV r code p c8] (fun v L'=>∃ x q,v = S x ∧ x.length ≤ 400 ∧ L' = [dV r code q c8] ∧ p ≤ q ∧ q ≤ p + 20):=by
 have cx_lkg : ∀ {k : adE} (G : Gh),k.length ≤ 1000 → bd adD 83 [S s,S k] G (fun v _=>∃ u b,v = Tu [u,Bo b]):=fun {k} G h=>(fc (G:=G) (s:=s) (k:=k) oM oM).mono fun v G' L' ⟨h1,h2,u,vs,h3,_⟩=>⟨h1,h2,u,_,h3⟩
 refine jB (Post:=fun v G' L'=>G' = G ∧ _) [(0,_),(1,_)] Tryz.func73 Tryz.ntmps73 fun B hok hB hW=>?_
 repeat' (first | refine jR ?_ | (refine jo ?_;first | refine jF fun _=>?_ | refine jV (aT F F oM) ?_ | (refine eX 64 F F F ?_ F (fun xs hxs=>?_);(focus ((simp only [List.length_append,List.length_cons,List.length_nil,List.length_take];omega);done))) | (refine ai F F F (cR ?_ (by (repeat (assumption));done)) rfl ?_;(focus omega);rintro _ _ ⟨k,rfl,rfl,hk0,hk1⟩;dsimp only [zA,fA]) | (refine ai F F F (rE ?_ (by (repeat (assumption));done)) rfl ?_;(focus omega);rintro _ _ ⟨kd,q1,rfl,hkd,rfl,hq1,hq2⟩;dsimp only [zA,fA]) | (refine aF F F F ((cx_lkg _) oM) F ?_;rintro _ G hle ⟨u1,b1,rfl⟩;skip)) | refine dJ F (fun _=>?_) (fun _=>?_) | refine sy F (fun _=>?_) (fun _=>?_))
 all_goals refine Nx.base hok hB ?_
 all_goals exact aR (vs:=[_]) F ⟨F,trivial⟩ F sB ⟨F,_,_,F,by (first | omega | (simp only [List.length_append,List.length_cons,List.length_nil,List.length_take,List.length_drop];omega)),rfl,oM,oM⟩
theorem zY {r : Nat} {code : Value} {p : Int} {l s k : adE} (hp : 0 ≤ p ∧ p ≤ 500000000000) (hs : bq G code 1 l.length (bM l)) (hsl : s.length ≤ 10000000) (hkl : k.length ≤ 1048576) :
  cM adD 61 [Pt r 0,S s,S k] G [dV r code p c8] (fun v L'=>∃ x q,v = S x ∧ x.length ≤ 20000 ∧ L' = [dV r code q c8] ∧ p ≤ q ∧ q ≤ p + 3000000):=by
 by_cases hk : cz s k = true
 case neg =>
  have hk2 : cz s k = false:=by simpa using hk
  have cx_lk1 : ∀ G,bd adD 83 [S s,S k] G (fun v _=>∃ u,v = Tu [u,Bo false]):=fun G=>by
   refine (fc (G:=G) (s:=s) (k:=k) oM oM).mono ?_
   rintro v G' L' ⟨h1,h2,u,vs,rfl,_⟩
   exact ⟨h1,h2,u,by rw [hk2]⟩
  refine jB (Post:=fun v G' L'=>G' = G ∧ _) [(0,_),(1,_),(2,_)] Tryz.func61 Tryz.ntmps61 fun B hok hB hW=>?_
  repeat' (first | refine jR ?_ | (refine jo ?_;(refine aF F F F (cx_lk1 _) F ?_;rintro _ G hle ⟨u1,rfl⟩;skip)) | refine ab F F ?_)
  all_goals refine Nx.base hok hB ?_
  all_goals exact aR (vs:=[_]) F ⟨F,trivial⟩ F aZ ⟨F,_,_,F,by (simp only [List.length_append,List.length_cons,List.length_nil,List.length_take,List.length_drop];omega),rfl,oM,oM⟩
 obtain ⟨ts,hsc,hki,hw⟩:=iQ hk
 have cx_lka : ∀ G,bd adD 83 [S s,S k] G (fun v G'=>∃ a c vs,v = Tu [.slice a vs.length c,Bo true] ∧ SchR G' (.slice a vs.length c) vs ∧ af vs = ts):=fun G=>by
  refine (fc (G:=G) (s:=s) (k:=k) oM oM).mono ?_
  rintro v G' L' ⟨h1,h2,u,vs,rfl,h4,_,h6⟩
  obtain ⟨_,⟨rfl,h0⟩ | ⟨b,o,cap,rfl,_,_⟩⟩:=h4.sl
  ·exact ⟨h1,h2,none,0,vs,by rw [hk,h0],by rw [h0];exact h4,h6 ts hsc hki⟩
  ·exact ⟨h1,h2,_,cap,vs,by rw [hk],h4,h6 ts hsc hki⟩
 refine jB (Post:=fun v G' L'=>G' = G ∧ _) [(0,_),(1,_),(2,_)] Tryz.func61 Tryz.ntmps61 fun B hok hB hW=>?_
 repeat' (first | refine jR ?_ | (refine jo ?_;(refine aF F F F (cx_lka _) F ?_;rintro _ G hle ⟨av1,cv1,vs1,rfl,hR1,hT1⟩;skip)) | refine ad F F ?_)
 subst hT1
 have hg0:=hle
 have hu1:=hR1.sl.one
 have cx_dv:=fun {p : Int} (hp : 0 ≤ p ∧ p + og 4 ≤ 600000000000)=>sP hw hu1 4 (k:=k) (deep:=4) oM oM oM hki G r code p l hR1 (hs.mono hle) hp
 have hc4 : og 4 = 453480:=by decide
 have ht4 : ns 4 = 2200080:=by decide
 rw [hc4,ht4] at cx_dv
 repeat' ((refine jo ?_;(refine cY F F F (cx_dv oM) F ?_;rintro _ G1 _ hle ⟨w1,b1,q1,rfl,hrep,htot,hone,rfl,hq1,hq2⟩;dsimp only [zA,fA];skip)))
 have hg1:=hle
 have hob:=lR hw hrep
 unfold ir at hob
 have cx_out:=kq hw hrep oM
 repeat' (first | refine jR ?_ | (refine jo ?_;refine ac F F F cx_out F ?_))
 refine aU (ι:=adE × Int × Int × Gh) (fun j=>Gh.le G1 j.2.2.2 ∧ (0 ≤ j.2.1 ∧ j.2.1 ≤ 3) ∧ (1 ≤ j.1.length ∧ j.1.length ≤ 2 * ns (j.2.1.toNat + 1)) ∧ p ≤ j.2.2.1 ∧ j.2.2.1 ≤ p + 500000 * (4 - j.2.1)) (fun j=>[(0,Pt r 0),(2,S k),(7,.slice av1 vs1.length cv1),(9,S j.1),(10,I j.2.1)]) (fun j=>j.2.2.2) (fun j=>[dV r code j.2.2.1 c8]) (fun j=>j.2.1.toNat) (w1.out,3,q1,G1) ?_ tU F aZ (fun j Hj=>?_)
 ·refine ⟨Gh.le.refl _,by dsimp only;omega,⟨hone,?_⟩,by dsimp only;omega,by dsimp only;omega⟩
  show w1.out.length ≤ 2 * ns 4
  omega
 obtain ⟨t,d,q,Gq⟩:=j
 dsimp only at Hj ⊢
 obtain ⟨hgq,hd,⟨ht1,ht2⟩,hq3,hq4⟩:=Hj
 have hs2:=hs.mono ((hg0.trans hg1).trans hgq)
 clear cx_dv cx_out hrep
 by_cases hgo : 150 < t.length ∧ 0 < d
 ·obtain ⟨hgo1,hgo2⟩:=hgo
  have hcm:=wA d.toNat oM
  have cx_dv:=fun {p : Int} (hp : 0 ≤ p ∧ p + 500000 ≤ 600000000000)=>((sP hw hu1 d.toNat (k:=k) (deep:=d) oM oM oM hki).le hcm.2.1 (Nat.le_refl _)) Gq r code p l (hR1.mono (hg1.trans hgq)) hs2 hp
  repeat' (first | refine jR ?_ | (refine jo ?_;first | refine aK F ?_ | (refine cY F F F (cx_dv oM) F ?_;rintro _ G1 _ hle ⟨w1,b1,q1,rfl,hrep,htot,hone,rfl,hq1,hq2⟩;dsimp only [zA,fA];skip)) | refine aA F F (aD oM) ?_ | refine ab F (aD ‹_›) ?_)
  have hob:=lR hw hrep
  unfold ir at hob
  have cx_out:=kq hw hrep oM
  have e : (d - 1).toNat + 1 = d.toNat:=oM
  repeat' (first | refine jM ?_ | (refine jo ?_;refine ac F F F cx_out F ?_))
  exact a7 (w1.out,d - 1,q1,G1) ⟨hgq.trans hle,by dsimp only;omega,⟨hone,by dsimp only;rw [e];omega⟩,by dsimp only;omega,by dsimp only;omega⟩ (by dsimp only;omega) tU rfl aZ
 ·have hx : t.length ≤ 150 ∨ d ≤ 0:=oM
  have hl : t.length ≤ 8480:=by
   rcases hx with hx | hx
   ·omega
   ·have e : d = 0:=oM
    subst e
    have : ns (Int.toNat 0 + 1) = 4240:=by decide
    omega
  repeat' (first | refine jR ?_ | (refine jo ?_;first | refine aK F ?_ | refine aw F ?_ | (refine ai F F F (cR ?_ (by (repeat (assumption));done)) rfl ?_;(focus omega);rintro _ _ ⟨k,rfl,rfl,hk0,hk1⟩;dsimp only [zA,fA])) | refine eD F F (fun _=>?_) (fun _=>?_) | (refine ad F (by first | rfl | (refine decide_eq_false ?_;(omega))) ?_) | refine dJ F (fun _=>?_) (fun _=>?_))
  all_goals refine Nx.base hok hB ?_
  all_goals (first | exact aR (vs:=[_]) F ⟨F,trivial⟩ F aZ ⟨F,_,_,F,by (omega),F,oM,oM⟩ | skip)
  all_goals (refine ak (ar (id:=11) [] (fun _ h=>absurd h (by simp)) aj ?_);refine jW 7 [0,1,2,4,9,10,11,12] (aa 15 7703) ?_;refine cX [3,5] kR dC ⟨?_,?_,trivial⟩;(focus (refine bE F F ?_;(refine jF fun _=>?_);refine jK (aa 15 7711) ?_;refine jA 5 F ?_;((refine ai F F F (cR ?_ (by (repeat (assumption));done)) rfl ?_;(focus omega);rintro _ _ ⟨k,rfl,rfl,hk0,hk1⟩;dsimp only [zA,fA]));refine jK (aa 15 7743) ?_;((refine jG (aa 15 7807) 6 F (aT F F ?_) ?_;focus omega));refine jA 7 F ?_;((refine eX 64 F F F ?_ F (fun xs hxs=>?_);(focus ((simp only [List.length_append,List.length_cons,List.length_nil,List.length_take];omega);done))));refine jK (aa 15 7935) ?_;refine jW 0 [8,13,14] (aa 15 32767) ?_;refine jQ ?_));rotate_left 1;(focus (refine bE F F ?_;((refine ai F F F (cR ?_ (by (repeat (assumption));done)) rfl ?_;(focus omega);rintro _ _ ⟨k,rfl,rfl,hk0,hk1⟩;dsimp only [zA,fA]));refine jK (aa 15 7735) ?_;refine jA 3 F ?_;(refine jF fun _=>?_);refine jK (aa 15 7743) ?_;((refine jG (aa 15 7807) 6 F (aT F F ?_) ?_;focus omega));refine jA 7 F ?_;((refine eX 64 F F F ?_ F (fun xs hxs=>?_);(focus ((simp only [List.length_append,List.length_cons,List.length_nil,List.length_take];omega);done))));refine jK (aa 15 7935) ?_;refine jW 0 [8,13,14] (aa 15 32767) ?_;refine jQ ?_));rotate_left 1)
  all_goals repeat' (refine jR ?_)
  all_goals exact aR (vs:=[_]) F ⟨F,trivial⟩ F sB ⟨F,_,_,F,by (simp only [List.length_append,List.length_cons,List.length_nil,List.length_take,List.length_drop];omega),rfl,oM,oM⟩
theorem vB {r : Nat} {code : Value} {p : Int} {l : adE} (hp : 0 ≤ p ∧ p ≤ 400000000000) (hs : bq G code 1 l.length (bM l)) :
  cM adD 27 [Pt r 0] G [dV r code p c8] (fun v L'=>∃ s k x q,v = Tu [S s,S k,S x] ∧ (s.length ≤ 20000 ∧ k.length ≤ 400 ∧ x.length ≤ 20000) ∧ L' = [dV r code q c8] ∧ p ≤ q ∧ q ≤ p + 4000000):=by
 refine jH [(0,_)] Tryz.func27 Tryz.ntmps27 fun B hB hW=>?_
 repeat' (first | refine jR ?_ | (refine jo ?_;first | (refine ai F F F (tR ?_ (by (repeat (assumption));done)) rfl ?_;(focus omega);rintro _ _ ⟨sc,q1,rfl,hsc,rfl,hq1,hq2⟩;dsimp only [zA,fA]) | (refine ai F F F (wM ?_ (by (repeat (assumption));done) ?_) rfl ?_;(focus omega);(focus omega);rintro _ _ ⟨kd,q1,rfl,hkd,rfl,hq1,hq2⟩;dsimp only [zA,fA]) | (refine ai F F F (zY ?_ (by (repeat (assumption));done) ?_ ?_) rfl ?_;(focus omega);(focus omega);(focus omega);rintro _ _ ⟨tx,q1,rfl,htx,rfl,hq1,hq2⟩;dsimp only [zA,fA])))
 exact aR (vs:=[_,_,_]) F ⟨F,F,F,trivial⟩ F aZ ⟨F,_,_,_,_,F,⟨oM,oM,oM⟩,F,oM,oM⟩
def gn (s k w : adE) : Option (List adE):=match cW s k w with
 | some u=>if (u.leaves.all fun r=>decide (r.length ≤ 8)) = true then some (fU [] u) else none
 | none=>none
theorem k3 : ∀ (n : Nat) (v : V),v.tot ≤ n → ∀ r ∈ v.leaves,r.length ≤ n
 | 0,v,h,_,_=>by have:=iw v;omega
 | n + 1,.nd w x t ks,h,r,hr=>by
  rw [br] at h
  rw [V.leaves] at hr
  split at hr
  ·simp only [List.mem_singleton] at hr;subst hr;simp
  ·split at hr
   ·have : ∀ (ks : List V),V.tots ks ≤ n → r ∈ V.leavesF ks → r.length ≤ n:=fun ks=>by
     induction ks with
     | nil=>intro _ hr;rw [V.leavesF] at hr;cases hr
     | cons v ks ih =>
      intro ht hr
      rw [V.tots] at ht
      rw [V.leavesF] at hr
      rcases List.mem_append.1 hr with hr | hr
      ·exact k3 n v oM r hr
      ·exact ih oM hr
    have:=this ks oM hr
    omega
   ·obtain ⟨j,q,h1,rfl,h3⟩:=fO hr
    have:=eM h1
    have:=k3 n (ae ks j) oM q h3
    simp only [List.length_cons];omega
theorem qt {u : V} {i : Nat} (h : i < u.leaves.length) : ae (fU [] u) i = a9 (ae u.leaves i):=by
 unfold fU
 rw [aI (by simpa using h),aI h];simp
theorem jc {s k w : adE} (h : s.length ≤ 1048576 ∧ k.length ≤ 1048576 ∧ w.length ≤ 1048576) : bd adD 81 [S s,S k,S w] G (fun v G'=>∃ a c ls,v = Tu [.slice a ls.length c,Bo (gn s k w).isSome] ∧ bq G' (.slice a ls.length c) 1 ls.length (ax bY ls) ∧ (∀ l,gn s k w = some l → ls = l) ∧ (gn s k w = none → ls = [])):=by
 unfold gn
 cases hg : cW s k w with
 | none =>
  have cx_l40:=uD (G:=G) h hg
  refine jB [(0,_),(1,_),(2,_)] Tryz.func81 Tryz.ntmps81 fun B hok hB hW=>?_
  repeat' (first | refine jR ?_ | (refine jo ?_;first | refine jF fun _=>?_ | (refine aF F F F cx_l40 F ?_;rintro _ G hle ⟨uu,q1,rfl⟩;skip)) | refine ab F F ?_)
  rename_i x
  refine Nx.blkAcc (m:=0) (sz:=1) .here F ?_
  refine Nx.sealS (v:=.slice (some ⟨x,0,none⟩) 0 0) fun G2 hG2 hsl=>?_
  refine jZ (vs:=[_,_]) F ⟨F,F,trivial⟩ F ⟨(Gh.le.trans aS hG2),F,?_⟩
  exact ⟨_,_,[],F,hsl,fun l h=>(by cases h),fun _=>rfl⟩
 | some u =>
  obtain ⟨ts,hs,hki,hvo,hto,hwf⟩:=eU hg
  have hw:=b6 hs
  have cx_l4x:=z4 (G:=G) (s:=s) (k:=k) (w:=w) h hs hki hvo
  have hok:=rn hw (gg hvo)
  have hdp:=k3 u.tot u (Nat.le_refl _)
  have hll : (fU [] u).length = u.size:=uf
  have hl2 : u.leaves.length = u.size:=(iN u).symm
  have hsz:=mO u
  dsimp only
  refine jB [(0,_),(1,_),(2,_)] Tryz.func81 Tryz.ntmps81 fun B hok hB hW=>?_
  repeat' (first | refine jR ?_ | (refine jo ?_;first | refine jF fun _=>?_ | (refine aF F F F cx_l4x F ?_;rintro _ G hle ⟨av1,cv1,vs1,b1,rfl,hR1,hT1,hrep⟩;skip)) | refine ad F F ?_)
  rename_i y
  subst hT1
  refine Nx.blkAcc (m:=0) (sz:=1) .here F ?_
  have cx_lv:=wJ hw hrep [] (some ⟨y,0,none⟩) 0 0 [] rfl oM (by simp) (by simp only [List.length_nil];omega)
  repeat' (first | refine jR ?_ | (refine jo ?_;(refine ip F F F cx_lv F ?_;rintro _ _ ⟨av,cv,rfl,rfl⟩;dsimp only [zA,fA])))
  rw [Nat.zero_add]
  have hle0:=hle
  refine Nx.sealS (v:=.slice av u.size cv) fun G2 hG2 hsl=>?_
  have hok8 : ∀ i,i < u.leaves.length → cJ (ae (fU [] u) i) = if (ae u.leaves i).length ≤ 8 then some (ae u.leaves i) else none:=fun i hi=>by
   rw [qt hi];exact v5 (hok _ (bh hi)).1
  have hxl : ∀ i,i < u.leaves.length → (ae (fU [] u) i).length ≤ 1048576:=fun i hi=>by
   rw [qt hi]
   have h1:=eJ (hok _ (bh hi)).1
   have h2:=hdp _ (bh hi)
   omega
  have hall : (∀ i,i < u.leaves.length → (ae u.leaves i).length ≤ 8) → (u.leaves.all fun r=>decide (r.length ≤ 8)) = true:=fun h=>by
   rw [List.all_eq_true]
   intro r hr
   obtain ⟨i,hi,rfl⟩:=List.mem_iff_getElem.1 hr
   have:=h i hi
   rw [aI hi] at this
   exact decide_eq_true this
  have hex : ∀ i,i < u.leaves.length → ¬ (ae u.leaves i).length ≤ 8 → (u.leaves.all fun r=>decide (r.length ≤ 8)) = false:=fun i hi h=>by
   cases hb : u.leaves.all fun r=>decide (r.length ≤ 8) with
   | false=>rfl
   | true =>
    rw [List.all_eq_true] at hb
    exact absurd (of_decide_eq_true (hb _ (bh hi))) h
  clear cx_lv hok hdp
  generalize fU [] u = xs at *
  generalize u.leaves = ls at *
  obtain ⟨obv,hob⟩ : ∃ b,(ls.all fun r=>decide (r.length ≤ 8)) = b:=⟨_,rfl⟩
  rw [hob]
  rw [hob] at hall
  rw [← hll] at hsl ⊢
  refine aU (ι:=Nat × Gh) (fun i=>(i.1 ≤ xs.length ∧ ∀ j,j < i.1 → (ae ls j).length ≤ 8) ∧ Gh.le G i.2 ∧ bq i.2 (.slice av xs.length cv) 1 xs.length (ax bY xs)) (fun i=>[(11,.slice av xs.length cv),(12,I i.1)]) (fun i=>i.2) (fun i=>[]) (fun i=>xs.length - i.1) (0,G2) ?_ tU F aZ (fun i Hi=>?_)
  ·exact ⟨⟨Nat.zero_le _,fun j hj=>absurd hj (Nat.not_lt_zero _)⟩,hG2,hsl⟩
  obtain ⟨i,Gq⟩:=i
  dsimp only at Hi ⊢
  obtain ⟨⟨hi0,hj8⟩,hgq,hsq⟩:=Hi
  by_cases hi : i < xs.length
  ·obtain ⟨xb,xo,xc,e,hsx⟩:=hsq.expl oM
   simp only [Value.slice.injEq] at e
   obtain ⟨rfl,-,rfl⟩:=e
   have hxi : ae xs i = ae xs i:=rfl
   have hpo:=hok8 i oM
   by_cases h8 : (ae ls i).length ≤ 8
   ·rw [if_pos h8] at hpo
    have cx_sp:=mK (hxl i oM) hpo
    repeat' (first | refine jM ?_ | (refine jo ?_;first | refine jV (ag F) ?_ | refine jV (aq F F oM) ?_ | (refine jV (ew F F aS ?_) ?_;focus omega) | (refine aF F F F (cx_sp _) F ?_;rintro _ G hle ⟨sa,sc,sn,rfl,hsp⟩;skip)) | refine ab F (aD oM) ?_ | refine ad F F ?_)
    exact a7 (i + 1,_) ⟨⟨by dsimp only;omega,fun j hj=>by
     rcases Nat.lt_or_ge j i with h | h
     ·exact hj8 j h
     ·obtain rfl : j = i:=by dsimp only at hj;omega
      exact h8⟩,Gh.le.trans hgq aS,hsq.mono aS⟩ (by dsimp only;omega) tU rfl aZ
   ·rw [if_neg h8] at hpo
    have cx_sp:=oD (hxl i oM) hpo
    obtain rfl : obv = false:=by rw [← hob];exact hex i oM h8
    repeat' (first | refine jR ?_ | (refine jo ?_;first | refine jF fun _=>?_ | refine jV (ag F) ?_ | refine jV (aq F F oM) ?_ | (refine jV (ew F F aS ?_) ?_;focus omega) | (refine aF F F F (cx_sp _) F ?_;rintro _ G hle ⟨sa,sc,sn,rfl,hsp⟩;skip)) | (refine ab F (by first | rfl | (refine decide_eq_true ?_;(omega))) ?_))
    rename_i z
    refine Nx.blkAcc (m:=0) (sz:=1) .here F ?_
    refine Nx.sealS (v:=.slice (some ⟨z,0,none⟩) 0 0) fun G3 hG3 hsl3=>?_
    refine jZ (vs:=[_,_]) F ⟨F,F,trivial⟩ F ⟨(hle0.trans (hgq.trans (hle.trans hG3))),F,?_⟩
    exact ⟨_,_,[],F,hsl3,fun l h=>(by cases h),fun _=>rfl⟩
  ·obtain rfl : i = xs.length:=oM
   obtain rfl : obv = true:=hall fun j hj=>hj8 j oM
   repeat' (first | refine jR ?_ | (refine jo ?_;refine jV (ag F) ?_) | refine ad F (aE oM) ?_)
   refine jZ (vs:=[_,_]) F ⟨F,F,trivial⟩ F ⟨(hle0.trans hgq),F,?_⟩
   exact ⟨_,_,xs,F,hsq,fun l h=>by simpa using h,fun h=>(by cases h)⟩
theorem tL {s k w : adE} {ls : List adE} (h : gn s k w = some ls) : ∀ i,i < ls.length → (ae ls i).length ≤ 56:=fun i hi=>by
 unfold gn at h
 cases hg : cW s k w with
 | none=>rw [hg] at h;cases h
 | some u =>
  rw [hg] at h
  dsimp only at h
  split at h
  ·rename_i hall
   simp only [Option.some.injEq] at h
   subst h
   obtain ⟨ts,hs,hki,hvo,hto,hwf⟩:=eU hg
   have hok:=rn (b6 hs) (gg hvo)
   have hi2 : i < u.leaves.length:=by simpa [fU] using hi
   rw [qt hi2]
   have h1:=eJ (hok _ (bh hi2)).1
   rw [List.all_eq_true] at hall
   have h2:=of_decide_eq_true (hall _ (bh hi2))
   omega
  ·cases h
theorem wz {k : Nat} {s : adE} : 1 ≤ (aY k s).length:=by
 rw [kg]
 split <;> simp
theorem tM {s k w : adE} {ls : List adE} (h : gn s k w = some ls) : ls.length ≤ 40000:=by
 unfold gn at h
 cases hg : cW s k w with
 | none=>rw [hg] at h;cases h
 | some u =>
  rw [hg] at h
  dsimp only at h
  split at h
  ·simp only [Option.some.injEq] at h
   subst h
   obtain ⟨ts,hs,hki,hvo,hto,hwf⟩:=eU hg
   have:=mO u
   rw [uf];omega
  ·cases h
theorem rD {r : Nat} {code : Value} {p : Int} {l s k w : adE} (hp : 0 ≤ p ∧ p ≤ 500000000000) (hs : bq G code 1 l.length (bM l)) (hsz : s.length ≤ 1048576 ∧ k.length ≤ 1048576 ∧ w.length ≤ 1048576) :
  cM adD 45 [Pt r 0,S s,S k,S w] G [dV r code p c8] (fun v L'=>∃ x q,v = S x ∧ x.length ≤ 400 ∧ L' = [dV r code q c8] ∧ p ≤ q ∧ q ≤ p + 20):=by
 cases hl : gn s k w with
 | none =>
  have cx_pls : bd adD 81 [S s,S k,S w] G (fun v _=>∃ a n c,v = Tu [.slice a n c,Bo false]):=(jc hsz).mono fun v G' L' ⟨h1,h2,a,c,ls,h3,_⟩=>⟨h1,h2,a,ls.length,c,by rw [h3,hl];rfl⟩
  refine jB (Post:=fun v G' L'=>G' = G ∧ _) [(0,_),(1,_),(2,_),(3,_)] Tryz.func45 Tryz.ntmps45 fun B hok hB hW=>?_
  repeat' (first | refine jR ?_ | (refine jo ?_;first | refine aK F ?_ | refine jF fun _=>?_ | refine jV (aT F F oM) ?_ | (refine eX 64 F F F ?_ F (fun xs hxs=>?_);(focus ((simp only [List.length_append,List.length_cons,List.length_nil,List.length_take];omega);done))) | (refine aF F F F cx_pls F ?_;rintro _ G hle ⟨pa1,pn1,pc1,rfl⟩;skip) | (refine ai F F F (cR ?_ (by (repeat (first | assumption | refine bq.mono ?_ aS));done)) rfl ?_;(focus omega);rintro _ _ ⟨k,rfl,rfl,hk0,hk1⟩;dsimp only [zA,fA])) | refine aA F F F ?_ | refine ab F F ?_)
  all_goals refine Nx.base hok hB ?_
  all_goals exact aR (vs:=[_]) F ⟨F,trivial⟩ F sB ⟨F,_,_,F,by (omega),F,oM,oM⟩
 | some ls =>
  have hlen:=tL hl
  have hcnt:=tM hl
  by_cases hne : ls.length = 0
  ·have cx_plt : bd adD 81 [S s,S k,S w] G (fun v _=>∃ a n c,v = Tu [.slice a 0 c,Bo true] ∧ n = 0):=(jc hsz).mono fun v G' L' ⟨h1,h2,a,c,ls',h3,h4,h5,_⟩=>by
    obtain rfl:=h5 ls hl
    exact ⟨h1,h2,a,0,c,by rw [h3,hl];exact congrArg (fun n=>Tu [.slice a n c,Bo true]) hne,F⟩
   refine jB (Post:=fun v G' L'=>G' = G ∧ _) [(0,_),(1,_),(2,_),(3,_)] Tryz.func45 Tryz.ntmps45 fun B hok hB hW=>?_
   repeat' (first | refine jR ?_ | (refine jo ?_;first | refine jV (ag F) ?_ | refine aK F ?_ | refine aw F ?_ | refine jF fun _=>?_ | refine jV (aT F F oM) ?_ | (refine eX 64 F F F ?_ F (fun xs hxs=>?_);(focus ((simp only [List.length_append,List.length_cons,List.length_nil,List.length_take];omega);done))) | (refine aF F F F cx_plt F ?_;rintro _ G hle ⟨pa1,pn1,pc1,rfl,_⟩;skip) | (refine ai F F F (cR ?_ (by (repeat (first | assumption | refine bq.mono ?_ aS));done)) rfl ?_;(focus omega);rintro _ _ ⟨k,rfl,rfl,hk0,hk1⟩;dsimp only [zA,fA])) | refine aA F F F ?_ | refine am F F F ?_ | refine ab F F ?_)
   all_goals refine Nx.base hok hB ?_
   all_goals exact aR (vs:=[_]) F ⟨F,trivial⟩ F sB ⟨F,_,_,F,by (omega),F,oM,oM⟩
  ·have cx_plu : bd adD 81 [S s,S k,S w] G (fun v G'=>∃ b o c,v = Tu [.slice (some ⟨b,o,none⟩) ls.length c,Bo true] ∧ cH G' b o (ax bY ls)):=(jc hsz).mono fun v G' L' ⟨h1,h2,a,c,ls',h3,h4,h5,_⟩=>by
    obtain rfl:=h5 ls hl
    obtain ⟨b,o,c',e,hs⟩:=h4.expl oM
    simp only [Value.slice.injEq] at e
    obtain ⟨rfl,-,rfl⟩:=e
    exact ⟨h1,h2,b,o,c,by rw [h3,hl];rfl,hs⟩
   have hcl : ∀ i,i < ls.length → (ae (aY 47 (ae ls i)) 0).length ≤ 56:=fun i hi=>by
    have h1:=hlen i hi
    have h2:=wz (k:=47) (s:=ae ls i)
    have h3:=c6 (bh (show 0 < (aY 47 (ae ls i)).length by omega))
    omega
   have cx_cutg : ∀ {G : Gh} (i : Nat),i < ls.length → bd adD 82 [S (ae ls i),U8 47] G (fun v G'=>∃ b o c,v = .slice (some ⟨b,o,none⟩) (aY 47 (ae ls i)).length c ∧ 1 ≤ (aY 47 (ae ls i)).length ∧ cH G' b o (ax bY (aY 47 (ae ls i)))):=fun {G} i hi=>(ml (G:=G) (k:=47) (by have:=hlen i hi;omega)).mono fun v G' L' ⟨h1,h2,h3⟩=>by
    have h5:=wz (k:=47) (s:=ae ls i)
    obtain ⟨la,lc,rfl⟩:=h3.sl
    obtain ⟨b,o,c,e,hsg⟩:=h3.expl oM
    exact ⟨h1,h2,b,o,c,e,h5,hsg⟩
   clear hl
   refine jB (Post:=fun v G' L'=>G' = G ∧ _) [(0,_),(1,_),(2,_),(3,_)] Tryz.func45 Tryz.ntmps45 fun B hok hB hW=>?_
   repeat' (first | refine jR ?_ | (refine jo ?_;first | refine jV (ag F) ?_ | refine aw F ?_ | refine jF fun _=>?_ | refine jV (aT F F oM) ?_ | (refine eX 64 F F F ?_ F (fun xs hxs=>?_);(focus ((simp only [List.length_append,List.length_cons,List.length_nil,List.length_take];omega);done))) | (refine jV (ew F F aS ?_) ?_;focus omega) | (refine aF F F F cx_plu F ?_;rintro _ G hle ⟨pb1,po1,pc1,rfl,hlvs⟩;skip) | (refine ai F F F (cR ?_ (by (repeat (first | assumption | refine bq.mono ?_ aS));done)) rfl ?_;(focus omega);rintro _ _ ⟨k,rfl,rfl,hk0,hk1⟩;dsimp only [zA,fA]) | (refine aF F F F ((cx_cutg _) oM) F ?_;rintro _ G hle ⟨b1,o1,cap1,rfl,hcc,hseg⟩;skip)) | (refine am F F (by first | rfl | (refine decide_eq_false ?_;(omega))) ?_) | refine dJ F (fun _=>?_) (fun _=>?_))
   all_goals (first | (refine Nx.base hok hB ?_;exact aR (vs:=[_]) F ⟨F,trivial⟩ F sB ⟨F,_,_,F,by (omega),F,oM,oM⟩) | skip)
   all_goals refine Nx.base hok hB ?_
   ·exact aR (vs:=[_]) F ⟨F,trivial⟩ F aZ ⟨F,_,_,F,Nat.le_trans (hcl _ oM) dC,F,oM,oM⟩
   ·exact aR (vs:=[_]) F ⟨F,trivial⟩ F aZ ⟨F,_,_,F,Nat.le_trans (hlen _ oM) dC,F,oM,oM⟩
theorem yV {s k w p : adE} : (((dY s k w p).map (·.1)).getD []).length ≤ 400 ∧ (((dY s k w p).map (·.2)).getD []).length ≤ 400:=by
 cases h : dY s k w p with
 | none=>simp
 | some y =>
  obtain ⟨k1,x1⟩:=y
  obtain ⟨ts,u,q,v1,h1,h2,h3,h4,rfl⟩:=oI h
  obtain ⟨ts',g1,g2,g3,g4,g5⟩:=eU h2
  obtain rfl : ts = ts':=Option.some.inj (h1.symm.trans g1)
  have hw:=b6 h1
  obtain ⟨b1,b2,b3,b4⟩:=od h3
  have hq0 : ∀ n ∈ q,0 ≤ n:=fun n hn=>(b3 n hn).1
  have ho:=gg g3
  obtain ⟨c1,c2⟩:=fC hw ho g2 hq0 h4
  obtain ⟨d1,d2,d3⟩:=mE g3
  obtain ⟨e1,e2⟩:=fm hw ho g2 hq0 h4 d3 (by rw [d1];exact d2)
  have:=(cm (cE c2)).2
  exact ⟨by simpa using (by omega : k1.length ≤ 400),by simpa using e2⟩
theorem w3 {s k w : adE} : ((dN s k w).getD []).length ≤ 600:=by
 cases h : dN s k w with
 | none=>simp
 | some b=>exact vI h
theorem qb {v : Value} {l : adE} (hs : bq G v 1 l.length (bM l)) : aG adD 16 [v] G (fun r=>∃ s k x p,r = Tu [S s,S k,S x,S p] ∧ s.length ≤ 1048576 ∧ k.length ≤ 1048576 ∧ x.length ≤ 1048576 ∧ p.length ≤ 1048576):=by
 refine jE [(0,_)] Tryz.func16 Tryz.ntmps16 fun B hB=>?_
 repeat' (first | refine jR ?_ | (refine jo ?_;first | (refine fg F F F (xV (by (repeat (assumption));done)) rfl ?_;rintro _ _ ⟨b,code,l,rfl,rfl,hcd,hcl⟩;dsimp only [zA,fA]) | (refine ai F F F (vB ?_ (by (repeat (assumption));done)) rfl ?_;(focus omega);rintro _ _ ⟨sc,kd,tx,q1,rfl,⟨hsc,hkd,htx⟩,rfl,hq1,hq2⟩;dsimp only [zA,fA])))
 have cx_bp1:=tV (G:=G) (s:=sc) (k:=kd) (w:=tx) ⟨oM,oM,oM⟩
 have hbl:=w3 (s:=sc) (k:=kd) (w:=tx)
 generalize (dN sc kd tx).getD [] = b at *
 generalize (dN sc kd tx).isSome = ok at *
 repeat' (first | refine jR ?_ | (refine jo ?_;first | refine aK F ?_ | refine aw F ?_ | refine ac F F F cx_bp1 F ?_ | (refine ai F F F (cR ?_ (by (repeat (assumption));done)) rfl ?_;(focus omega);rintro _ _ ⟨k,rfl,rfl,hk0,hk1⟩;dsimp only [zA,fA]) | (refine ai F F F (rD ?_ (by (repeat (assumption));done) ?_) rfl ?_;(focus omega);(focus omega);rintro _ _ ⟨pth,q1,rfl,hpth,rfl,hq1,hq2⟩;dsimp only [zA,fA])) | refine eD F F (fun _=>?_) (fun _=>?_) | refine ad F F ?_ | refine dJ F (fun _=>?_) (fun _=>?_))
 (refine ak (ar (id:=5) [] (fun _ h=>absurd h (by simp)) aj ?_);refine jW 6 [0,1,2,3,4,5] (aa 12 63) ?_;refine jA 6 F ?_;((refine ai F F F (cR ?_ (by (repeat (assumption));done)) rfl ?_;(focus omega);rintro _ _ ⟨k,rfl,rfl,hk0,hk1⟩;dsimp only [zA,fA]));refine jS (aa 12 127) ?_;refine jT 4 [7] (aa 12 255) ?_;refine jA 8 F ?_;(refine jF fun _=>?_);refine jS (aa 12 511) ?_;((refine jG (aa 12 1023) 9 F (dU F F (by (repeat (first | exact BL.nil | apply BL.cons));done)) ?_));refine jW 0 [10,11] (aa 12 4095) ?_;refine jQ ?_)
 all_goals repeat' (first | refine jR ?_ | (refine jo ?_;(refine ai F F F (rD ?_ (by (repeat (assumption));done) ?_) rfl ?_;(focus omega);(focus omega);rintro _ _ ⟨pth,q1,rfl,hpth,rfl,hq1,hq2⟩;dsimp only [zA,fA])))
 all_goals exact jZ (vs:=[_,_,_,_]) F ⟨F,F,F,F,trivial⟩ F ⟨F,F,_,_,_,_,F,oM,oM,by (first | omega | (simp only [List.length_append,List.length_cons,List.length_nil,List.length_take,List.length_drop];omega)),oM⟩
theorem sf {s k b p x : adE} (h : em s k b p = some x) : ∃ v kk t,dM s k b = some v ∧ dY s k v.out p = some (kk,t) ∧ dN s kk t = some x ∧ v.out.length ≤ 400 ∧ kk.length ≤ 400 ∧ t.length ≤ 400:=by
 unfold em at h
 split at h
 ·rename_i v hv
  split at h
  ·rename_i y hy
   obtain ⟨kk,t⟩:=y
   have hl:=yV (s:=s) (k:=k) (w:=v.out) (p:=p)
   rw [hy] at hl
   obtain ⟨ts,_,_,_,_,_,h6,_⟩:=hC hv
   exact ⟨v,kk,t,hv,hy,h,h6,hl.1,hl.2⟩
  ·cases h
 ·cases h
theorem rL {v : Value} {l : adE} (hs : bq G v 1 l.length (bM l)) : aG adD 7 [v] G (· = Bo true):=by
 obtain ⟨a,cap,rfl⟩:=hs.sl
 refine jE [(0,_)] Tryz.func7 Tryz.ntmps7 fun B hB=>?_
 repeat' (first | refine jR ?_ | (refine jo ?_;first | refine jV (ag F) ?_ | (refine dn F F F (qb (by (repeat (assumption));done)) rfl ?_;rintro _ ⟨s1,k1,x1,p1,rfl,hsz⟩)) | refine dJ F (fun _=>?_) (fun _=>?_))
 ·refine jY (vs:=[_]) ?_
  rfl
 have cx_pb1:=tr (G:=G) hsz
 have cx_pb2:=tq (G:=G) hsz
 unfold ob at cx_pb1 cx_pb2
 cases h : em s1 k1 x1 p1 with
 | none =>
  rw [h] at cx_pb1 cx_pb2
  simp only [Option.getD_none,Option.isSome_none] at cx_pb1 cx_pb2
  repeat' (first | refine jR ?_ | (refine jo ?_;first | refine aK F ?_ | refine aw F ?_ | refine ac F F F cx_pb1 F ?_ | refine ac F F F cx_pb2 F ?_) | refine aA F F F ?_ | refine am F F F ?_ | refine ab F F ?_)
  all_goals refine jY (vs:=[_]) ?_
  all_goals rfl
 | some x =>
  obtain ⟨u,kk,t,h1,h2,h3,l1,l2,l3⟩:=sf h
  rw [h] at cx_pb1 cx_pb2
  have cx_bg1:=k8 (G:=G) (s:=s1) (k:=k1) (b:=x1) ⟨hsz.1,hsz.2.1,hsz.2.2.1⟩
  rw [mc h1] at cx_bg1
  have cx_pg1:=p9 (G:=G) (s:=s1) (k:=k1) (w:=u.out) (p:=p1) ⟨hsz.1,hsz.2.1,oM,hsz.2.2.2⟩
  have cx_bp1:=k7 (G:=G) (s:=s1) (k:=kk) (w:=t) ⟨hsz.1,oM,oM⟩
  rw [h2] at cx_pg1
  rw [h3] at cx_bp1
  unfold ob at cx_bg1
  unfold pgR at cx_pg1
  simp only [Option.getD_some,Option.isSome_some,Option.map_some] at cx_pb1 cx_pb2 cx_bg1 cx_pg1 cx_bp1
  clear h h1 h2 h3
  generalize u.out = uo at *
  repeat' (first | refine jR ?_ | (refine jo ?_;first | refine aK F ?_ | refine aw F ?_ | refine ac F F F cx_pb1 F ?_ | refine ac F F F cx_pb2 F ?_ | refine ac F F F cx_bg1 F ?_ | refine ac F F F cx_pg1 F ?_ | refine ac F F F cx_bp1 F ?_) | (refine aA F F (by first | rfl | (refine decide_eq_true ?_;(rfl))) ?_) | refine am F F F ?_ | refine ad F F ?_)
  all_goals refine jY (vs:=[_]) ?_
  all_goals (exact congrArg Value.bool (decide_eq_true F))
end Go.E
