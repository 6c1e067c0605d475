/- Contracts and plain laws that the statement rests on, part 6. Conditions: as each says. -/
import Derived.Test.YtglhncibfmhblabGreatDoorU5
set_option linter.unusedVariables false
set_option linter.unusedSimpArgs false
namespace Go.E
set_option maxRecDepth 20000
set_option maxHeartbeats 2000000
open Go.Proofs
variable {G : Gh}
theorem abc {n : Nat} {u : Value} {vs : List bZ} {a : Option Addr} {ca : Nat} {nm : ac1} {fs : List Fld} {k s : ac1} (h : SchR G u vs) (hw : SchW (af vs)) (hr : eQ vs (64 :: k) = some ((a,ca),⟨69,nm,fs⟩)) (hk : ep (64 :: k) = true) (hkl : k.length ≤ 999) (hs : s.length ≤ 1000) (hn : n ≤ 999) :
  bi ac0 109 [Ag [u],S s,S (64 :: k),I (n + 1 : Nat)] G (cq (af vs) (bT (af vs) (rb (af vs) n) ⟨69,nm,fs⟩ s) (64 :: k)):=by
 have hk0 : bt (64 :: k) (Int.toNat 0) = 64:=a6 64 k
 have hkl2 : (64 :: k).length = k.length + 1:=rfl
 have hvl : vs.length ≤ 8:=by have:=hw.len;unfold af at this;simpa using this
 have href:=fU vs (64 :: k)
 rw [hr] at href
 have cx_rf:=kx (G:=G) (k:=64 :: k) h oM hk oM
 rw [hr] at cx_rf
 have cx_rf : aC ac0 113 [u,S (64 :: k)] G (· = Tu [Ag [U8 (69 : Nat),S nm,.slice a fs.length ca],Bo true]):=cx_rf
 have hxm:=fK hr
 have hxt : (⟨69,nm,fs⟩ : Ty) ∈ af vs:=List.mem_map_of_mem hxm
 have hTW:=hw.ty _ hxt
 have hfl:=hTW.len
 dsimp only at hfl
 have hrd : bT (af vs) (rb (af vs) n) ⟨69,nm,fs⟩ s = match bm s with
   | none=>none
   | some (m,r)=>match br fs m with
    | none=>none
    | some d=>some (.nd 69 [] d.tag [],r):=by
  unfold bT
  rw [if_neg (by simp)]
  rcases bm s with _ | ⟨m,r⟩
  ·rfl
  ·dsimp only
   rcases br fs m with _ | d
   ·rfl
   ·dsimp only;rw [if_pos rfl]
 rw [hrd]
 have cx_ng0:=eZ (G:=G) (s:=s) oM
 cases hg : bm s with
 | none =>
  rw [hg] at cx_ng0
  have cx_ng : aC ac0 71 [S s] G (· = Tu [I 0,S [],Bo false]):=cx_ng0
  clear cx_ng0
  have cx_f0:=gF (G:=G) (x:=((a,ca),⟨69,nm,fs⟩)) (tag:=0) (h.fl _ hxm) (by dsimp only;omega)
  have hd : br fs 0 = none:=kl hTW
  rw [hd] at cx_f0
  have cx_fld : aC ac0 114 [Ag [U8 (69 : Nat),S nm,.slice a fs.length ca],I 0] G (· = Tu [Ag [I 0,S [],S [],S []],Bo false]):=cx_f0
  refine jB [(0,_),(1,_),(2,_),(3,_)] Tryz.func109 Tryz.ntmps109 fun B hok hB hW=>?_
  repeat' (first | refine jR ?_ | (refine jo ?_;first | refine jO fun _=>?_ | refine ak F ?_ | refine aN F ?_ | refine jL fun _=>?_ | refine jC F F F ?_ | refine aH F ?_ | refine ab F F F cx_rf F ?_ | refine ab F F F cx_ng F ?_ | refine ab F F F cx_fld F ?_) | refine ax F F F ?_ | refine ac F F ?_ | refine ad F F ?_)
  all_goals refine jZ (vs:=[_,_,_]) F ⟨F,F,F,trivial⟩ F ⟨Gh.le.refl _,F,?_⟩
  all_goals exact f5 F
 | some z =>
  obtain ⟨m,r⟩:=z
  obtain ⟨h1,h2,_⟩:=cF hg
  have hl:=bU hg
  rw [hg] at cx_ng0
  have cx_ng : aC ac0 71 [S s] G (· = Tu [I m,S r,Bo true]):=cx_ng0
  clear cx_ng0
  have cx_f0:=gF (G:=G) (x:=((a,ca),⟨69,nm,fs⟩)) (tag:=m) (h.fl _ hxm) (by dsimp only;omega)
  dsimp only
  cases hd : br fs m with
  | none =>
   rw [hd] at cx_f0
   have cx_fld : aC ac0 114 [Ag [U8 (69 : Nat),S nm,.slice a fs.length ca],I m] G (· = Tu [Ag [I 0,S [],S [],S []],Bo false]):=cx_f0
   refine jB [(0,_),(1,_),(2,_),(3,_)] Tryz.func109 Tryz.ntmps109 fun B hok hB hW=>?_
   repeat' (first | refine jR ?_ | (refine jo ?_;first | refine jO fun _=>?_ | refine ak F ?_ | refine aN F ?_ | refine jL fun _=>?_ | refine jC F F F ?_ | refine aw F ?_ | refine ab F F F cx_rf F ?_ | refine ab F F F cx_ng F ?_ | refine ab F F F cx_fld F ?_) | refine aj F F F ?_ | refine ac F F ?_ | refine ad F F ?_)
   all_goals refine jZ (vs:=[_,_,_]) F ⟨F,F,F,trivial⟩ F ⟨Gh.le.refl _,F,?_⟩
   all_goals exact f5 F
  | some d =>
   rw [hd] at cx_f0
   have cx_fld : aC ac0 114 [Ag [U8 (69 : Nat),S nm,.slice a fs.length ca],I m] G (· = Tu [Ag [I d.tag,S d.name,S d.kind,S d.stand],Bo true]):=cx_f0
   have hdm : d ∈ fs:=List.mem_of_find?_eq_some hd
   have hdt : d.tag = m:=(iE hd).1
   refine jB [(0,_),(1,_),(2,_),(3,_)] Tryz.func109 Tryz.ntmps109 fun B hok hB hW=>?_
   repeat' (first | refine jR ?_ | (refine jo ?_;first | refine jO fun _=>?_ | refine ak F ?_ | refine aN F ?_ | refine jL fun _=>?_ | refine jC F F F ?_ | refine aw F ?_ | refine jF fun _=>?_ | refine jV (an F F) ?_ | refine ab F F F cx_rf F ?_ | refine ab F F F cx_ng F ?_ | refine ab F F F cx_fld F ?_) | refine aj F F F ?_ | refine ac F F ?_ | refine ad F F ?_)
   all_goals
    rename_i y1 y8
    refine Nx.sealC (b:=y1) fun G2 hG2 hs1=>?_
    refine Nx.sealC (b:=y8) fun G3 hG3 hsg=>?_
    refine jZ (vs:=[_,_,_]) F ⟨F,F,F,trivial⟩ F ⟨(hG2.trans hG3),F,?_⟩
    rw [← hdt] at hs1
    exact pr F (.enm (64 :: k) y8 y1 ⟨69,nm,fs⟩ d ⟨href.symm,F⟩ hdm hsg (hs1.mono hG3))
theorem aa4 {n : Nat} {u : Value} {vs : List bZ} {a : Option Addr} {ca : Nat} {nm : ac1} {fs : List Fld} {k s : ac1} (hR : l3 n u vs) (h : SchR G u vs) (hw : SchW (af vs)) (hr : eQ vs (64 :: k) = some ((a,ca),⟨85,nm,fs⟩)) (hk : ep (64 :: k) = true) (hkl : k.length ≤ 999) (hs : s.length ≤ 1000) (hn : n ≤ 999) :
  bi ac0 109 [Ag [u],S s,S (64 :: k),I (n + 1 : Nat)] G (cq (af vs) (bT (af vs) (rb (af vs) n) ⟨85,nm,fs⟩ s) (64 :: k)):=by
 have edn : ((n + 1 : Nat) : Int) - 1 = (n : Nat):=oM
 have hk0 : bt (64 :: k) (Int.toNat 0) = 64:=a6 64 k
 have hkl2 : (64 :: k).length = k.length + 1:=rfl
 have hvl : vs.length ≤ 8:=by have:=hw.len;unfold af at this;simpa using this
 have href:=fU vs (64 :: k)
 rw [hr] at href
 have cx_rf:=kx (G:=G) (k:=64 :: k) h oM hk oM
 rw [hr] at cx_rf
 have cx_rf : aC ac0 113 [u,S (64 :: k)] G (· = Tu [Ag [U8 (85 : Nat),S nm,.slice a fs.length ca],Bo true]):=cx_rf
 have hxm:=fK hr
 have hxt : (⟨85,nm,fs⟩ : Ty) ∈ af vs:=List.mem_map_of_mem hxm
 have hTW:=hw.ty _ hxt
 have hfl:=hTW.len
 dsimp only at hfl
 have hrd : bT (af vs) (rb (af vs) n) ⟨85,nm,fs⟩ s = match bm s with
   | none=>none
   | some (m,r)=>match br fs m with
    | none=>none
    | some d=>match cg r with
     | none=>none
     | some (p,r')=>(cN (rb (af vs) n) d.kind p).map fun v=>(.nd 85 [] d.tag [v],r'):=by
  unfold bT
  rw [if_neg (by simp)]
  rcases bm s with _ | ⟨m,r⟩
  ·rfl
  ·dsimp only
   rcases br fs m with _ | d
   ·rfl
   ·dsimp only;rw [if_neg (by simp)]
    all_goals (rcases cg r with _ | ⟨p,r'⟩ <;> rfl)
 rw [hrd]
 have cx_ng0:=eZ (G:=G) (s:=s) oM
 cases hg : bm s with
 | none =>
  rw [hg] at cx_ng0
  have cx_ng : aC ac0 71 [S s] G (· = Tu [I 0,S [],Bo false]):=cx_ng0
  clear cx_ng0
  have cx_f0:=gF (G:=G) (x:=((a,ca),⟨85,nm,fs⟩)) (tag:=0) (h.fl _ hxm) (by dsimp only;omega)
  have hd : br fs 0 = none:=kl hTW
  rw [hd] at cx_f0
  have cx_fld : aC ac0 114 [Ag [U8 (85 : Nat),S nm,.slice a fs.length ca],I 0] G (· = Tu [Ag [I 0,S [],S [],S []],Bo false]):=cx_f0
  refine jB [(0,_),(1,_),(2,_),(3,_)] Tryz.func109 Tryz.ntmps109 fun B hok hB hW=>?_
  repeat' (first | refine jR ?_ | (refine jo ?_;first | refine jO fun _=>?_ | refine ak F ?_ | refine aN F ?_ | refine jL fun _=>?_ | refine jC F F F ?_ | refine aH F ?_ | refine ab F F F cx_rf F ?_ | refine ab F F F cx_ng F ?_ | refine ab F F F cx_fld F ?_) | refine ax F F F ?_ | refine ac F F ?_ | refine ad F F ?_)
  all_goals refine jZ (vs:=[_,_,_]) F ⟨F,F,F,trivial⟩ F ⟨Gh.le.refl _,F,?_⟩
  all_goals exact f5 F
 | some z =>
  obtain ⟨m,r⟩:=z
  obtain ⟨h1,h2,_⟩:=cF hg
  have hl:=bU hg
  rw [hg] at cx_ng0
  have cx_ng : aC ac0 71 [S s] G (· = Tu [I m,S r,Bo true]):=cx_ng0
  clear cx_ng0
  have cx_f0:=gF (G:=G) (x:=((a,ca),⟨85,nm,fs⟩)) (tag:=m) (h.fl _ hxm) (by dsimp only;omega)
  dsimp only
  cases hd : br fs m with
  | none =>
   rw [hd] at cx_f0
   have cx_fld : aC ac0 114 [Ag [U8 (85 : Nat),S nm,.slice a fs.length ca],I m] G (· = Tu [Ag [I 0,S [],S [],S []],Bo false]):=cx_f0
   refine jB [(0,_),(1,_),(2,_),(3,_)] Tryz.func109 Tryz.ntmps109 fun B hok hB hW=>?_
   repeat' (first | refine jR ?_ | (refine jo ?_;first | refine jO fun _=>?_ | refine ak F ?_ | refine aN F ?_ | refine jL fun _=>?_ | refine jC F F F ?_ | refine aw F ?_ | refine ab F F F cx_rf F ?_ | refine ab F F F cx_ng F ?_ | refine ab F F F cx_fld F ?_) | refine aj F F F ?_ | refine ac F F ?_ | refine ad F F ?_)
   all_goals refine jZ (vs:=[_,_,_]) F ⟨F,F,F,trivial⟩ F ⟨Gh.le.refl _,F,?_⟩
   all_goals exact f5 F
  | some d =>
   rw [hd] at cx_f0
   have cx_fld : aC ac0 114 [Ag [U8 (85 : Nat),S nm,.slice a fs.length ca],I m] G (· = Tu [Ag [I d.tag,S d.name,S d.kind,S d.stand],Bo true]):=cx_f0
   have hdm : d ∈ fs:=List.mem_of_find?_eq_some hd
   have hdt : d.tag = m:=(iE hd).1
   have hdk : aE (af vs) d.kind = true:=dK hw hxt (by dsimp only;omega) hdm
   have cx_tk0:=oE (G:=G) (s:=r) oM
   dsimp only
   cases ht : cg r with
   | none =>
    rw [ht] at cx_tk0
    have cx_tk : aC ac0 38 [S r] G (· = Tu [S [],S [],Bo false]):=cx_tk0
    refine jB [(0,_),(1,_),(2,_),(3,_)] Tryz.func109 Tryz.ntmps109 fun B hok hB hW=>?_
    repeat' (first | refine jR ?_ | (refine jo ?_;first | refine jO fun _=>?_ | refine ak F ?_ | refine aN F ?_ | refine jL fun _=>?_ | refine jC F F F ?_ | refine aw F ?_ | refine ab F F F cx_rf F ?_ | refine ab F F F cx_ng F ?_ | refine ab F F F cx_fld F ?_ | refine ab F F F cx_tk F ?_) | refine aj F F F ?_ | refine ac F F ?_ | refine ad F F ?_)
    all_goals refine jZ (vs:=[_,_,_]) F ⟨F,F,F,trivial⟩ F ⟨Gh.le.refl _,F,?_⟩
    all_goals exact f5 F
   | some y =>
    obtain ⟨p,r'⟩:=y
    have hl2:=d8 ht
    rw [ht] at cx_tk0
    have cx_tk : aC ac0 38 [S r] G (· = Tu [S p,S r',Bo true]):=cx_tk0
    dsimp only
    cases hf : cN (rb (af vs) n) d.kind p with
    | none =>
     have cx_wh0:=oA (G:=G) hR h hdk oM oM hf
     rw [← edn] at cx_wh0
     refine jB [(0,_),(1,_),(2,_),(3,_)] Tryz.func109 Tryz.ntmps109 fun B hok hB hW=>?_
     repeat' (first | refine jM ?_ | (refine jo ?_;first | refine jO fun _=>?_ | refine ak F ?_ | refine aN F ?_ | refine jL fun _=>?_ | refine jC F F F ?_ | refine aw F ?_ | refine jF fun _=>?_ | refine jV (an F F) ?_ | refine ab F F F cx_rf F ?_ | refine ab F F F cx_ng F ?_ | refine ab F F F cx_fld F ?_ | refine ab F F F cx_tk F ?_ | (refine aK F F F cx_wh0 F ?_;rintro _ G hle ⟨q1,rfl⟩;skip)) | refine aj F F F ?_ | refine ad F F ?_)
     all_goals refine jZ (vs:=[_,_,_]) F ⟨F,F,F,trivial⟩ F ⟨hle,F,?_⟩
     all_goals exact f5 F
    | some w =>
     have cx_wh1:=lQ (G:=G) hR h hdk oM oM hf
     rw [← edn] at cx_wh1
     refine jB [(0,_),(1,_),(2,_),(3,_)] Tryz.func109 Tryz.ntmps109 fun B hok hB hW=>?_
     repeat' (first | refine jM ?_ | (refine jo ?_;first | refine jO fun _=>?_ | refine ak F ?_ | refine aN F ?_ | refine jL fun _=>?_ | refine jC F F F ?_ | refine aw F ?_ | refine jF fun _=>?_ | refine jV (an F F) ?_ | refine ab F F F cx_rf F ?_ | refine ab F F F cx_ng F ?_ | refine ab F F F cx_fld F ?_ | refine ab F F F cx_tk F ?_ | (refine aK F F F cx_wh1 F ?_;rintro _ G hle ⟨wb,rfl,hrep⟩;skip)) | refine aj F F F ?_ | refine ad F F ?_)
     all_goals
      rename_i y1 y2 y8
      refine Nx.sealC (b:=y1) fun G2 hG2 hs1=>?_
      refine Nx.sealC (b:=y2) fun G3 hG3 hs2=>?_
      refine Nx.sealC (b:=y8) fun G4 hG4 hsg=>?_
      refine jZ (vs:=[_,_,_]) F ⟨F,F,F,trivial⟩ F ⟨(((hle.trans hG2).trans hG3).trans hG4),F,?_⟩
      rw [← hdt] at hs1
      exact pr F (.uni (64 :: k) y8 y1 y2 wb 1 ⟨85,nm,fs⟩ d w (Nat.le_refl _) ⟨href.symm,F⟩ hdm hsg ((hs1.mono hG3).mono hG4) (hs2.mono hG4) (hrep.mono ((hG2.trans hG3).trans hG4)))
theorem aa6 {n : Nat} {u : Value} {vs : List bZ} {a : Option Addr} {ca : Nat} {nm : ac1} {fs : List Fld} {k s : ac1} (hR : l3 n u vs) (h : SchR G u vs) (hw : SchW (af vs)) (hr : eQ vs (64 :: k) = some ((a,ca),⟨82,nm,fs⟩)) (hk : ep (64 :: k) = true) (hkl : k.length ≤ 999) (hs : s.length ≤ 1000) (hn : n ≤ 999) :
  bi ac0 109 [Ag [u],S s,S (64 :: k),I (n + 1 : Nat)] G (cq (af vs) (bT (af vs) (rb (af vs) n) ⟨82,nm,fs⟩ s) (64 :: k)):=by
 have hk0 : bt (64 :: k) (Int.toNat 0) = 64:=a6 64 k
 have hkl2 : (64 :: k).length = k.length + 1:=rfl
 have hvl : vs.length ≤ 8:=by have:=hw.len;unfold af at this;simpa using this
 have cx_rf:=kx (G:=G) (k:=64 :: k) h oM hk oM
 rw [hr] at cx_rf
 have cx_rf : aC ac0 113 [u,S (64 :: k)] G (· = Tu [Ag [U8 (82 : Nat),S nm,.slice a fs.length ca],Bo true]):=cx_rf
 have cx_fds:=wh (G:=G) (s:=s) hR h hw hr hk hkl hs hn
 have hrd : bT (af vs) (rb (af vs) n) ⟨82,nm,fs⟩ s = (bM (af vs) (rb (af vs) n) ⟨82,nm,fs⟩ (s.length + 1) 0 s []).map fun x=>(.nd 82 [] 0 x.1,x.2):=by
  unfold bT;rw [if_pos rfl]
 rw [hrd]
 refine jB [(0,_),(1,_),(2,_),(3,_)] Tryz.func109 Tryz.ntmps109 fun B hok hB hW=>?_
 repeat' (first | refine jR ?_ | (refine jo ?_;first | refine jO fun _=>?_ | refine ak F ?_ | refine aN F ?_ | refine jL fun _=>?_ | refine jC F F F ?_ | refine ab F F F cx_rf F ?_ | (refine aK F F F cx_fds F ?_;rintro _ G hle ⟨q1,r1,ok1,rfl,hyes,hno⟩;skip)) | refine ac F F ?_)
 all_goals refine jZ (vs:=[_,_,_]) F ⟨F,F,F,trivial⟩ F ⟨hle,F,?_⟩
 all_goals (rw [aF];exact ⟨_,_,_,F,hyes,hno⟩)
def cD (s : ac1) : ac1 × Nat × Bool :=
 if bt s 0 ≠ 126 then ([],0,false)
 else if s.length = 1 then ([],0,true)
 else if 100 < bt s 1 then ([],0,false)
 else if s.length < 2 + bt s 1 then ([],0,true)
 else
  let body:=(s.take (2 + bt s 1)).drop 2
  if (frame body).isPrefixOf s then (body,(frame body).length,false)
  else if s.isPrefixOf (frame body) then ([],0,true)
  else ([],0,false)
def fg (s : ac1) : List ac1 × Nat × ac1 :=
 if h : s = [] then ([],0,[])
 else if 0 < (cD s).2.1 then
  let r:=fg (s.drop (cD s).2.1)
  ((cD s).1 :: r.1,r.2.1,r.2.2)
 else if (cD s).2.2 then ([],0,s)
 else
  let r:=fg (s.drop 1)
  (r.1,r.2.1 + 1,r.2.2)
termination_by s.length
decreasing_by
 all_goals simp only [List.length_drop]
 all_goals have:=List.length_pos_iff.2 h
 all_goals omega
theorem pw : fg [] = ([],0,[]):=by rw [fg];simp
theorem px {s : ac1} (h : s ≠ []) (h1 : 0 < (cD s).2.1) : fg s = ((cD s).1 :: (fg (s.drop (cD s).2.1)).1,(fg (s.drop (cD s).2.1)).2.1,(fg (s.drop (cD s).2.1)).2.2):=by
 rw [fg];simp [h,h1]
theorem r8 {s : ac1} (h : s ≠ []) (h1 : ¬ 0 < (cD s).2.1) (h2 : (cD s).2.2 = true) : fg s = ([],0,s):=by
 rw [fg];simp [h,h1,h2]
theorem qc {s : ac1} (h : s ≠ []) (h1 : ¬ 0 < (cD s).2.1) (h2 : (cD s).2.2 = false) : fg s = ((fg (s.drop 1)).1,(fg (s.drop 1)).2.1 + 1,(fg (s.drop 1)).2.2):=by
 rw [fg];simp [h,h1,h2]
def ci (s : ac1) : List ac1 × Nat × ac1:=if s.length ≤ 2000 then fg s else ([],0,[])
theorem yJ (s : ac1) : (cD s).2.1 ≤ s.length:=by
 unfold cD
 split;· simp
 split;· simp
 split;· simp
 split;· simp
 simp only
 split
 ·rename_i h
  exact (List.isPrefixOf_iff_prefix.1 h).length_le
 split <;> simp
theorem rZ {b : ac1} (h : b.length ≤ 100) : frame b = u8 126 :: u8 b.length :: (b ++ a7 (dy b)):=by
 simp [frame,fy (n:=b.length) oM oM]
theorem xw (c : UInt8) (l : ac1) : bt (c :: l) 0 = c.toNat:=by simp [bt,List.getD]
theorem xv (c d : UInt8) (l : ac1) : bt (c :: d :: l) 1 = d.toNat:=by simp [bt,List.getD]
theorem ma {k : Nat} (h : k < 256) : (u8 (k : Int)).toNat = k:=by have:=eP (a:=(k : Int)) oM;omega
theorem lF {b r : ac1} (h : b.length ≤ 100) : cD (frame b ++ r) = (b,(frame b).length,false):=by
 have e:=rZ h
 have e1 : bt (frame b ++ r) 0 = 126:=by rw [e,List.cons_append,xw];exact ma dC
 have e2 : bt (frame b ++ r) 1 = b.length:=by rw [e,List.cons_append,List.cons_append,xv];exact ma oM
 have e3 : (frame b ++ r).length = b.length + 2 + (a7 (dy b)).length + r.length:=by rw [e];simp;omega
 have e4 : ((frame b ++ r).take (2 + b.length)).drop 2 = b:=by
  rw [e];simp [Nat.add_comm 2,List.take_append]
 unfold cD
 rw [e1,if_neg (by simp),if_neg (by rw [e3];have : (a7 (dy b)).length ≠ 0:=by { unfold a7;rw [num];split <;> simp };omega),e2,if_neg oM,if_neg oM,e4]
 simp
theorem kh {b : ac1} (h : b.length ≤ 100) : ci (frame b) = ([b],0,[]):=by
 have h1:=ki b oM
 have h2:=lF (b:=b) (r:=[]) h
 simp only [List.append_nil] at h2
 have h3 : frame b ≠ []:=by rw [rZ h];simp
 have h4 : 0 < (frame b).length:=List.length_pos_iff.2 h3
 rw [ci,if_pos oM,px h3 (by rw [h2];exact h4),h2]
 simp [pw]
theorem yQ {s : ac1} (h : ((bt s 0 : Nat) : Int) ≠ 126) : cD s = ([],0,false):=by unfold cD;rw [if_pos oM]
theorem yP {s : ac1} (h : ¬ ((bt s 0 : Nat) : Int) ≠ 126) (h2 : (s.length : Int) = 1) : cD s = ([],0,true):=by unfold cD;rw [if_neg oM,if_pos oM]
theorem yO {s : ac1} (h : ¬ ((bt s 0 : Nat) : Int) ≠ 126) (h2 : ¬ (s.length : Int) = 1) (h3 : 100 < ((bt s 1 : Nat) : Int)) : cD s = ([],0,false):=by unfold cD;rw [if_neg oM,if_neg oM,if_pos oM]
theorem yN {s : ac1} (h : ¬ ((bt s 0 : Nat) : Int) ≠ 126) (h2 : ¬ (s.length : Int) = 1) (h3 : ¬ 100 < ((bt s 1 : Nat) : Int)) (h4 : (s.length : Int) < 2 + ((bt s 1 : Nat) : Int)) : cD s = ([],0,true):=by
 unfold cD;rw [if_neg oM,if_neg oM,if_neg oM,if_pos oM]
theorem r4 {s : ac1} (h : ¬ ((bt s 0 : Nat) : Int) ≠ 126) (h2 : ¬ (s.length : Int) = 1) (h3 : ¬ 100 < ((bt s 1 : Nat) : Int)) (h4 : ¬ (s.length : Int) < 2 + ((bt s 1 : Nat) : Int)) :
  cD s = if (frame ((s.take (2 + (bt s 1 : Int)).toNat).drop 2)).isPrefixOf s then ((s.take (2 + (bt s 1 : Int)).toNat).drop 2,(frame ((s.take (2 + (bt s 1 : Int)).toNat).drop 2)).length,false)
   else if s.isPrefixOf (frame ((s.take (2 + (bt s 1 : Int)).toNat).drop 2)) then ([],0,true) else ([],0,false):=by
 unfold cD;rw [if_neg oM,if_neg oM,if_neg oM,if_neg oM]
 rw [show (2 + (bt s 1 : Int)).toNat = 2 + bt s 1 by omega]
theorem oh {s : ac1} (h3 : ¬ 100 < ((bt s 1 : Nat) : Int)) : kV ((s.take (2 + (bt s 1 : Int)).toNat).drop 2) = frame ((s.take (2 + (bt s 1 : Int)).toNat).drop 2):=by
 rw [kV,if_pos (by simp;omega)]
theorem yM {s : ac1} (h : ¬ ((bt s 0 : Nat) : Int) ≠ 126) (h2 : ¬ (s.length : Int) = 1) (h3 : ¬ 100 < ((bt s 1 : Nat) : Int)) (h4 : ¬ (s.length : Int) < 2 + ((bt s 1 : Nat) : Int))
  (hp : (kV ((s.take (2 + (bt s 1 : Int)).toNat).drop 2)).isPrefixOf s = true) : cD s = ((s.take (2 + (bt s 1 : Int)).toNat).drop 2,(kV ((s.take (2 + (bt s 1 : Int)).toNat).drop 2)).length,false):=by
 rw [r4 h h2 h3 h4,← oh h3,if_pos hp]
theorem yL {s : ac1} (h : ¬ ((bt s 0 : Nat) : Int) ≠ 126) (h2 : ¬ (s.length : Int) = 1) (h3 : ¬ 100 < ((bt s 1 : Nat) : Int)) (h4 : ¬ (s.length : Int) < 2 + ((bt s 1 : Nat) : Int))
  (hp : (kV ((s.take (2 + (bt s 1 : Int)).toNat).drop 2)).isPrefixOf s = false) (hq : s.isPrefixOf (kV ((s.take (2 + (bt s 1 : Int)).toNat).drop 2)) = true) : cD s = ([],0,true):=by
 rw [r4 h h2 h3 h4,← oh h3,if_neg (by rw [hp];decide),if_pos hq]
theorem yK {s : ac1} (h : ¬ ((bt s 0 : Nat) : Int) ≠ 126) (h2 : ¬ (s.length : Int) = 1) (h3 : ¬ 100 < ((bt s 1 : Nat) : Int)) (h4 : ¬ (s.length : Int) < 2 + ((bt s 1 : Nat) : Int))
  (hp : (kV ((s.take (2 + (bt s 1 : Int)).toNat).drop 2)).isPrefixOf s = false) (hq : s.isPrefixOf (kV ((s.take (2 + (bt s 1 : Int)).toNat).drop 2)) = false) : cD s = ([],0,false):=by
 rw [r4 h h2 h3 h4,← oh h3,if_neg (by rw [hp];decide),if_neg (by rw [hq];decide)]
def em (s : ac1) : Option ac1:=if s.length ≤ 2000 ∧ (ci s).2.1 = 0 ∧ (ci s).2.2 = [] then (match (ci s).1 with
 | [b]=>some b
 | _=>none) else none
theorem w8 {s : ac1} (h : 0 < (cD s).2.1) : (cD s).1.length ≤ 100 ∧ ∃ r,s = frame (cD s).1 ++ r ∧ s.drop (cD s).2.1 = r:=by
 unfold cD at h ⊢
 split at h
 ·exact absurd h (by simp)
 rw [if_neg aS]
 split at h
 ·exact absurd h (by simp)
 rw [if_neg aS]
 split at h
 ·exact absurd h (by simp)
 rw [if_neg aS]
 split at h
 ·exact absurd h (by simp)
 rw [if_neg aS]
 dsimp only at h ⊢
 split at h
 ·rename_i h1 h2 h3 h4 h5
  rw [if_pos h5]
  dsimp only
  obtain ⟨r,hr⟩:=List.isPrefixOf_iff_prefix.1 h5
  refine ⟨by simp;omega,r,hr.symm,?_⟩
  have e : ∀ bd : ac1,bd ++ r = s → s.drop bd.length = r:=fun bd h=>by rw [← h,List.drop_left]
  exact e _ hr
 ·split at h
  ·exact absurd h (by simp)
  ·exact absurd h (by simp)
theorem lz {s b : ac1} : em s = some b ↔ b.length ≤ 100 ∧ s = frame b:=by
 constructor
 ·intro h
  unfold em at h
  split at h
  ·rename_i hc
   obtain ⟨h1,h2,h3⟩:=hc
   have e : ci s = fg s:=by rw [ci,if_pos h1]
   rw [e] at h h2 h3
   by_cases hs : s = []
   ·subst hs;rw [pw] at h;cases h
   by_cases hh : 0 < (cD s).2.1
   ·obtain ⟨g1,r,g2,g3⟩:=w8 hh
    rw [px hs hh,g3] at h h2 h3
    dsimp only at h h2 h3
    by_cases hr : r = []
    ·subst hr
     rw [pw] at h
     dsimp only at h
     simp only [Option.some.injEq] at h;subst h
     exact ⟨g1,by rw [List.append_nil] at g2;exact g2⟩
    ·exfalso
     by_cases hh2 : 0 < (cD r).2.1
     ·rw [px hr hh2] at h
      simp at h
     ·by_cases hm : (cD r).2.2 = true
      ·rw [r8 hr hh2 hm] at h3;exact hr h3
      ·rw [qc hr hh2 (by simpa using hm)] at h2
       simp at h2
   ·exfalso
    by_cases hm : (cD s).2.2 = true
    ·rw [r8 hs hh hm] at h3;exact hs h3
    ·rw [qc hs hh (by simpa using hm)] at h2
     simp at h2
  ·cases h
 ·rintro ⟨h,rfl⟩
  have h1:=ki b oM
  unfold em
  rw [kh h,if_pos ⟨oM,rfl,rfl⟩]
theorem rT {s b : ac1} (h : em s = some b) : b.length ≤ 100:=(lz.1 h).1
theorem vM {a b r q : ac1} (ha : a.length ≤ 100) (hb : b.length ≤ 100) (h : frame a ++ r = frame b ++ q) : a = b ∧ r = q:=by
 have h1:=lF (b:=a) (r:=r) ha
 have h2:=lF (b:=b) (r:=q) hb
 rw [h,h2] at h1
 simp only [Prod.mk.injEq] at h1
 obtain ⟨rfl,_⟩:=h1
 exact ⟨F,List.append_cancel_left h⟩
theorem vL {s : ac1} {b r : ac1} (hb : b.length ≤ 100) (h : 126 :: s = frame b ++ r) : bm s = some (((b.length : Nat) : Int),b ++ (a7 (dy b) ++ r)):=by
 have e : s = a7 b.length ++ (b ++ (a7 (dy b) ++ r)):=by
  unfold frame at h
  simp only [List.cons_append,List.nil_append,List.cons.injEq,List.append_assoc] at h
  exact h.2
 rw [e]
 exact fY oM oM _
theorem tP {b : Nat} {l : ac1} (hm : 0 < l.length ∧ l.length ≤ 1000000000) : c8 ac0 131 [Pt b 0,S l] G [.blk b (.cells (List.toArray [.pointer none,aJ]) eg (0,0))]
  (fun r L'=>∃ b2 c2,r = Tu [I l.length,.nilIface] ∧ L' = [.acc (.slice (some ⟨b2,0,none⟩) l.length (c2 + 1)) gV 1 l.length (cz l),.blk b (.cells (List.toArray [Pt b 0,.slice (some ⟨b2,0,none⟩) l.length (c2 + 1)]) eg (0,0))]):=by
 refine jH [(0,_),(1,_)] Tryz.func131 Tryz.ntmps131 fun B hB hW=>?_
 repeat' (first | refine jR ?_ | (refine jo ?_;first | refine ak F ?_ | refine abf F F F oM fun _ _=>?_ | refine jD F F F ?_ | (refine aq F F F x9 F ?_;rintro _ _ rfl;dsimp only [zA,fA])))
 exact bh (vs:=[_,_]) F ⟨F,F,trivial⟩ F (List.Sublist.refl _) ⟨F,_,_,F,F⟩
theorem zx {b : Nat} : c8 ac0 132 [Pt b 0] G [.blk b (.cells (List.toArray [.pointer none,aJ]) eg (0,0))] (fun r L'=>r = S [] ∧ L' = []):=by
 refine jH [(0,_)] Tryz.func132 Tryz.ntmps132 fun B hB hW=>?_
 repeat' (first | refine jR ?_ | (refine ai (am (id:=1) _ (fun _ h=>h) ah ?_);refine jT 6 [0,1,2,5,6,7] (aa 12 231) ?_;(refine jG (aa 12 239) 3 F (aD F F F) ?_);(refine jG (aa 12 255) 4 F (yB F) ?_);(refine jG (aa 12 511) 8 F (aD F F F) ?_);(refine jG (aa 12 1023) 9 F (al F) ?_);(refine jG (aa 12 2047) 10 F (yx F F) ?_);refine jT 0 [11] (aa 12 4095) ?_;refine jQ ?_))
 refine jZ (vs:=[_]) F ⟨F,trivial⟩ F ⟨F,F,?_⟩
 rfl
def m5 (b : Nat) (q : Option (Nat × Nat)) (l : ac1) : List Own:=match q with
 | none=>[.blk b (.cells (List.toArray [.pointer none,aJ]) eg (0,0))]
 | some (b2,c2)=>[.acc (.slice (some ⟨b2,0,none⟩) l.length (c2 + 1)) gV 1 l.length (cz l),.blk b (.cells (List.toArray [Pt b 0,.slice (some ⟨b2,0,none⟩) l.length (c2 + 1)]) eg (0,0))]
theorem ud {b b2 c2 : Nat} {l m : ac1} {L : List Own} : (Own.acc (.slice (some ⟨b2,0,none⟩) (l.length + m.length) (c2 + 1)) gV 1 (l.length + m.length) (cz l ++ cz m) :: .blk b (.cells (List.toArray [Pt b 0,.slice (some ⟨b2,0,none⟩) (l.length + m.length) (c2 + 1)]) eg (0,0)) :: L) =
  Own.acc (.slice (some ⟨b2,0,none⟩) (l ++ m).length (c2 + 1)) gV 1 (l ++ m).length (cz (l ++ m)) :: .blk b (.cells (List.toArray [Pt b 0,.slice (some ⟨b2,0,none⟩) (l ++ m).length (c2 + 1)]) eg (0,0)) :: L:=by
 simp [cz]
theorem i4 {w : Nat} {x : ac1} {t : Int} {a : Option Addr} {k : Nat} (hw : tm w x t []) (h : w = 110 ∨ w = 116 ∨ w = 102 ∨ w = 69) (hx : x.length ≤ 100000) : aC ac0 101 [Ag [U8 (w : Nat),S x,I t,.slice a ([] : List V).length k]] G (· = S (V.nd w x t []).bys):=by
 have hty:=pM hw
 unfold tm at hw
 rcases h with rfl | rfl | rfl | rfl
 ·simp only [Nat.reduceEqDiff,false_and,or_false,true_and] at hw
  obtain ⟨rfl,m,hm0,hm1,hx1,hnum0⟩:=hw
  have cx_pnB:=io (G:=G) (s:=x) (top:=999999) oM
  refine jE [(0,_)] Tryz.func101 Tryz.ntmps101 fun B hB=>?_
  repeat' (first | refine jR ?_ | (refine jo ?_;first | refine jO fun _=>?_ | refine ak F ?_ | (refine cZ F F F (dI oM) F ?_;rintro _ ⟨n,rfl,hnum⟩)) | refine ac F F ?_)
  obtain rfl:=hnum _ hnum0
  repeat' (first | refine jR ?_ | (refine jo ?_;refine ab F F F (gR oM) F ?_))
  refine jY (vs:=[_]) ?_
  rw [aB,V.bys];simp [fC,hnum0]
 ·refine jE [(0,_)] Tryz.func101 Tryz.ntmps101 fun B hB=>?_
  repeat' (first | refine jR ?_ | (refine jo ?_;first | refine jO fun _=>?_ | refine ak F ?_ | refine ab F F F (qj oM) F ?_) | refine ac F F ?_ | refine ad F F ?_)
  refine jY (vs:=[_]) ?_
  rw [aB,V.bys];rfl
 ·simp only [Nat.reduceEqDiff,false_and,or_false,true_and,false_or] at hw
  obtain ⟨rfl,rfl | rfl⟩:=hw
  all_goals
   refine jE [(0,_)] Tryz.func101 Tryz.ntmps101 fun B hB=>?_
   repeat' (first | refine jR ?_ | (refine jo ?_;first | refine jO fun _=>?_ | refine ak F ?_) | refine ac F F ?_ | refine ad F F ?_)
   refine jY (vs:=[_]) ?_
   rw [aB,V.bys];rfl
 ·have h7 : (a7 t).length ≤ 3:=cb oM
  refine jE [(0,_)] Tryz.func101 Tryz.ntmps101 fun B hB=>?_
  repeat' (first | refine jR ?_ | (refine jo ?_;first | refine jO fun _=>?_ | refine ak F ?_ | refine ab F F F (gR oM) F ?_) | refine ac F F ?_ | refine ad F F ?_)
  refine jY (vs:=[_]) ?_
  rw [aB,V.bys];rfl
theorem uU {a : Option Addr} {k : Nat} : aC ac0 101 [Ag [U8 (63 : Nat),S [],I 0,.slice a ([] : List V).length k]] G (· = S (V.nd 63 [] 0 []).bys):=by
 refine jE [(0,_)] Tryz.func101 Tryz.ntmps101 fun B hB=>?_
 repeat' (first | refine jR ?_ | (refine jo ?_;first | refine jO fun _=>?_ | refine ak F ?_ | refine jV (al F) ?_) | refine ac F F ?_ | refine ad F F ?_)
 refine jY (vs:=[_]) ?_
 rw [aB,V.bys];rfl
theorem wm {w : Nat} {t : Int} {u : V} {b o k : Nat} {d : VC} (h : w = 63 ∨ w = 85 ∨ w = 61) (ht : 0 ≤ t ∧ t ≤ 200) (cx_bys : aC ac0 101 [Ag (bx d)] G (· = S u.bys)) (hbl : u.bys.length ≤ 100000) (hs : cE G b o (bx d)) :
  aC ac0 101 [Ag [U8 (w : Nat),S [],I t,.slice (some ⟨b,o,none⟩) 1 k]] G (· = S (V.nd w [] t [u]).bys):=by
 have hn3:=cb (n:=t) oM
 have hn4:=cb (n:=(u.bys.length : Nat)) oM
 have e1 : (V.nd w [] t [u]).bys = fC w [] t 1 u.bys:=by rw [V.bys];simp [V.byss]
 rw [e1]
 rcases h with rfl | rfl | rfl
 all_goals
  refine jE [(0,_)] Tryz.func101 Tryz.ntmps101 fun B hB=>?_
  repeat' (first | refine jX ?_ | (refine jo ?_;first | refine jO fun _=>?_ | refine ak F ?_ | refine jV (vH F F aS F F F) ?_ | refine jV (al F) ?_ | refine jV (be F F oM) ?_ | refine ab F F F cx_bys F ?_) | refine ac F F ?_ | refine ad F F ?_ | (refine ai (am (id:=28) _ (fun _ h=>h) ah ?_);refine jT 9 [0,3] (aa 11 9) ?_;(refine jG (aa 11 11) 1 F (aD F F F) ?_);(refine jG (aa 11 27) 4 F (aD F F F) ?_);(refine jG (aa 11 59) 5 F (be F F oM) ?_);(refine jG (aa 11 123) 6 F (vH F F aS F F F) ?_);refine jA 2 F ?_;(refine ab F F F (gR oM) F ?_);refine jS (aa 11 127) ?_;refine jA 7 F ?_;(refine ab F F F cx_bys F ?_);refine jS (aa 11 255) ?_;refine jA 8 F ?_;(refine ab F F F (qj oM) F ?_);refine jS (aa 11 511) ?_;refine jW 0 [9,10] (aa 11 2047) ?_;refine jQ ?_))
  refine jY (vs:=[_]) ?_
  rw [aB];rfl
theorem wn {ks : List V} {cs : List VC} {a : Option Addr} {k : Nat} (hk : ks.length ≤ 100000) (hcl : cs.length = ks.length) (hsl : bR G (.slice a ks.length k) 4 cs.length (aI bx cs)) (hfl : (V.byss ks).flatten.length ≤ 100000)
  (ih : ∀ i,i < ks.length → aC ac0 101 [Ag (bx (ae cs i))] G (· = S (ae ks i).bys) ∧ (ae ks i).bys.length ≤ 100000) :
  aC ac0 101 [Ag [U8 (91 : Nat),S [],I 0,.slice a ks.length k]] G (· = S (V.nd 91 [] 0 ks).bys):=by
 have hkp:=fL ks.length
 have hk3:=cb (n:=ks.length) oM
 have hnp : 0 < (a7 ks.length).length ∧ (a7 ks.length).length ≤ 1000000000:=oM
 refine jE [(0,_)] Tryz.func101 Tryz.ntmps101 fun B hB=>?_
 repeat' (first | refine jR ?_ | (refine jo ?_;first | refine jO fun _=>?_ | refine ak F ?_ | refine jL fun _=>?_ | refine jV (al F) ?_ | refine ab F F F (gR oM) F ?_ | (refine aq F F F (tP oM) F ?_;rintro _ _ ⟨b3,c3,rfl,rfl⟩;dsimp only [zA,fA])) | refine ac F F ?_ | refine ad F F ?_)
 rename_i bv bb
 refine aR (ι:=Nat × Nat × Nat × ac1) (fun q=>q.1 ≤ ks.length ∧ q.2.2.2 = a7 (ks.length : Nat) ++ ((V.byss ks).take q.1).flatten) (fun q=>[(5,Pt bb 0),(41,.slice a ks.length k),(42,I ks.length),(43,I q.1)]) (fun _=>G) (fun q=>[.acc (.slice (some ⟨q.2.1,0,none⟩) q.2.2.2.length (q.2.2.1 + 1)) gV 1 q.2.2.2.length (cz q.2.2.2),.blk bb (.cells (List.toArray [Pt bb 0,.slice (some ⟨q.2.1,0,none⟩) q.2.2.2.length (q.2.2.1 + 1)]) eg (0,0)),.blk bv (.cells (List.toArray [U8 (91 : Nat),S [],I 0,.slice a ks.length k]) du (0,0))]) (fun q=>ks.length - q.1) (0,b3,c3,a7 (ks.length : Nat)) ?_ tU F aW (fun q Hq=>?_)
 ·exact ⟨Nat.zero_le _,by simp⟩
 obtain ⟨i,b2,c2,l⟩:=q
 dsimp only at Hq ⊢
 obtain ⟨hi0,hl⟩:=Hq
 have hj1:=km ks i
 have hll : l.length ≤ 200000:=by rw [hl,List.length_append];omega
 by_cases hi : i < ks.length
 ·obtain ⟨cx_bys,hbl⟩:=ih i hi
  obtain ⟨bf,of,cf,e,hs⟩:=hsl.expl oM
  simp only [Value.slice.injEq] at e
  obtain ⟨rfl,-,rfl⟩:=e
  have hm9 : l.length + (ae ks i).bys.length ≤ 1000000000:=oM
  repeat' (first | refine jM ?_ | (refine jo ?_;first | (refine jV (dY F F aS ?_) ?_;focus omega) | refine aN F ?_ | refine jL fun _=>?_ | refine jV (ay F F oM) ?_ | refine jC F F F ?_ | (refine lU F F F (pE (by (repeat (assumption));done)) rfl ?_;rintro _ _ ⟨b3,c3,rfl,rfl⟩;dsimp only [zA,fA]) | refine ab F F F cx_bys F ?_) | refine ac F (ar oM) ?_)
  rw [ud]
  exact aX (i + 1,_,_,l ++ (ae ks i).bys) ⟨by dsimp only;omega,by dsimp only;rw [hl,kp hi,List.append_assoc]⟩ (by dsimp only;omega) tU rfl sB
 ·have hin : i = ks.length:=oM
  subst hin
  rw [← iq,List.take_length] at hl
  repeat' (first | refine jR ?_ | (refine jo ?_;(refine lU F F F (sM oM) F ?_;rintro _ _ ⟨rfl,rfl⟩;dsimp only [zA,fA])) | refine ad F (aA oM) ?_)
  refine jY (vs:=[_]) ?_
  rw [aB,V.bys,hl,iq];rfl
theorem wl {ks : List V} {cs : List VC} {a : Option Addr} {k : Nat} (hk : ks.length ≤ 100000) (hcl : cs.length = ks.length) (hsl : bR G (.slice a ks.length k) 4 cs.length (aI bx cs)) (hfl : (V.byss ks).flatten.length ≤ 100000)
  (ih : ∀ i,i < ks.length → aC ac0 101 [Ag (bx (ae cs i))] G (· = S (ae ks i).bys) ∧ 0 < (ae ks i).bys.length ∧ (ae ks i).bys.length ≤ 100000) :
  aC ac0 101 [Ag [U8 (82 : Nat),S [],I 0,.slice a ks.length k]] G (· = S (V.nd 82 [] 0 ks).bys):=by
 refine jE [(0,_)] Tryz.func101 Tryz.ntmps101 fun B hB=>?_
 repeat' (first | refine jR ?_ | (refine jo ?_;first | refine jO fun _=>?_ | refine ak F ?_ | refine jL fun _=>?_ | refine jV (al F) ?_) | refine ad F F ?_)
 rename_i bv bb
 refine aR (ι:=Nat × Option (Nat × Nat) × ac1) (fun q=>q.1 ≤ ks.length ∧ q.2.2 = ((V.byss ks).take q.1).flatten ∧ (q.2.1 = none → q.2.2 = [])) (fun q=>[(8,Pt bb 0),(83,.slice a ks.length k),(84,I ks.length),(85,I q.1)]) (fun _=>G) (fun q=>m5 bb q.2.1 q.2.2 ++ [.blk bv (.cells (List.toArray [U8 (82 : Nat),S [],I 0,.slice a ks.length k]) du (0,0))]) (fun q=>ks.length - q.1) (0,none,[]) ?_ tU F (by dsimp only [m5];repeat (exact List.Sublist.refl _)) (fun q Hq=>?_)
 ·exact ⟨Nat.zero_le _,by simp,fun _=>rfl⟩
 obtain ⟨i,q,l⟩:=q
 dsimp only at Hq ⊢
 obtain ⟨hi0,hl,hl0⟩:=Hq
 have hj1:=km ks i
 have hll : l.length ≤ 200000:=by rw [hl];omega
 by_cases hi : i < ks.length
 ·obtain ⟨cx_bys,hbl⟩:=ih i hi
  obtain ⟨bf,of,cf,e,hs⟩:=hsl.expl oM
  simp only [Value.slice.injEq] at e
  obtain ⟨rfl,-,rfl⟩:=e
  have hm9 : l.length + (ae ks i).bys.length ≤ 1000000000:=oM
  have hbl0 : 0 < (ae ks i).bys.length ∧ (ae ks i).bys.length ≤ 1000000000:=oM
  have hfn:=kp hi
  rw [← hl] at hfn
  cases q with
  | none =>
   obtain rfl:=hl0 rfl
   simp only [m5,List.cons_append,List.nil_append]
   repeat' (first | refine jM ?_ | (refine jo ?_;first | (refine jV (dY F F aS ?_) ?_;focus omega) | refine aN F ?_ | refine jL fun _=>?_ | refine jV (ay F F oM) ?_ | refine jC F F F ?_ | (refine aq F F F (tP oM) F ?_;rintro _ _ ⟨b3,c3,rfl,rfl⟩;dsimp only [zA,fA]) | refine ab F F F cx_bys F ?_) | refine ac F (ar oM) ?_)
   exact aX (i + 1,some (_,_),(ae ks i).bys) ⟨by dsimp only;omega,by dsimp only;rw [hfn];rfl,fun h=>(by cases h)⟩ (by dsimp only;omega) tU rfl (by dsimp only [m5];repeat (first | exact List.Sublist.refl _ | apply List.Sublist.cons_cons | apply List.Sublist.cons))
  | some q =>
   obtain ⟨b2,c2⟩:=q
   simp only [m5,List.cons_append,List.nil_append]
   repeat' (first | refine jM ?_ | (refine jo ?_;first | (refine jV (dY F F aS ?_) ?_;focus omega) | refine aN F ?_ | refine jL fun _=>?_ | refine jV (ay F F oM) ?_ | refine jC F F F ?_ | (refine lU F F F (pE (by (repeat (assumption));done)) rfl ?_;rintro _ _ ⟨b3,c3,rfl,rfl⟩;dsimp only [zA,fA]) | refine ab F F F cx_bys F ?_) | refine ac F (ar oM) ?_)
   rw [ud]
   exact aX (i + 1,some (_,_),l ++ (ae ks i).bys) ⟨by dsimp only;omega,by dsimp only;rw [hfn],fun h=>(by cases h)⟩ (by dsimp only;omega) tU rfl (by dsimp only [m5];repeat (first | exact List.Sublist.refl _ | apply List.Sublist.cons_cons | apply List.Sublist.cons))
 ·have hin : i = ks.length:=oM
  subst hin
  rw [← iq,List.take_length] at hl
  have e2 : (V.nd 82 [] 0 ks).bys = l ++ [0]:=by rw [V.bys,hl];rfl
  rw [e2]
  cases q with
  | none =>
   obtain rfl:=hl0 rfl
   simp only [m5,List.cons_append,List.nil_append]
   repeat' (first | refine jX ?_ | (refine jo ?_;(refine aq F F F zx F ?_;rintro _ _ ⟨rfl,rfl⟩;dsimp only [zA,fA])) | refine ad F (aA oM) ?_)
   refine jY (vs:=[_]) ?_
   rw [aB];rfl
  | some q =>
   obtain ⟨b2,c2⟩:=q
   simp only [m5,List.cons_append,List.nil_append]
   repeat' (first | refine jX ?_ | (refine jo ?_;(refine lU F F F (sM oM) F ?_;rintro _ _ ⟨rfl,rfl⟩;dsimp only [zA,fA])) | refine ad F (aA oM) ?_)
   refine jY (vs:=[_]) ?_
   rw [aB]
theorem ach : ∀ (n : Nat) {v : V} {c : VC},v.tot ≤ n → v.tot ≤ 100000 → v.wf → V.rep G v c → aC ac0 101 [Ag (bx c)] G (· = S v.bys):=by
 intro n
 induction n with
 | zero=>intro v c h1 _ _ _;have:=i8 v;omega
 | succ n ih =>
  intro v c h1 h2 hwf h
  obtain ⟨w,x,t,ks⟩:=v
  rw [V.wf] at hwf
  obtain ⟨hwf,hwk⟩:=hwf
  have hty:=pM hwf
  rw [cC] at h1 h2
  obtain ⟨a,k,cs,rfl,hw,ht,h61,hcl,hsl,hks⟩:=fu h
  have hkl:=dx ks
  have hfl:=iG ks hwk oM
  have hK : ∀ i,i < ks.length → aC ac0 101 [Ag (bx (ae cs i))] G (· = S (ae ks i).bys) ∧ 0 < (ae ks i).bys.length ∧ (ae ks i).bys.length ≤ 100000:=fun i hi=>by
   have hti:=fT hi
   have hwi:=ro hwk hi
   have hbl:=ji _ hwi oM
   exact ⟨ih oM oM hwi (gv hks i hi),oM,oM⟩
  have h1K : ks.length = 1 → (w = 63 ∨ w = 85 ∨ w = 61) → x = [] → aC ac0 101 [Ag (bx ⟨w,x,t,a,ks.length,k⟩)] G (· = S (V.nd w x t ks).bys):=fun hk1 hw3 hx=>by
   obtain ⟨hk0,_,hk0l⟩:=hK 0 oM
   obtain ⟨bf,of,cf,e,hs⟩:=hsl.expl oM
   simp only [Value.slice.injEq] at e
   obtain ⟨rfl,-,rfl⟩:=e
   obtain ⟨u,rfl⟩:=List.length_eq_one_iff.1 hk1
   obtain ⟨d,rfl⟩:=List.length_eq_one_iff.1 (show cs.length = 1 by rw [hcl];rfl)
   subst hx
   exact wm hw3 hty hk0 hk0l hs
  rcases hwf with h7 | h7 | h7 | ⟨rfl,rfl,rfl,hk20,hk61⟩ | ⟨rfl,rfl,rfl,hk1,hk61⟩ | h7 | ⟨rfl,rfl,_,_,hk1,_⟩ | ⟨rfl,rfl,_,_,hk1,_⟩ | ⟨rfl,rfl,rfl,hpw,hka⟩
  ·obtain ⟨rfl,rfl,h8⟩:=h7
   exact i4 (.inl ⟨F,F,h8⟩) (.inl F) (by dsimp only;omega)
  ·obtain ⟨rfl,rfl,h8⟩:=h7
   exact i4 (.inr (.inl ⟨F,F,h8⟩)) (.inr (.inl F)) (by dsimp only;omega)
  ·obtain ⟨rfl,rfl,h8⟩:=h7
   exact i4 (.inr (.inr (.inl ⟨F,F,h8⟩))) (.inr (.inr (.inl F))) (by dsimp only;omega)
  ·exact wn oM hcl hsl oM fun i hi=>⟨(hK i hi).1,(hK i hi).2.2⟩
  ·by_cases hk0 : ks.length = 0
   ·obtain rfl:=List.eq_nil_of_length_eq_zero hk0
    exact uU
   ·exact h1K oM (.inl F) F
  ·obtain ⟨rfl,rfl,h8,h9,rfl⟩:=h7
   exact i4 (.inr (.inr (.inr (.inr (.inr (.inl ⟨F,F,h8,h9,F⟩)))))) (.inr (.inr (.inr F))) (by simp)
  ·exact h1K hk1 (.inr (.inl F)) F
  ·exact h1K hk1 (.inr (.inr F)) F
  ·exact wl oM hcl hsl oM fun i hi=>⟨(hK i hi).1,(hK i hi).2.1,(hK i hi).2.2⟩
theorem tZ {s : ac1} (h : s.length ≤ 999999) : aC ac0 57 [S s] G (· = S (a7 s.length ++ s)):=by
 have hl:=cb (n:=s.length) oM
 refine jE [(0,_)] Tryz.func57 Tryz.ntmps57 fun B hB=>?_
 repeat' (first | refine jM ?_ | (refine jo ?_;refine ab F F F (eU oM) F ?_))
 refine jY (vs:=[_]) ?_
 rfl
theorem zK {x : ac1} {t : Int} {ks : List V} (h : V.wf (.nd 110 x t ks)) : ∃ m : Int,0 ≤ m ∧ m ≤ 999999 ∧ aL x 999999 = some m:=by
 rw [V.wf] at h
 have h1:=h.1
 unfold tm at h1
 simp only [Nat.reduceEqDiff,false_and,or_false,true_and] at h1
 obtain ⟨_,_,m,h2,h3,_,h4⟩:=h1
 exact ⟨m,h2,h3,h4⟩
theorem kM {w : Nat} {x : ac1} {t : Int} {ks : List V} (h : V.wf (.nd w x t ks)) : V.wfs ks:=by rw [V.wf] at h;exact h.2
theorem wD {b cc : Nat} {v : Value} (h0 : 1 ≤ cc) (h : cE G b 0 [v]) : bR G (.slice (some ⟨b,0,none⟩) 1 cc) 1 1 [v]:=⟨rfl,.inr ⟨b,0,cc,rfl,h0,h⟩⟩
theorem yi {b tc : Nat} {v : Value} (h : cE G b 0 [v]) : bR G (.slice (some ⟨b,0,none⟩) 1 (tc + 1)) 1 1 [v]:=⟨rfl,.inr ⟨b,0,tc + 1,rfl,oM,h⟩⟩
theorem wo {r tx : ac1} {b : Nat} {tg : List Int} {bs : List Nat} {KS : List V} {a a2 : Option Addr} {c c2 m : Nat} (hm : m = KS.length) (hm9 : m ≤ 100000) (htx : tx = [82] ∨ tx = [85]) (h2 : cE G b 0 [S (64 :: r),S tx,.slice a m c,.slice a2 m c2])
  (h3 : bR G (.slice a m c) 1 m (aI eh tg)) (h4 : bR G (.slice a2 m c2) 1 m (aI gj bs)) (htl : tg.length = m) (hbl : bs.length = m) (hfl : (V.byss KS).flatten.length ≤ 100000)
  (hk : ∀ i,i < m → ∃ u,ae KS i = V.nd 61 [] (ae tg i) [u] ∧ aC ac0 20 [Pt (ae bs i) 0] G (· = S u.bys) ∧ u.bys.length ≤ 100000 ∧ 0 ≤ ae tg i ∧ ae tg i ≤ 999999) :
  aC ac0 20 [Pt b 0] G (· = S ((V.byss KS).flatten ++ if tx = [82] then [0] else [])):=by
 refine jE [(0,_)] Tryz.func20 Tryz.ntmps20 fun B hB=>?_
 repeat' (first | refine jX ?_ | (refine jo ?_;refine jV (ao F F aS F F) ?_) | refine ad F F ?_)
 refine aR (ι:=Nat) (fun i=>i ≤ m) (fun i=>[(0,Pt b 0),(7,S (((V.byss KS).take i).flatten)),(8,I i)]) (fun _=>G) (fun i=>[]) (fun i=>m - i) 0 ?_ tU F aW (fun i Hi=>?_)
 ·exact Nat.zero_le _
 have hj1:=km KS i
 by_cases hi : i < m
 ·obtain ⟨u,hu1,cx_bys,hu2,hu3⟩:=hk i hi
  have hn3:=cb hu3.2
  have hn4:=cb (n:=(u.bys.length : Nat)) oM
  have hfn:=kp (ks:=KS) (i:=i) oM
  have hub : (V.nd 61 [] (ae tg i) [u]).bys = a7 (ae tg i) ++ (a7 u.bys.length ++ u.bys):=by rw [V.bys];simp [V.byss,fC]
  rw [hu1,hub] at hfn
  have hxt : ae tg i = ae tg i:=rfl
  have hxi : ae bs i = ae bs i:=rfl
  obtain ⟨tgb,to,tc,e,hs1⟩:=h3.expl oM
  simp only [Value.slice.injEq] at e
  obtain ⟨rfl,-,rfl⟩:=e
  obtain ⟨kb,ko,kc,e,hs2⟩:=h4.expl oM
  simp only [Value.slice.injEq] at e
  obtain ⟨rfl,-,rfl⟩:=e
  repeat' (first | refine jX ?_ | (refine jo ?_;first | refine jV (ao F F aS F F) ?_ | (refine jV (dp F F aS ?_ aS F) ?_;focus omega) | refine jV (al F) ?_ | refine jV (ay F F oM) ?_ | refine ab F F F (eU oM) F ?_ | refine ab F F F (tZ oM) F ?_ | refine ab F F F cx_bys F ?_) | refine ac F (ar oM) ?_)
  refine Nx.re (d:=7) (v':=S (((V.byss KS).take (i + 1)).flatten)) F (congrArg (fun l=>S l) ?_) ?_
  ·rw [hfn];simp
  exact aX (i + 1) oM oM tU F aW
 ·have hin : i = KS.length:=oM
  subst hin
  have hfe : (V.byss KS).take KS.length = V.byss KS:=by rw [← iq,List.take_length]
  rw [hfe]
  rcases htx with rfl | rfl
  all_goals
   repeat' (first | refine jX ?_ | (refine jo ?_;first | refine jV (ao F F aS F F) ?_ | refine jF fun _=>?_ | refine jV (eO F F (by (repeat (first | exact BL.nil | apply BL.lit rfl));done)) ?_ | refine jV (al F) ?_) | refine ac F F ?_ | (refine ad F (by first | rfl | (refine decide_eq_false ?_;(omega))) ?_))
   refine jY (vs:=[_]) ?_
   rw [aB];first | rfl | (simp;done)
theorem sK {ts : List Ty} (hw : SchW ts) {v : V} {k : ac1} {b : Nat} (h : RepR G ts v k b) : v.wf → v.tot ≤ 100000 → aC ac0 20 [Pt b 0] G (· = S v.bys):=by
 induction h with
 | leaf w x k tx b h1 h2 =>
  intro hwf ht
  rw [cC] at ht
  rcases h2 with ⟨rfl,rfl,rfl,_⟩ | ⟨rfl,rfl,rfl⟩ | ⟨rfl,rfl,rfl,rfl | rfl⟩
  ·obtain ⟨m,hm0,hm1,hnum0⟩:=zK hwf
   refine jE [(0,_)] Tryz.func20 Tryz.ntmps20 fun B hB=>?_
   repeat' (first | refine jX ?_ | (refine jo ?_;first | refine jV (ao F F aS F F) ?_ | (refine cZ F F F (gc oM) F ?_;rintro _ ⟨n,rfl,hnum⟩)) | refine ac F F ?_)
   obtain rfl:=hnum _ hnum0
   repeat' (first | refine jR ?_ | (refine jo ?_;refine ab F F F (eU oM) F ?_))
   refine jY (vs:=[_]) ?_
   rw [aB,V.bys];simp [fC,hnum0]
  ·have htl : (39 :: (x ++ [39])).length = x.length + 2:=by simp
   have hdt : ∀ n : Nat,n = x.length → ((39 :: (x ++ [39])).take (1 + n)).drop 1 = x:=fun n hn=>by rw [hn,Nat.add_comm,List.take_succ_cons,List.drop_succ_cons,List.drop_zero,List.take_left]
   generalize 39 :: (x ++ [39]) = tx at *
   refine jE [(0,_)] Tryz.func20 Tryz.ntmps20 fun B hB=>?_
   repeat' (first | refine jX ?_ | (refine jo ?_;refine jV (ao F F aS F F) ?_) | refine ac F F ?_ | refine ad F F ?_ | (refine ai (am (id:=6) _ (fun _ h=>h) ah ?_);refine jT 7 [0,1,2,4,5,6] (aa 13 119) ?_;(refine jG (aa 13 127) 3 F (ao F F aS F F) ?_);(refine jG (aa 13 255) 7 F (ao F F aS F F) ?_);refine jW 2 [8,9,10] (aa 13 2047) ?_;refine jA 11 F ?_;((refine ab F F F (tZ ?_) F ?_;(focus ((simp;omega);done))));refine jS (aa 13 4095) ?_;refine jT 0 [12] (aa 13 8191) ?_;refine jQ ?_))
   refine jY (vs:=[_]) ?_
   have e3 : (tx.take (((tx.length : Nat) : Int) - 1).toNat).drop (Int.toNat 1) = x:=by
    rw [show (((tx.length : Nat) : Int) - 1).toNat = 1 + x.length by omega];exact hdt _ F
   rw [aB,e3,V.bys];rfl
  ·refine jE [(0,_)] Tryz.func20 Tryz.ntmps20 fun B hB=>?_
   repeat' (first | refine jX ?_ | (refine jo ?_;first | refine jV (ao F F aS F F) ?_ | refine jF fun _=>?_ | refine jV (eO F F (by (repeat (first | exact BL.nil | apply BL.cons));done)) ?_) | refine ac F F ?_ | refine ad F F ?_)
   refine jY (vs:=[_]) ?_
   rw [aB,V.bys];rfl
  ·refine jE [(0,_)] Tryz.func20 Tryz.ntmps20 fun B hB=>?_
   repeat' (first | refine jX ?_ | (refine jo ?_;first | refine jV (ao F F aS F F) ?_ | refine jF fun _=>?_ | refine jV (eO F F (by (repeat (first | exact BL.nil | apply BL.cons));done)) ?_) | refine ac F F ?_ | refine ad F F ?_)
   refine jY (vs:=[_]) ?_
   rw [aB,V.bys];rfl
 | lst k b ks bs a c h1 h2 h3 hk ih =>
  intro hwf ht
  rw [cC] at ht
  have hwk:=kM hwf
  have hkl:=dx ks
  have hk3:=cb (n:=ks.length) oM
  have hfl:=iG ks hwk oM
  refine jE [(0,_)] Tryz.func20 Tryz.ntmps20 fun B hB=>?_
  repeat' (first | refine jX ?_ | (refine jo ?_;first | refine jV (ao F F aS F F) ?_ | refine jV (al F) ?_ | refine ab F F F (eU oM) F ?_) | refine ac F F ?_ | refine ad F F ?_)
  refine Nx.re (d:=5) (v':=S (a7 ks.length ++ ((V.byss ks).take 0).flatten)) F (congrArg (fun l=>S l) (by simp)) ?_
  refine aR (ι:=Nat) (fun i=>i ≤ ks.length) (fun i=>[(0,Pt b 0),(5,S (a7 ks.length ++ ((V.byss ks).take i).flatten)),(6,I i)]) (fun _=>G) (fun i=>[]) (fun i=>ks.length - i) 0 ?_ tU F aW (fun i Hi=>?_)
  ·exact Nat.zero_le _
  have hj1:=km ks i
  by_cases hi : i < ks.length
  ·have hti:=fT hi
   have hwi:=ro hwk hi
   have cx_bys:=ih i hi hwi oM
   have hbl:=ji _ hwi oM
   have hxi : ae bs i = ae bs i:=rfl
   obtain ⟨kb,ko,kc,e,hs⟩:=h2.expl oM
   simp only [Value.slice.injEq] at e
   obtain ⟨rfl,-,rfl⟩:=e
   repeat' (first | refine jX ?_ | (refine jo ?_;first | refine jV (ao F F aS F F) ?_ | (refine jV (dp F F aS ?_ aS F) ?_;focus omega) | refine jV (al F) ?_ | refine jV (ay F F oM) ?_ | refine ab F F F cx_bys F ?_) | refine ac F (ar oM) ?_)
   refine Nx.re (d:=5) (v':=S (a7 ks.length ++ ((V.byss ks).take (i + 1)).flatten)) F (congrArg (fun l=>S l) (by rw [kp hi];simp)) ?_
   exact aX (i + 1) oM oM tU F aW
  ·have hin : i = ks.length:=oM
   subst hin
   repeat' (first | refine jR ?_ | (refine jo ?_;first | refine jV (ao F F aS F F) ?_ | refine jV (al F) ?_) | refine ad F (aA oM) ?_)
   refine jY (vs:=[_]) ?_
   rw [aB,V.bys,← iq,List.take_length];rfl
 | non k b h1 =>
  intro _ _
  refine jE [(0,_)] Tryz.func20 Tryz.ntmps20 fun B hB=>?_
  repeat' (first | refine jX ?_ | (refine jo ?_;first | refine jV (ao F F aS F F) ?_ | refine jF fun _=>?_ | refine jV (eO F F (by (repeat (first | exact BL.nil | apply BL.lit rfl));done)) ?_ | refine jV (al F) ?_) | refine ac F F ?_ | refine ad F F ?_)
  refine jY (vs:=[_]) ?_
  rfl
 | opt k b kb b' cc v h0 h1 h2 h3 ih =>
  intro hwf ht
  simp only [cC,V.tots] at ht
  have hwv:=(kM hwf).1
  have cx_bys:=ih hwv oM
  have hbl:=ji _ hwv oM
  refine jE [(0,_)] Tryz.func20 Tryz.ntmps20 fun B hB=>?_
  repeat' (first | refine jX ?_ | (refine jo ?_;first | refine jV (ao F F aS F F) ?_ | refine jV (al F) ?_) | refine ac F F ?_ | refine ad F F ?_ | (refine ai (am (id:=19) _ (fun _ h=>h) ah ?_);refine jT 8 [2,3,4] (aa 11 28) ?_;(refine jG (aa 11 60) 5 F (ao F F aS F F) ?_);(refine jG (aa 11 124) 6 F (be F F oM) ?_);(refine jG (aa 11 252) 7 F (ao F F aS F F) ?_);refine dN [0,8] kR dC ⟨?_,?_,trivial⟩;(focus (refine b6 F F ?_;(refine jF fun _=>?_);refine jS (aa 11 253) ?_;((refine jG (aa 11 255) 1 F (eO F F (by (repeat (first | exact BL.nil | apply BL.lit rfl));done)) ?_));refine jA 8 F ?_;(refine ab F F F cx_bys F ?_);refine jS (aa 11 511) ?_;refine jW 0 [9,10] (aa 11 2047) ?_;refine jQ ?_));rotate_left 1;(focus (refine b6 F F ?_;(refine ab F F F cx_bys F ?_);refine jS (aa 11 508) ?_;refine jA 0 F ?_;(refine jF fun _=>?_);refine jS (aa 11 509) ?_;((refine jG (aa 11 511) 1 F (eO F F (by (repeat (first | exact BL.nil | apply BL.lit rfl));done)) ?_));refine jW 0 [9,10] (aa 11 2047) ?_;refine jQ ?_));rotate_left 1))
  all_goals refine jY (vs:=[_]) ?_
  all_goals (rw [aB,V.bys];simp [fC,V.byss];rfl)
 | recd k b t fs bs a a2 c c2 h0 h1 h2 h3 h4 h5 hk ih =>
  intro hwf ht
  obtain ⟨r,rfl⟩:=ec h0.1
  rw [cC] at ht
  have hwk:=kM hwf
  have hml : (fs.map (fun p : Fld × V=>V.nd 61 [] p.1.tag [p.2])).length = fs.length:=by simp
  have hnt : ∀ i,i < fs.length → ae (fs.map (fun p : Fld × V=>V.nd 61 [] p.1.tag [p.2])) i = V.nd 61 [] (ae fs i).1.tag [(ae fs i).2]:=fun i hi=>by rw [aP (by simpa using hi),aP hi];simp
  generalize hKS : fs.map (fun p : Fld × V=>V.nd 61 [] p.1.tag [p.2]) = KS at *
  have hfl:=iG KS hwk oM
  refine (wo (tx:=[82]) (KS:=KS) hml.symm (by have:=dx KS;omega) (.inl rfl) h1 h2 h3 (by simp) h4 oM fun i hi=>?_).mono fun v _ _ hv=>?_
  ·have hti:=fT (ks:=KS) (i:=i) oM
   have hwi:=ro hwk (i:=i) oM
   rw [hnt i hi] at hti hwi
   simp only [cC,V.tots] at hti
   have hwv:=(kM hwi).1
   have hbl:=ji _ hwv oM
   have htn : ae (fs.map fun p : Fld × V=>p.1.tag) i = (ae fs i).1.tag:=by rw [aP (by simpa using hi),aP hi];simp
   exact ⟨(ae fs i).2,by rw [hnt i hi,htn],ih i hi hwv oM,oM,by rw [htn];exact (gi hw h0.1 (h5 i hi)).symm⟩
  ·obtain ⟨g1,g2,hv⟩:=hv;exact ⟨g1,g2,by rw [hv,V.bys];rfl⟩
 | enm k b tgb t d h0 h1 h2 h3 =>
  intro _ _
  obtain ⟨r,rfl⟩:=ec h0.1
  have htg:=gi hw h0.1 h1
  have hn3:=cb (n:=d.tag) oM
  refine jE [(0,_)] Tryz.func20 Tryz.ntmps20 fun B hB=>?_
  repeat' (first | refine jX ?_ | (refine jo ?_;refine jV (ao F F aS F F) ?_) | refine ad F F ?_)
  refine Nx.re (d:=7) (v':=S ((a7 d.tag).take (0 * (a7 d.tag).length))) F (congrArg (fun l=>S l) (by simp)) ?_
  refine aR (ι:=Nat) (fun i=>i ≤ 1) (fun i=>[(0,Pt b 0),(7,S ((a7 d.tag).take (i * (a7 d.tag).length))),(8,I i)]) (fun _=>G) (fun i=>[]) (fun i=>1 - i) 0 ?_ tU F aW (fun i Hi=>?_)
  ·exact Nat.zero_le _
  have hi2 : i = 0 ∨ i = 1:=oM
  rcases hi2 with rfl | rfl
  ·rw [Nat.zero_mul,List.take_zero]
   repeat' (first | refine jX ?_ | (refine jo ?_;first | refine jV (ao F F aS F F) ?_ | refine jV (al F) ?_ | refine jV (ay F F oM) ?_ | refine ab F F F (eU oM) F ?_) | refine ac F F ?_ | refine ad F F ?_)
   refine Nx.re (d:=7) (v':=S ((a7 d.tag).take (1 * (a7 d.tag).length))) F (congrArg (fun l=>S l) (by simp)) ?_
   exact aX 1 oM oM tU F aW
  ·rw [Nat.one_mul,List.take_length]
   repeat' (first | refine jR ?_ | (refine jo ?_;first | refine jV (ao F F aS F F) ?_ | refine jV (al F) ?_) | refine ad F F ?_)
   refine jY (vs:=[_]) ?_
   rw [aB,V.bys];rfl
 | uni k b tgb kb b' cc t d v hcc h0 h1 h2 h3 h4 hk ih =>
  intro hwf ht
  obtain ⟨r,rfl⟩:=ec h0.1
  have htg:=gi hw h0.1 h1
  simp only [cC,V.tots] at ht
  have hwv:=(kM hwf).1
  have hbl:=ji _ hwv oM
  have hn3:=cb (n:=d.tag) oM
  have hn4:=cb (n:=(v.bys.length : Nat)) oM
  have hub : (V.nd 61 [] d.tag [v]).bys = a7 d.tag ++ (a7 v.bys.length ++ v.bys):=by rw [V.bys];simp [V.byss,fC]
  refine (wo (tx:=[85]) (KS:=[V.nd 61 [] d.tag [v]]) (tg:=[d.tag]) (bs:=[b']) F (by simp) (.inr F) h2 (yi h3) (wD hcc h4) F F ?_ fun i hi=>?_).mono fun u _ _ hu=>?_
  ·simp only [V.byss,List.flatten_cons,List.flatten_nil,List.append_nil,hub,List.length_append];omega
  ·have : i = 0:=by have h9 : i < 1:=hi;omega
   subst this
   exact ⟨v,F,ih hwv oM,oM,htg.symm⟩
  ·obtain ⟨g1,g2,hu⟩:=hu;exact ⟨g1,g2,by rw [hu,V.bys];simp [V.byss,fC,hub]⟩
def hX (s k w : ac1) : Option ac1:=match dT s k w with
 | some u=>if u.bys.length ≤ 600 then some u.bys else none
 | none=>none
theorem lD {s k w : ac1} {u : V} (hg : dT s k w = some u) : ∃ ts,aO s = some ts ∧ aE ts k = true ∧ bV ts k w = some u ∧ u.tot ≤ 40000 ∧ u.wf:=by
 obtain ⟨ts,hs,hki,hvo⟩ : ∃ ts,aO s = some ts ∧ aE ts k = true ∧ bV ts k w = some u:=by
  unfold dT at hg
  cases hs : aO s with
  | none=>rw [hs] at hg;cases hg
  | some ts =>
   rw [hs] at hg
   dsimp only at hg
   by_cases hk : aE ts k = true
   ·rw [if_pos hk] at hg;exact ⟨ts,F,hk,hg⟩
   ·rw [if_neg hk] at hg;cases hg
 refine ⟨ts,hs,hki,hvo,?_,(nQ hvo).1⟩
 unfold bV at hvo
 split at hvo
 ·split at hvo
  ·rename_i v hv
   obtain rfl:=Option.some.inj hvo
   have:=iB _ _ _ _ hv
   dsimp only at this;omega
  ·cases hvo
 ·cases hvo
theorem rc {c : VC} {b : ac1} (cx_bys : aC ac0 101 [Ag (bx c)] G (· = S b)) : aC ac0 66 [Ag (bx c)] G (· = Tu [S (if b.length ≤ 600 then b else []),Bo (decide (b.length ≤ 600))]):=by
 simp only [bx,VC.sl] at *
 by_cases h6 : b.length ≤ 600
 ·rw [if_pos h6,decide_eq_true h6]
  refine jE [(0,_)] Tryz.func66 Tryz.ntmps66 fun B hB=>?_
  repeat' (first | refine jR ?_ | (refine jo ?_;first | refine jO fun _=>?_ | refine aN F ?_ | refine ab F F F cx_bys F ?_) | refine ad F (aA oM) ?_)
  all_goals refine jY (vs:=[_,_]) ?_
  all_goals rfl
 ·rw [if_neg h6,decide_eq_false h6]
  refine jE [(0,_)] Tryz.func66 Tryz.ntmps66 fun B hB=>?_
  repeat' (first | refine jR ?_ | (refine jo ?_;first | refine jO fun _=>?_ | refine aN F ?_ | refine ab F F F cx_bys F ?_) | refine ac F (ar oM) ?_)
  all_goals refine jY (vs:=[_,_]) ?_
  all_goals rfl
theorem nM {s k w : ac1} (h : s.length ≤ 1048576 ∧ k.length ≤ 1048576 ∧ w.length ≤ 1048576) : aC ac0 25 [S s,S k,S w] G (· = Tu [S ((hX s k w).getD []),Bo (hX s k w).isSome]):=by
 unfold hX
 cases hg : dT s k w with
 | none =>
  have cx_gi0:=sE (G:=G) h hg
  refine jB (Post:=fun v G' L'=>G' = G ∧ L' = [] ∧ _) [(0,_),(1,_),(2,_)] Tryz.func25 Tryz.ntmps25 fun B hok hB hW=>?_
  repeat' (first | refine jR ?_ | (refine jo ?_;first | refine jL fun _=>?_ | refine jC F F F ?_ | (refine aK F F F cx_gi0 F ?_;rintro _ G hle ⟨p1,a1,b1,c1,rfl⟩;skip)) | refine ac F F ?_)
  all_goals refine Nx.base hok hB ?_
  all_goals refine jY (vs:=[_,_]) ?_
  all_goals rfl
 | some u =>
  obtain ⟨ts,hs,hki,hvo,hto,hwf⟩:=lD hg
  have cx_gi1:=sD (G:=G) h hs hki hvo
  dsimp only
  have cy_bys : ∀ {G : Gh} {c : VC},V.rep G u c → aC ac0 101 [Ag (bx c)] G (· = S u.bys):=fun h=>ach u.tot (Nat.le_refl _) oM hwf h
  generalize u.bys = ub at *
  by_cases h6 : ub.length ≤ 600
  ·rw [if_pos h6]
   refine jB (Post:=fun v G' L'=>G' = G ∧ L' = [] ∧ _) [(0,_),(1,_),(2,_)] Tryz.func25 Tryz.ntmps25 fun B hok hB hW=>?_
   repeat' (first | refine jR ?_ | (refine jo ?_;first | refine jL fun _=>?_ | refine jC F F F ?_ | refine aN F ?_ | (refine aK F F F cx_gi1 F ?_;rintro _ G hle ⟨bg,qg,cv,rfl,hTg,hRg,hrv⟩;skip)) | refine ad F F ?_)
   have cx_tb:=rc (G:=G) (cy_bys hrv)
   rw [if_pos h6,decide_eq_true h6] at cx_tb
   repeat' (first | refine jR ?_ | (refine jo ?_;refine ab F F F cx_tb F ?_))
   all_goals refine Nx.base hok hB ?_
   all_goals refine jY (vs:=[_,_]) ?_
   all_goals rfl
  ·rw [if_neg h6]
   refine jB (Post:=fun v G' L'=>G' = G ∧ L' = [] ∧ _) [(0,_),(1,_),(2,_)] Tryz.func25 Tryz.ntmps25 fun B hok hB hW=>?_
   repeat' (first | refine jR ?_ | (refine jo ?_;first | refine jL fun _=>?_ | refine jC F F F ?_ | refine aN F ?_ | (refine aK F F F cx_gi1 F ?_;rintro _ G hle ⟨bg,qg,cv,rfl,hTg,hRg,hrv⟩;skip)) | refine ad F F ?_)
   have cx_tb:=rc (G:=G) (cy_bys hrv)
   rw [if_neg h6,decide_eq_false h6] at cx_tb
   repeat' (first | refine jR ?_ | (refine jo ?_;refine ab F F F cx_tb F ?_))
   all_goals refine Nx.base hok hB ?_
   all_goals refine jY (vs:=[_,_]) ?_
   all_goals rfl
theorem xl {x : ac1} (h : 1 ≤ x.length ∧ x.length ≤ 20) : aC ac0 33 [S x] G (· = Bo true):=by
 refine jE [(0,_)] Tryz.func33 Tryz.ntmps33 fun B hB=>?_
 repeat' (first | refine jR ?_ | (refine jo ?_;refine aH F ?_) | refine ax F F (ar oM) ?_)
 all_goals refine jY (vs:=[_]) ?_
 all_goals ((exact (aB _).trans (congrArg Value.bool (decide_eq_true oM))))
theorem xm {x : ac1} (h : ¬ (1 ≤ x.length ∧ x.length ≤ 20)) : aC ac0 33 [S x] G (· = Bo false):=by
 by_cases h1 : 1 ≤ x.length
 all_goals
  refine jE [(0,_)] Tryz.func33 Tryz.ntmps33 fun B hB=>?_
  repeat' (first | refine jR ?_ | (refine jo ?_;first | refine aH F ?_ | refine aw F ?_) | refine ax F F (ar oM) ?_ | refine aj F F (aA oM) ?_)
 all_goals refine jY (vs:=[_]) ?_
 all_goals (first | rfl | exact (aB _).trans (congrArg Value.bool (decide_eq_false oM)))
theorem v9 {x : ac1} (h : 1 ≤ x.length ∧ x.length ≤ 20) : aC ac0 27 [S x] G (· = Bo true):=by
 refine jE [(0,_)] Tryz.func27 Tryz.ntmps27 fun B hB=>?_
 repeat' (first | refine jR ?_ | (refine jo ?_;refine ab F F F sw F ?_))
 all_goals refine jY (vs:=[_]) ?_
 all_goals (rw [aB];congr 1;simp;omega)
theorem wa {x : ac1} (h : ¬ (1 ≤ x.length ∧ x.length ≤ 20)) : aC ac0 27 [S x] G (· = Bo false):=by
 refine jE [(0,_)] Tryz.func27 Tryz.ntmps27 fun B hB=>?_
 repeat' (first | refine jR ?_ | (refine jo ?_;refine ab F F F sw F ?_))
 all_goals refine jY (vs:=[_]) ?_
 all_goals (rw [aB];congr 1;simp;omega)
def gB (s k b : ac1) : Option V:=match aO s with
 | some ts=>if aE ts k = true ∧ b.length ≤ 600 then (match cN (rb ts 12) k b with
  | some v=>if v.out.length ≤ 400 then some v else none
  | none=>none) else none
 | none=>none
def ik (s k b : ac1) : Option V:=match aO s with
 | some ts=>if aE ts k = true ∧ b.length ≤ 600 then (match cN (rb ts 13) k b with
  | some v=>if v.out.length ≤ 400 ∧ v.deep ≤ 12 then some v else none
  | none=>none) else none
 | none=>none
def cM (s k b : ac1) : Option V:=match aO s with
 | some ts=>if aE ts k = true ∧ b.length ≤ 600 then jJ ts k b else none
 | none=>none
theorem p7 {s k b : ac1} {v : V} (h : gB s k b = some v) : ∃ ts,aO s = some ts ∧ aE ts k = true ∧ b.length ≤ 600 ∧ cN (rb ts 12) k b = some v ∧ v.out.length ≤ 400:=by
 unfold gB at h
 split at h
 ·rename_i ts hs
  split at h
  ·rename_i hk
   split at h
   ·rename_i u hu
    split at h
    ·cases h;exact ⟨ts,hs,hk.1,hk.2,hu,by assumption⟩
    ·cases h
   ·cases h
  ·cases h
 ·cases h
theorem p8 {s k b : ac1} {v : V} (h : ik s k b = some v) : ∃ ts,aO s = some ts ∧ aE ts k = true ∧ b.length ≤ 600 ∧ cN (rb ts 13) k b = some v ∧ v.out.length ≤ 400 ∧ v.deep ≤ 12:=by
 unfold ik at h
 split at h
 ·rename_i ts hs
  split at h
  ·rename_i hk
   split at h
   ·rename_i u hu
    split at h
    ·rename_i hc
     cases h;exact ⟨ts,hs,hk.1,hk.2,hu,hc.1,hc.2⟩
    ·cases h
   ·cases h
  ·cases h
 ·cases h
theorem iF {s k b : ac1} {v : V} (h : cM s k b = some v) : ∃ ts,aO s = some ts ∧ aE ts k = true ∧ b.length ≤ 600 ∧ OfK ts k v ∧ v.deep ≤ 12 ∧ v.out.length ≤ 400 ∧ v.bys = b:=by
 unfold cM at h
 split at h
 ·rename_i ts hs
  split at h
  ·rename_i hk
   obtain ⟨h1,h2,h3,h4⟩:=(pD (cp hs) oM).1 h
   exact ⟨ts,hs,hk.1,hk.2,h1,h2,h3,h4⟩
  ·cases h
 ·cases h
theorem iZ {s k b : ac1} {v : V} (h : gB s k b = some v) : cM s k b = if v.bys = b then some v else none:=by
 obtain ⟨ts,hs,hk,hb,hr,ho⟩:=p7 h
 have hr2:=cL hr
 unfold cM jJ
 rw [hs]
 dsimp only
 rw [if_pos ⟨hk,hb⟩,hr2]
 dsimp only
 by_cases h1 : v.bys = b
 ·rw [if_pos h1,if_pos ⟨h1,ho⟩]
 ·rw [if_neg h1,if_neg fun h=>h1 h.1]
theorem p6 {s k b : ac1} (h : gB s k b = none) : cM s k b = none:=by
 cases hc : cM s k b with
 | none=>rfl
 | some v =>
  obtain ⟨ts,hs,hk,hb,h1,h2,h3,rfl⟩:=iF hc
  have:=o8 (cp hs) 12 h1 h2 oM []
  rw [List.append_nil] at this
  unfold gB at h
  rw [hs] at h
  dsimp only at h
  rw [if_pos ⟨hk,hb⟩,gw this] at h
  dsimp only at h
  rw [if_pos h3] at h
  cases h
theorem uO {s k b : ac1} {v : V} (h : cM s k b = some v) : gB s k b = some v:=by
 cases hg : gB s k b with
 | none=>rw [p6 hg] at h;cases h
 | some u =>
  rw [iZ hg] at h
  split at h
  ·exact h
  ·cases h
theorem uD {s k b : ac1} {v : V} (h : ik s k b = some v) : cM s k b = if v.bys = b then some v else none:=by
 obtain ⟨ts,hs,hk,hb,hr,ho,hd⟩:=p8 h
 have hr2:=cL hr
 unfold cM
 rw [hs]
 dsimp only
 rw [if_pos ⟨hk,hb⟩]
 by_cases h1 : v.bys = b
 ·rw [if_pos h1]
  exact (sm (cp hs) oM).2 ⟨hr2,hd,ho,h1⟩
 ·rw [if_neg h1]
  cases hc : jJ ts k b with
  | none=>rfl
  | some u =>
   obtain ⟨g1,g2,g3,g4⟩:=(sm (cp hs) oM).1 hc
   rw [hr2] at g1
   simp only [Option.some.injEq,Prod.mk.injEq,and_true] at g1
   subst g1
   exact absurd g4 h1
theorem lP {s k b : ac1} {v : V} (h : cM s k b = some v) : ik s k b = some v:=by
 obtain ⟨ts,hs,hk,hb,h1,h2,h3,rfl⟩:=iF h
 have:=o8 (cp hs) 13 h1 oM oM []
 rw [List.append_nil] at this
 unfold ik
 rw [hs]
 dsimp only
 rw [if_pos ⟨hk,hb⟩,gw this]
 dsimp only
 rw [if_pos ⟨h3,h2⟩]
theorem yw {s k b : ac1} (h : ik s k b = none) : cM s k b = none:=by
 cases hc : cM s k b with
 | none=>rfl
 | some v=>rw [lP hc] at h;cases h
theorem n5 {s k : ac1} {v : V} {ts : List Ty} (hs : aO s = some ts) (hk : aE ts k = true) (h : OfK ts k v) (hd : v.deep ≤ 12) (ho : v.out.length ≤ 400) : dT s k v.out = some v:=by
 unfold dT
 rw [hs]
 dsimp only
 rw [if_pos hk]
 exact hZ (cp hs) h ho hd
theorem nN {s k : ac1} {v : V} {ts : List Ty} (hs : aO s = some ts) (hk : aE ts k = true) (h : OfK ts k v) (hd : v.deep ≤ 12) (ho : v.out.length ≤ 400) : hX s k v.out = if v.bys.length ≤ 600 then some v.bys else none:=by
 unfold hX
 rw [n5 hs hk h hd ho]
theorem jn {x : ac1} : ∀ {xs : List ac1} {ps : List Int},cj xs = some ps → cj (xs ++ [x]) = (aL x 999999).map fun n=>ps ++ [n]
 | [],ps,h=>by
  simp only [cj,Option.some.injEq] at h;subst h
  simp only [List.nil_append,cj]
  cases aL x 999999 <;> rfl
 | y :: ys,ps,h=>by
  unfold cj at h
  cases hn : aL y 999999 with
  | none=>rw [hn] at h;cases h
  | some n =>
   rw [hn] at h
   dsimp only at h
   cases hs : cj ys with
   | none=>rw [hs] at h;cases h
   | some q =>
    rw [hs] at h
    simp only [Option.map_some,Option.some.injEq] at h
    subst h
    rw [List.cons_append]
    unfold cj
    rw [hn]
    dsimp only
    rw [jn hs]
    cases aL x 999999 <;> rfl
theorem oP {x : ac1} {ys : List ac1} (h : aL x 999999 = none) : ∀ {xs : List ac1},cj (xs ++ x :: ys) = none
 | []=>by simp only [List.nil_append,cj,h]
 | y :: xs=>by
  rw [List.cons_append]
  unfold cj
  cases aL y 999999 with
  | none=>rfl
  | some n=>dsimp only;rw [oP h];rfl
abbrev abw : TypeId:=3
def ww (s : ac1) (v : Value) (G : Gh) : Prop:=∃ a c n,v = Tu [.slice a n c,Bo (cJ s).isSome] ∧ ∀ p,cJ s = some p → n = p.length ∧ bR G (.slice a n c) 1 p.length (aI eh p)
theorem mA {s : ac1} (h : s ≠ []) : cJ s = match cj (aV 47 s) with
  | some p=>if p.length ≤ 8 then some p else none
  | none=>none:=by
 unfold cJ;rw [if_neg h]
 all_goals (cases cj (aV 47 s) <;> rfl)
theorem pi {s : ac1} (h : s ≠ []) {i : Nat} (hi : i < (aV 47 s).length) (hn : aL (ae (aV 47 s) i) 999999 = none) : cJ s = none:=by
 rw [mA h]
 have e : aV 47 s = (aV 47 s).take i ++ ae (aV 47 s) i :: (aV 47 s).drop (i + 1):=by
  rw [aP hi,List.getElem_cons_drop,List.take_append_drop]
 rw [e,oP hn]
theorem sq {s : ac1} (h : s.length ≤ 1048576) : bi ac0 19 [S s] G (ww s):=by
 by_cases h0 : s = []
 ·subst h0
  refine jB [(0,_)] Tryz.func19 Tryz.ntmps19 fun B hok hB hW=>?_
  repeat' (first | refine jR ?_ | (refine jo ?_;refine jF fun _=>?_) | refine ac F F ?_)
  rename_i x
  refine Nx.blkAcc (m:=0) (sz:=1) .here F ?_
  refine Nx.sealS (v:=.slice (some ⟨x,0,none⟩) 0 0) fun G2 hG2 hsl=>?_
  refine jZ (vs:=[_,_]) F ⟨F,F,trivial⟩ F ⟨hG2,F,?_⟩
  exact ⟨_,_,_,F,fun p hp=>by
   obtain rfl : p = []:=by unfold cJ at hp;simpa using hp.symm
   exact ⟨F,hsl⟩⟩
 have cx_cutS : bi ac0 55 [S s,U8 47] G (fun v G'=>bR G' v 1 (aV 47 s).length (aI dz (aV 47 s))):=oG (k:=47) oM
 have hcl:=gO (k:=47) (s:=s)
 have hbad:=fun {i : Nat}=>pi h0 (i:=i)
 have hpo:=mA h0
 have hxl : ∀ i,i < (aV 47 s).length → (ae (aV 47 s) i).length ≤ 100000000:=fun i hi=>by
  have:=c7 (bB hi)
  omega
 generalize aV 47 s = xs at *
 refine jB [(0,_)] Tryz.func19 Tryz.ntmps19 fun B hok hB hW=>?_
 repeat' (first | refine jR ?_ | (refine jo ?_;first | refine jF fun _=>?_ | (refine aK F F F cx_cutS F ?_;rintro _ G hle hcut;skip)) | refine ad F (aA ‹_›) ?_)
 rename_i x _
 obtain ⟨la,lc,rfl⟩:=hcut.sl
 refine Nx.blkAcc (m:=0) (sz:=1) .here F ?_
 refine aR (ι:=List Int × Option Addr × Nat × Nat) (fun j=>(j.1.length = j.2.2.2 ∧ j.2.2.2 ≤ xs.length) ∧ cj (xs.take j.2.2.2) = some j.1) (fun j=>[(4,.slice j.2.1 j.1.length j.2.2.1),(5,.slice la xs.length lc),(6,I j.2.2.2)]) (fun _=>G) (fun j=>[.acc (.slice j.2.1 j.1.length j.2.2.1) abw 1 j.1.length (aI eh j.1)]) (fun j=>xs.length - j.2.2.2) ([],some ⟨x,0,none⟩,0,0) ?_ tU F aW (fun j Hj=>?_)
 ·exact ⟨⟨F,Nat.zero_le _⟩,F⟩
 obtain ⟨ps,a,c,i⟩:=j
 dsimp only at Hj ⊢
 obtain ⟨⟨hpl,hi0⟩,hst⟩:=Hj
 by_cases hi : i < xs.length
 ·obtain ⟨bl,ol,cl,e,hsx⟩:=hcut.expl oM
  simp only [Value.slice.injEq] at e
  obtain ⟨rfl,-,rfl⟩:=e
  have hxl1:=hxl i hi
  cases hn : aL (ae xs i) 999999 with
  | none =>
   have hno:=hbad hi hn
   have hns : (!(aL (ae xs i) 999999).isSome) = true:=by rw [hn];rfl
   repeat' (first | refine jR ?_ | (refine jo ?_;first | refine jV (al F) ?_ | refine jV (ay F F oM) ?_ | (refine jV (eS F F aS ?_) ?_;focus omega) | (refine cZ F F F (gc oM) F ?_;rintro _ ⟨n,rfl,hnum⟩)) | (refine ac F (by first | assumption | (refine decide_eq_true ?_;(omega))) ?_))
   all_goals refine jZ (vs:=[_,_]) F ⟨F,F,trivial⟩ F ⟨hle,F,?_⟩
   all_goals exact ⟨_,_,_,by rw [hno];rfl,fun p hp=>by rw [hno] at hp;cases hp⟩
  | some m =>
   have hns : (!(aL (ae xs i) 999999).isSome) = false:=by rw [hn];rfl
   repeat' (first | refine jM ?_ | (refine jo ?_;first | refine jF fun _=>?_ | refine jV (al F) ?_ | refine jV (ay F F oM) ?_ | (refine jV (eS F F aS ?_) ?_;focus omega) | refine cQ F F F F F F F F F oM fun _ _=>?_ | (refine cZ F F F (gc oM) F ?_;rintro _ ⟨n,rfl,hnum⟩)) | refine ac F (ar oM) ?_ | refine ad F ‹_› ?_)
   rename_i y1 yc
   have hmn:=hnum m hn
   subst hmn
   have hst2 : cj (xs.take (i + 1)) = some (ps ++ [n]):=by rw [d4 hi,jn hst,hn];rfl
   have hl1 : (ps ++ [n]).length = ps.length + 1:=by simp
   rw [show aI eh ps ++ [I n] = aI eh (ps ++ [n]) from (cB eh ps n).symm]
   exact aX (ps ++ [n],some ⟨y1,0,none⟩,yc,i + 1) ⟨⟨by dsimp only;omega,by dsimp only;omega⟩,hst2⟩ (by dsimp only;omega) (by rw [hl1];repeat (first | exact trivial | refine ⟨F,?_⟩)) F (by rw [hl1];repeat (first | exact List.nil_sublist _ | apply List.Sublist.cons_cons))
 ·rw [List.take_of_length_le oM] at hst
  rw [hst] at hpo
  dsimp only at hpo
  repeat' (first | refine jR ?_ | (refine jo ?_;refine jV (al F) ?_) | refine ad F (aA oM) ?_)
  refine Nx.sealS (v:=.slice a ps.length c) fun G2 hG2 hsl=>?_
  refine jZ (vs:=[_,_]) F ⟨F,F,trivial⟩ F ⟨hle.trans hG2,F,?_⟩
  have e8 : decide (((xs.length : Nat) : Int) ≤ 8) = (cJ s).isSome:=by
   rw [hpo]
   by_cases h8 : ps.length ≤ 8
   ·rw [if_pos h8];exact decide_eq_true oM
   ·rw [if_neg h8];exact decide_eq_false oM
  refine ⟨_,_,_,by rw [e8];rfl,fun p hp=>?_⟩
  rw [hpo] at hp
  split at hp
  ·simp only [Option.some.injEq] at hp;subst hp;exact ⟨F,hsl⟩
  ·cases hp
theorem z0 {ts : List Ty} {c : UInt8} {r : ac1} (h : c.toNat ≠ 64) : aT ts (c :: r) = none:=by
 cases h2 : aT ts (c :: r) with
 | none=>rfl
 | some t=>exact (c6 h2 F h).elim
theorem xa {p : Nat → Prop} {n : Nat} (h : ∃ j,j < n ∧ p j) : ∃ j,j < n ∧ p j ∧ ∀ i,i < j → ¬ p i:=by
 obtain ⟨j,hj,hp⟩:=h
 induction j using Nat.strongRecOn with
 | _ j ih =>
  by_cases hc : ∃ i,i < j ∧ p i
  ·obtain ⟨i,hi,hpi⟩:=hc
   exact ih i hi oM hpi
  ·exact ⟨j,hj,hp,fun i hi hpi=>hc ⟨i,hi,hpi⟩⟩
theorem nW {f : Fld} : ∀ {fs : List (Fld × V)} {j : Nat},j < fs.length → (ae fs j).1.tag = f.tag → (∀ i,i < j → (ae fs i).1.tag ≠ f.tag) → cV f (fs.map aU) = some (ae fs j).2
 | [],j,hj,_,_=>by simp at hj
 | p :: fs,0,_,ht,_=>by
  rw [List.map_cons,cV,if_pos (show (aU p).tag = f.tag from ht)];rfl
 | p :: fs,j + 1,hj,ht,hno=>by
  rw [List.map_cons,cV,if_neg (show ¬ (aU p).tag = f.tag from hno 0 oM)]
  exact nW (fs:=fs) (j:=j) (by simpa using hj) ht fun i hi=>hno (i + 1) oM
theorem nU {f : Fld} : ∀ {fs : List (Fld × V)},(∀ i,i < fs.length → (ae fs i).1.tag ≠ f.tag) → cV f (fs.map aU) = none
 | [],_=>rfl
 | p :: fs,h=>by
  rw [List.map_cons,cV,if_neg (show ¬ (aU p).tag = f.tag from h 0 (by simp))]
  exact nU fun i hi=>h (i + 1) (by simpa using hi)
theorem nR {ts : List Ty} {k w : ac1} {v : V} (h : bV ts k w = some v) : rd ts 12 k w = some (v,[]) ∧ w.length ≤ 400:=by
 unfold bV at h
 split at h
 ·rename_i hl
  split at h
  ·rename_i v' hv;rw [hv];exact ⟨congrArg (fun x=>some (x,[])) (Option.some.inj h),hl⟩
  ·cases h
 ·cases h
theorem ack {b j : Nat} {k : ac1} {tg : List Int} {bs : List Nat} {a a2 : Option Addr} {c c2 : Nat} {n : Int} (hl : bs.length = tg.length) (h9 : tg.length ≤ 100000) (hs : cE G b 0 [S k,S [82],.slice a tg.length c,.slice a2 tg.length c2]) (h1 : bR G (.slice a tg.length c) 1 tg.length (aI eh tg)) (h2 : bR G (.slice a2 tg.length c2) 1 tg.length (aI gj bs)) (hj : j < tg.length) (hjn : ae tg j = n) (hno : ∀ i,i < j → ae tg i ≠ n) :
  aC ac0 88 [Pt b 0,I n] G (· = Tu [Pt (ae bs j) 0,Bo true]):=by
 obtain ⟨xb,xo,xc,e,hs1⟩:=h1.expl oM
 simp only [Value.slice.injEq] at e
 obtain ⟨rfl,-,rfl⟩:=e
 obtain ⟨zb,zo,zc,e,hs2⟩:=h2.expl oM
 simp only [Value.slice.injEq] at e
 obtain ⟨rfl,-,rfl⟩:=e
 refine jE [(0,_),(1,_)] Tryz.func88 Tryz.ntmps88 fun B hB=>?_
 repeat' (refine jR ?_)
 refine aR (ι:=Nat) (fun i=>i ≤ j) (fun i=>[(0,Pt b 0),(1,I n),(6,I i)]) (fun _=>G) (fun i=>[]) (fun i=>j - i) 0 ?_ tU F aW (fun i Hi=>?_)
 ·exact Nat.zero_le _
 have hxi : ae bs i = ae bs i:=rfl
 have hti : ae tg i = ae tg i:=rfl
 by_cases hij : i = j
 ·subst hij
  repeat' (first | refine jR ?_ | (refine jo ?_;first | refine jV (ao F F aS F F) ?_ | (refine jV (dp F F aS ?_ aS F) ?_;focus omega) | refine jV (al F) ?_ | refine aH F ?_ | refine jV (ay F F oM) ?_) | refine ax F F (ar oM) ?_ | (refine ac F (by first | rfl | (refine decide_eq_true ?_;(rfl))) ?_))
  all_goals refine jY (vs:=[_,_]) ?_
  all_goals rfl
 ·have h3:=hno i oM
  repeat' (first | refine jM ?_ | (refine jo ?_;first | refine jV (ao F F aS F F) ?_ | (refine jV (dp F F aS ?_ aS F) ?_;focus omega) | refine jV (al F) ?_ | refine aH F ?_ | refine jV (ay F F oM) ?_) | refine ax F F (ar oM) ?_ | refine ac F F ?_ | refine ad F (aA ‹_›) ?_)
  exact aX (i + 1) (show i + 1 ≤ j by have : i ≤ j:=Hi;omega) (by have : i ≤ j:=Hi;omega) tU rfl aW
theorem acl {b : Nat} {k : ac1} {tg : List Int} {a a2 : Option Addr} {c c2 : Nat} {n : Int} (h9 : tg.length ≤ 100000) (hs : cE G b 0 [S k,S [82],.slice a tg.length c,.slice a2 tg.length c2]) (h1 : bR G (.slice a tg.length c) 1 tg.length (aI eh tg)) (hno : ∀ i,i < tg.length → ae tg i ≠ n) :
  aC ac0 88 [Pt b 0,I n] G (· = Tu [.pointer none,Bo false]):=by
 refine jE [(0,_),(1,_)] Tryz.func88 Tryz.ntmps88 fun B hB=>?_
 repeat' (refine jR ?_)
 refine aR (ι:=Nat) (fun i=>i ≤ tg.length) (fun i=>[(0,Pt b 0),(1,I n),(6,I i)]) (fun _=>G) (fun i=>[]) (fun i=>tg.length - i) 0 ?_ tU F aW (fun i Hi=>?_)
 ·exact Nat.zero_le _
 by_cases hi : i < tg.length
 ·obtain ⟨xb,xo,xc,e,hs1⟩:=h1.expl oM
  simp only [Value.slice.injEq] at e
  obtain ⟨rfl,-,rfl⟩:=e
  have h3:=hno i hi
  have hti : ae tg i = ae tg i:=rfl
  repeat' (first | refine jM ?_ | (refine jo ?_;first | refine jV (ao F F aS F F) ?_ | (refine jV (dp F F aS ?_ aS F) ?_;focus omega) | refine jV (al F) ?_ | refine aH F ?_ | refine jV (ay F F oM) ?_) | refine ax F F (ar oM) ?_ | refine ac F F ?_ | refine ad F (aA ‹_›) ?_)
  exact aX (i + 1) oM oM tU F aW
 ·repeat' (first | refine jR ?_ | (refine jo ?_;first | refine jV (ao F F aS F F) ?_ | refine jV (al F) ?_ | refine aw F ?_) | refine aj F F (aA oM) ?_ | refine ad F F ?_)
  all_goals refine jY (vs:=[_,_]) ?_
  all_goals rfl
theorem uR {u : Value} {x : bZ} {k : ac1} {n : Int} (hu : u.oneCell' = true) (hf : bR G (gJ x) 4 x.2.fields.length (aI gC x.2.fields)) (hl : x.2.fields.length ≤ 1000) (cx_rf : aC ac0 113 [u,S k] G (· = Tu [Ag [U8 x.2.sort,S x.2.name,gJ x],Bo true])) (hso : x.2.sort = 82) :
  aC ac0 87 [u,S k,I n] G (· = Tu [Ag (gC ((br x.2.fields n).getD zF)),Bo (br x.2.fields n).isSome]):=by
 have cx_fld:=gF (tag:=n) hf hl
 obtain ⟨⟨a,ca⟩,⟨so,nm,fs⟩⟩:=x
 dsimp only at hso cx_fld cx_rf ⊢
 subst hso
 dsimp only [gJ] at cx_fld cx_rf ⊢
 cases hg : br fs n with
 | none =>
  rw [hg] at cx_fld
  simp only [Option.getD_none,Option.isSome_none] at cx_fld ⊢
  refine jE [(0,_),(1,_),(2,_)] Tryz.func87 Tryz.ntmps87 fun B hB=>?_
  repeat' (first | refine jR ?_ | (refine jo ?_;first | refine jL fun _=>?_ | refine jC F F F ?_ | refine aN F ?_ | refine ab F F F cx_rf F ?_ | refine ab F F F cx_fld F ?_) | (refine ai (dA (id:=3) (tt:=6) F ah ?_);refine jW 10 [1,2] (aa 12 6) ?_;(try (refine Nx.re (d:=26) (v':=Bo true) F (congrArg Value.bool F) ?_));refine jW 9 [3] (aa 12 14) ?_;(refine jG (aa 12 15) 0 F (bo F F F F) ?_);((refine jG (aa 12 31) 4 F (bD F F ?_) ?_;(focus ((rfl);done))));refine jW 6 [5] (aa 12 63) ?_;(try (refine Nx.re (d:=29) (v':=Bo false) F (congrArg Value.bool F) ?_));refine jW 5 [6] (aa 12 127) ?_;(refine jN (aa 12 255) 7 F ?_);refine jW 3 [8] (aa 12 511) ?_;((refine jG (aa 12 1023) 9 F (bc F F ?_) ?_;(focus ((rfl);done))));refine jA 10 F ?_;(refine jC F F F ?_);refine jK (aa 12 2047) ?_;refine jW 0 [11] (aa 12 4095) ?_;refine jQ ?_))
  all_goals refine jZ (vs:=[_,_]) F ⟨av F F F F,F,trivial⟩ F ⟨F,F,?_⟩
  all_goals rfl
 | some f =>
  rw [hg] at cx_fld
  simp only [Option.getD_some,Option.isSome_some] at cx_fld ⊢
  refine jE [(0,_),(1,_),(2,_)] Tryz.func87 Tryz.ntmps87 fun B hB=>?_
  repeat' (first | refine jR ?_ | (refine jo ?_;first | refine jL fun _=>?_ | refine jC F F F ?_ | refine aN F ?_ | refine ab F F F cx_rf F ?_ | refine ab F F F cx_fld F ?_) | (refine ai (dA (id:=3) (tt:=6) F ah ?_);refine jW 10 [1,2] (aa 12 6) ?_;(try (refine Nx.re (d:=26) (v':=Bo true) F (congrArg Value.bool F) ?_));refine jW 9 [3] (aa 12 14) ?_;(refine jG (aa 12 15) 0 F (bo F F F F) ?_);((refine jG (aa 12 31) 4 F (bD F F ?_) ?_;(focus ((rfl);done))));refine jW 6 [5] (aa 12 63) ?_;(try (refine Nx.re (d:=29) (v':=Bo true) F (congrArg Value.bool F) ?_));refine jW 5 [6] (aa 12 127) ?_;(refine jG (aa 12 255) 7 F (aD F F F) ?_);refine jW 3 [8] (aa 12 511) ?_;((refine jG (aa 12 1023) 9 F (bD F F ?_) ?_;(focus ((rfl);done))));refine jA 10 F ?_;(refine jC F F F ?_);refine jK (aa 12 2047) ?_;refine jW 0 [11] (aa 12 4095) ?_;refine jQ ?_))
  all_goals refine jZ (vs:=[_,_]) F ⟨av F F F F,F,trivial⟩ F ⟨F,F,?_⟩
  all_goals rfl
def ix (ts : List Ty) (o : Option (ac1 × V)) (r : Value) (G' : Gh) : Prop:=(o = none ∧ ∃ q,r = Tu [.pointer q,Bo false]) ∨ ∃ k' v' b',o = some (k',v') ∧ r = Tu [Pt b' 0,Bo true] ∧ RepR G' ts v' k' b'
theorem ix.no {f : FuncId} {args : List Value} {ts : List Ty} {o : Option (ac1 × V)} (h : bi ac0 f args G (ix ts o)) (e : o = none) : bi ac0 f args G (fun r _=>∃ q,r = Tu [.pointer q,Bo false]):=by
 refine h.mono ?_
 rintro v G' L' ⟨h1,h2,⟨_,h3⟩ | ⟨k',v',b',h3,_⟩⟩
 ·exact ⟨h1,h2,h3⟩
 ·rw [e] at h3;cases h3
theorem ix.yes {f : FuncId} {args : List Value} {ts : List Ty} {o : Option (ac1 × V)} {k' : ac1} {v' : V} (h : bi ac0 f args G (ix ts o)) (e : o = some (k',v')) : bi ac0 f args G (fun r G'=>∃ b',r = Tu [Pt b' 0,Bo true] ∧ RepR G' ts v' k' b'):=by
 refine h.mono ?_
 rintro v G' L' ⟨h1,h2,⟨h3,_⟩ | ⟨k2,v2,b',h3,h4,h5⟩⟩
 ·rw [e] at h3;cases h3
 ·rw [e] at h3
  simp only [Option.some.injEq,Prod.mk.injEq] at h3
  obtain ⟨rfl,rfl⟩:=h3
  exact ⟨h1,h2,b',h4,h5⟩
theorem nu {ts : List Ty} {c : UInt8} {r : ac1} {v : V} {n : Int} (h1 : c.toNat ≠ 91) (h2 : c.toNat ≠ 63) (h3 : c.toNat ≠ 64) : bH ts (c :: r) v n = none:=by
 unfold bH;dsimp only;rw [if_neg (fun h=>by rcases h with h | h;exact h1 h;exact h2 h),z0 h3]
theorem iz {ts : List Ty} {c : UInt8} {r : ac1} {v : V} {n : Int} (h : c.toNat = 91 ∨ c.toNat = 63) : bH ts (c :: r) v n = if n < (v.kids.length : Nat) then some (r,ae v.kids n.toNat) else none:=by
 unfold bH;dsimp only;rw [if_pos h]
theorem j6 {ts : List Ty} {k : ac1} {v : V} {n : Int} {t : Ty} (h : aT ts k = some t) : bH ts k v n = match br t.fields n with
  | none=>none
  | some f=>if t.sort = 69 then none else if t.sort = 82 then some (f.kind,ff ts v f) else if v.tag = n then some (f.kind,ae v.kids 0) else none:=by
 obtain ⟨r,rfl⟩:=ec h
 unfold bH;dsimp only;rw [if_neg dC,h]
 all_goals rfl
theorem zd {u : Value} {vs : List bZ} (h : SchR G u vs) (hw : SchW (af vs)) {k : ac1} {v : V} {b : Nat} (hr : RepR G (af vs) v k b) (ho : OfK (af vs) k v) (hki : aE (af vs) k = true) {n : Int} (hn : 0 ≤ n ∧ n ≤ 999999) (htt : v.tot ≤ 1000000) :
  bi ac0 58 [u,Pt b 0,I n] G (ix (af vs) (bH (af vs) k v n)):=by
 have hu:=h.sl.one
 obtain ⟨ua,uc,rfl⟩:=h.sl.sl
 cases hr with
 | leaf w x k tx b h1 h2 =>
  have hn82 : ¬ tx = [82]:=by
   rcases h2 with ⟨_,_,rfl,h⟩ | ⟨_,_,rfl⟩ | ⟨_,_,rfl,h⟩
   ·rintro rfl;exact absurd (h 82 (by simp)) dC
   ·simp
   ·rcases h with rfl | rfl <;> decide
  have hn85 : ¬ tx = [85]:=by
   rcases h2 with ⟨_,_,rfl,h⟩ | ⟨_,_,rfl⟩ | ⟨_,_,rfl,h⟩
   ·rintro rfl;exact absurd (h 85 (by simp)) dC
   ·simp
   ·rcases h with rfl | rfl <;> decide
  have hno : bH (af vs) k (.nd w x 0 []) n = none:=by
   rcases h2 with ⟨_,rfl,_⟩ | ⟨_,rfl,_⟩ | ⟨_,rfl,_⟩
   all_goals exact nu dC dC dC
  rw [hno]
  rcases h2 with ⟨rfl,rfl,_⟩ | ⟨rfl,rfl,_⟩ | ⟨rfl,rfl,_⟩
  all_goals
   refine jB [(0,_),(1,_),(2,_)] Tryz.func58 Tryz.ntmps58 fun B hok hB hW=>?_
   repeat' (first | refine jX ?_ | (refine jo ?_;first | refine jV (ao F F aS F F) ?_ | refine aw F ?_) | (refine aj F F (by first | rfl | (refine decide_eq_false ?_;(assumption))) ?_) | refine ad F F ?_)
   all_goals refine jZ (vs:=[_,_]) F ⟨F,F,trivial⟩ F ⟨Gh.le.refl _,F,?_⟩
   all_goals exact .inl ⟨F,_,F⟩
 | lst k b ks bs a c h1 h2 h3 hk =>
  have hk0 : bt (91 :: k) (Int.toNat 0) = 91:=a6 91 k
  have hkl2 : (91 :: k).length = k.length + 1:=rfl
  have hst:=iz (ts:=af vs) (c:=91) (r:=k) (v:=.nd 91 [] 0 ks) (n:=n) (.inl rfl)
  rw [V.kids] at hst
  rw [hst]
  by_cases hn2 : n < ((ks.length : Nat) : Int)
  ·obtain ⟨i,rfl⟩ : ∃ i : Nat,n = i:=⟨n.toNat,oM⟩
   obtain ⟨kb,ko,kc,e,hs⟩:=h2.expl oM
   simp only [Value.slice.injEq] at e
   obtain ⟨rfl,-,rfl⟩:=e
   have hxi : ae bs i = ae bs i:=rfl
   rw [if_pos hn2]
   refine jB [(0,_),(1,_),(2,_)] Tryz.func58 Tryz.ntmps58 fun B hok hB hW=>?_
   repeat' (first | refine jM ?_ | (refine jo ?_;first | refine jV (ao F F aS F F) ?_ | (refine jV (dp F F aS ?_ aS F) ?_;focus omega) | refine aH F ?_ | refine jV (al F) ?_ | refine jV (ay F F oM) ?_) | refine ax F F F ?_ | refine ac F F ?_ | refine ad F (aA oM) ?_)
   all_goals refine jZ (vs:=[_,_]) F ⟨F,F,trivial⟩ F ⟨Gh.le.refl _,F,?_⟩
   all_goals exact .inr ⟨_,_,ae bs i,F,F,hk i oM⟩
  ·rw [if_neg hn2]
   refine jB [(0,_),(1,_),(2,_)] Tryz.func58 Tryz.ntmps58 fun B hok hB hW=>?_
   repeat' (first | refine jM ?_ | (refine jo ?_;first | refine jV (ao F F aS F F) ?_ | refine aH F ?_ | refine jV (al F) ?_) | refine ax F F F ?_ | (refine ac F (by first | rfl | (refine decide_eq_true ?_;(omega))) ?_))
   all_goals refine jZ (vs:=[_,_]) F ⟨F,F,trivial⟩ F ⟨Gh.le.refl _,F,?_⟩
   all_goals exact .inl ⟨F,_,F⟩
 | non k b h1 =>
  have hk0 : bt (63 :: k) (Int.toNat 0) = 63:=a6 63 k
  have hkl2 : (63 :: k).length = k.length + 1:=rfl
  have hst:=iz (ts:=af vs) (c:=63) (r:=k) (v:=.nd 63 [] 0 []) (n:=n) (.inr rfl)
  rw [V.kids,if_neg (by simp;omega)] at hst
  rw [hst]
  refine jB [(0,_),(1,_),(2,_)] Tryz.func58 Tryz.ntmps58 fun B hok hB hW=>?_
  repeat' (first | refine jM ?_ | (refine jo ?_;first | refine jV (ao F F aS F F) ?_ | refine aw F ?_ | refine jV (al F) ?_) | refine aj F F F ?_ | (refine ac F (by first | rfl | (refine decide_eq_true ?_;(omega))) ?_))
  all_goals refine jZ (vs:=[_,_]) F ⟨F,F,trivial⟩ F ⟨Gh.le.refl _,F,?_⟩
  all_goals exact .inl ⟨F,_,F⟩
 | opt k b kb b' cc w h0 h1 h2 h3 =>
  have hk0 : bt (63 :: k) (Int.toNat 0) = 63:=a6 63 k
  have hkl2 : (63 :: k).length = k.length + 1:=rfl
  have hst:=iz (ts:=af vs) (c:=63) (r:=k) (v:=.nd 63 [] 0 [w]) (n:=n) (.inr rfl)
  rw [V.kids] at hst
  rw [hst]
  by_cases hn2 : n = 0
  ·subst hn2
   rw [if_pos (by simp)]
   refine jB [(0,_),(1,_),(2,_)] Tryz.func58 Tryz.ntmps58 fun B hok hB hW=>?_
   repeat' (first | refine jM ?_ | (refine jo ?_;first | refine jV (ao F F aS F F) ?_ | refine aw F ?_ | refine jV (al F) ?_ | refine jV (be F F oM) ?_) | refine aj F F F ?_ | refine ac F F ?_ | refine ad F F ?_)
   all_goals refine jZ (vs:=[_,_]) F ⟨F,F,trivial⟩ F ⟨Gh.le.refl _,F,?_⟩
   all_goals exact .inr ⟨_,_,b',F,F,h3⟩
  ·rw [if_neg (by simp;omega)]
   refine jB [(0,_),(1,_),(2,_)] Tryz.func58 Tryz.ntmps58 fun B hok hB hW=>?_
   repeat' (first | refine jM ?_ | (refine jo ?_;first | refine jV (ao F F aS F F) ?_ | refine aw F ?_ | refine jV (al F) ?_) | refine aj F F F ?_ | (refine ac F (by first | rfl | (refine decide_eq_true ?_;(omega))) ?_))
   all_goals refine jZ (vs:=[_,_]) F ⟨F,F,trivial⟩ F ⟨Gh.le.refl _,F,?_⟩
   all_goals exact .inl ⟨F,_,F⟩
 | enm k b tgb t d h0 h1 h2 h3 =>
  have hst:=j6 (v:=.nd 69 [] d.tag []) (n:=n) h0.1
  have hno : bH (af vs) k (.nd 69 [] d.tag []) n = none:=by
   rw [hst]
   cases br t.fields n with
   | none=>rfl
   | some f=>dsimp only;rw [if_pos h0.2]
  rw [hno]
  obtain ⟨r,rfl⟩:=ec h0.1
  have hk0 : bt (64 :: r) (Int.toNat 0) = 64:=a6 64 r
  have hkl2 : (64 :: r).length = r.length + 1:=rfl
  refine jB [(0,_),(1,_),(2,_)] Tryz.func58 Tryz.ntmps58 fun B hok hB hW=>?_
  repeat' (first | refine jM ?_ | (refine jo ?_;first | refine jV (ao F F aS F F) ?_ | refine aw F ?_) | refine aj F F F ?_ | refine ad F F ?_)
  all_goals refine jZ (vs:=[_,_]) F ⟨F,F,trivial⟩ F ⟨Gh.le.refl _,F,?_⟩
  all_goals exact .inl ⟨F,_,F⟩
 | uni k b tgb kb b' cc t d w hcc h0 h1 h2 h3 h4 hk =>
  have hst:=j6 (v:=.nd 85 [] d.tag [w]) (n:=n) h0.1
  have hTW:=hw.ty _ (bJ h0.1)
  have hso:=h0.2
  obtain ⟨r,rfl⟩:=ec h0.1
  have hk0 : bt (64 :: r) (Int.toNat 0) = 64:=a6 64 r
  have hkl2 : (64 :: r).length = r.length + 1:=rfl
  by_cases hdn : d.tag = n
  ·have hyes : bH (af vs) (64 :: r) (.nd 85 [] d.tag [w]) n = some (d.kind,w):=by
    rw [hst,← hdn,il hTW h1]
    dsimp only
    rw [if_neg oM,if_neg oM,if_pos (show V.tag (.nd 85 [] d.tag [w]) = d.tag from rfl)];rfl
   rw [hyes]
   refine jB [(0,_),(1,_),(2,_)] Tryz.func58 Tryz.ntmps58 fun B hok hB hW=>?_
   repeat' (first | refine jM ?_ | (refine jo ?_;first | refine jV (ao F F aS F F) ?_ | refine aH F ?_ | refine aw F ?_) | refine ax F F F ?_ | refine aj F F F ?_ | refine ac F F ?_ | refine ad F F ?_)
   (refine ai (am (id:=6) _ (fun _ h=>h) ah ?_);refine jT 9 [0,1,2,6,7,8,12] (aa 16 4551) ?_;(refine jG (aa 16 4559) 3 F (ao F F aS F F) ?_);(refine jG (aa 16 4575) 4 F (be F F oM) ?_);(refine jG (aa 16 4607) 5 F (ao F F aS F F) ?_);refine jT 5 [14] (aa 16 20991) ?_;(refine jG (aa 16 21503) 9 F (ao F F aS F F) ?_);(refine jG (aa 16 22527) 10 F (be F F oM) ?_);(refine jG (aa 16 24575) 11 F (ao F F aS F F) ?_);refine jT 0 [13,15] (aa 16 65535) ?_;refine jQ ?_)
   all_goals repeat' (refine jR ?_)
   all_goals refine jZ (vs:=[_,_]) F ⟨F,F,trivial⟩ F ⟨Gh.le.refl _,F,?_⟩
   all_goals (try rw [decide_eq_true hdn])
   all_goals exact .inr ⟨_,_,b',F,F,hk⟩
  ·have hno : bH (af vs) (64 :: r) (.nd 85 [] d.tag [w]) n = none:=by
    rw [hst]
    cases br t.fields n with
    | none=>rfl
    | some f =>
     dsimp only
     rw [if_neg oM,if_neg oM,if_neg (show ¬ V.tag (.nd 85 [] d.tag [w]) = n from hdn)]
   rw [hno]
   refine jB [(0,_),(1,_),(2,_)] Tryz.func58 Tryz.ntmps58 fun B hok hB hW=>?_
   repeat' (first | refine jM ?_ | (refine jo ?_;first | refine jV (ao F F aS F F) ?_ | refine aH F ?_ | refine aw F ?_) | refine ax F F F ?_ | refine aj F F F ?_ | refine ac F F ?_ | refine ad F F ?_)
   (refine ai (am (id:=6) _ (fun _ h=>h) ah ?_);refine jT 9 [0,1,2,6,7,8,12] (aa 16 4551) ?_;(refine jG (aa 16 4559) 3 F (ao F F aS F F) ?_);(refine jG (aa 16 4575) 4 F (be F F oM) ?_);(refine jG (aa 16 4607) 5 F (ao F F aS F F) ?_);refine jT 5 [14] (aa 16 20991) ?_;(refine jG (aa 16 21503) 9 F (ao F F aS F F) ?_);(refine jG (aa 16 22527) 10 F (be F F oM) ?_);(refine jG (aa 16 24575) 11 F (ao F F aS F F) ?_);refine jT 0 [13,15] (aa 16 65535) ?_;refine jQ ?_)
   all_goals repeat' (refine jR ?_)
   all_goals refine jZ (vs:=[_,_]) F ⟨F,F,trivial⟩ F ⟨Gh.le.refl _,F,?_⟩
   all_goals (try rw [decide_eq_false hdn])
   all_goals exact .inl ⟨F,_,F⟩
 | recd k b t fs bs a a2 c c2 h0 h1 h2 h3 h4 h5 hk =>
  have hst:=j6 (v:=.nd 82 [] 0 (fs.map aU)) (n:=n) h0.1
  have hTW:=hw.ty _ (bJ h0.1)
  have hso:=h0.2
  have hkk:=cH (cR hki)
  obtain ⟨r,rfl⟩:=ec h0.1
  have hk0 : bt (64 :: r) (Int.toNat 0) = 64:=a6 64 r
  have hkl2 : (64 :: r).length = r.length + 1:=rfl
  have hvl : vs.length ≤ 8:=by have:=hw.len;unfold af at this;simpa using this
  have href:=fU vs (64 :: r)
  have cx_rf:=kx (k:=64 :: r) h oM hkk.1 oM
  rcases hrv : eQ vs (64 :: r) with _ | x
  ·rw [hrv,h0.1] at href;cases href
  rw [hrv] at href cx_rf
  have htx : x.2 = t:=by rw [h0.1] at href;exact Option.some.inj href
  subst htx
  have hxm:=fK hrv
  have hfl:=hTW.len
  have cx_rec:=uR (n:=n) hu (h.fl x hxm) oM cx_rf hso
  cases hg : br x.2.fields n with
  | none =>
   rw [hg] at hst cx_rec
   have hno : bH (af vs) (64 :: r) (.nd 82 [] 0 (fs.map aU)) n = none:=hst
   rw [show (fs.map fun p=>V.nd 61 [] p.1.tag [p.2]) = fs.map aU from rfl,hno]
   refine jB [(0,_),(1,_),(2,_)] Tryz.func58 Tryz.ntmps58 fun B hok hB hW=>?_
   repeat' (first | refine jM ?_ | (refine jo ?_;first | refine jV (ao F F aS F F) ?_ | refine aH F ?_ | refine aw F ?_ | refine jL fun _=>?_ | refine jC F F F ?_ | refine ab F F F cx_rec F ?_) | refine ax F F F ?_ | refine aj F F F ?_ | refine ac F F ?_ | refine ad F F ?_)
   all_goals refine jZ (vs:=[_,_]) F ⟨F,F,trivial⟩ F ⟨Gh.le.refl _,F,?_⟩
   all_goals exact .inl ⟨F,_,F⟩
  | some f =>
   rw [hg] at hst cx_rec
   simp only [Option.getD_some,Option.isSome_some] at cx_rec
   have hfm:=List.mem_of_find?_eq_some hg
   have hft : f.tag = n:=by have:=List.find?_some hg;simpa using this
   have hyes : bH (af vs) (64 :: r) (.nd 82 [] 0 (fs.map aU)) n = some (f.kind,ff (af vs) (.nd 82 [] 0 (fs.map aU)) f):=by
    rw [hst];dsimp only;rw [if_neg oM,if_pos hso]
   rw [show (fs.map fun p=>V.nd 61 [] p.1.tag [p.2]) = fs.map aU from rfl,hyes]
   have hfs9 : fs.length ≤ 100000:=by
    have h7:=dx (fs.map aU)
    rw [cC] at htt
    have e1 : (fs.map aU).length = fs.length:=by simp
    have e2 : (fs.map fun p=>V.nd 61 [] p.1.tag [p.2]) = fs.map aU:=rfl
    rw [e2] at htt
    omega
   have htn : ∀ i,i < fs.length → ae (fs.map fun p : Fld × V=>p.1.tag) i = (ae fs i).1.tag:=fun i hi=>by rw [aP (by simpa using hi),aP hi];simp
   have htl : (fs.map fun p : Fld × V=>p.1.tag).length = fs.length:=by simp
   by_cases hex : ∃ j,j < fs.length ∧ (ae fs j).1.tag = n
   ·obtain ⟨j,hj,hjn,hjf⟩:=xa hex
    have hget : ff (af vs) (.nd 82 [] 0 (fs.map aU)) f = (ae fs j).2:=by
     unfold ff
     rw [V.kids,nW hj (by rw [hjn,hft]) (fun i hi=>by rw [hft];exact hjf i hi)];rfl
    have hkd : (ae fs j).1 = f:=jf hTW (h5 j hj) hfm (by rw [hjn,hft])
    rw [hget]
    have cx_at:=ack (tg:=fs.map fun p : Fld × V=>p.1.tag) (n:=n) (by rw [h4,htl]) oM (by rw [htl];exact h1) (by rw [htl];exact h2) (by rw [htl];exact h3) (by rw [htl];exact hj) (by rw [htn j hj];exact hjn) (fun i hi=>by rw [htn i oM];exact hjf i hi)
    have hrj:=hk j hj
    rw [hkd] at hrj
    refine jB [(0,_),(1,_),(2,_)] Tryz.func58 Tryz.ntmps58 fun B hok hB hW=>?_
    repeat' (first | refine jM ?_ | (refine jo ?_;first | refine jV (ao F F aS F F) ?_ | refine aH F ?_ | refine aw F ?_ | refine jL fun _=>?_ | refine jC F F F ?_ | refine ab F F F cx_rec F ?_ | refine ab F F F cx_at F ?_) | refine ax F F F ?_ | refine aj F F F ?_ | refine ac F F ?_ | refine ad F F ?_)
    all_goals refine jZ (vs:=[_,_]) F ⟨F,F,trivial⟩ F ⟨Gh.le.refl _,F,?_⟩
    all_goals exact .inr ⟨_,_,ae bs j,F,F,hrj⟩
   ·have hjno : ∀ i,i < fs.length → (ae fs i).1.tag ≠ n:=fun i hi e=>hex ⟨i,hi,e⟩
    have hget : ff (af vs) (.nd 82 [] 0 (fs.map aU)) f = fp (af vs) f:=by
     unfold ff
     rw [V.kids,nU fun i hi=>by rw [hft];exact hjno i hi];rfl
    rw [hget]
    obtain ⟨g1,g2,g3⟩:=gI hw (bJ h0.1) oM hfm
    obtain ⟨g4,g5⟩:=nR g2
    have hdk : aE (af vs) f.kind = true:=dK hw (bJ h0.1) oM hfm
    have cx_at:=acl (tg:=fs.map fun p : Fld × V=>p.1.tag) (n:=n) oM (by rw [htl];exact h1) (by rw [htl];exact h2) (fun i hi=>by rw [htn i oM];exact hjno i oM)
    have cx_sta:=oD (f:=f) h hw hdk
    have cx_rd:=mq (u:=.slice ua vs.length uc) (vs:=vs) hw 12 oM G f.kind (bI (af vs) f) h hdk oM
    rw [g4] at cx_rd
    refine jB [(0,_),(1,_),(2,_)] Tryz.func58 Tryz.ntmps58 fun B hok hB hW=>?_
    repeat' (first | refine jM ?_ | (refine jo ?_;first | refine jV (ao F F aS F F) ?_ | refine aH F ?_ | refine aw F ?_ | refine jL fun _=>?_ | refine jC F F F ?_ | refine ab F F F cx_rec F ?_ | refine ab F F F cx_at F ?_) | refine ax F F F ?_ | refine aj F F F ?_ | refine ac F F ?_ | refine ad F F ?_)
    (refine ai (am (id:=14) _ (fun _ h=>h) ah ?_);refine jT 12 [0,2,5] (aa 15 37) ?_;(refine jG (aa 15 39) 1 F (an F F) ?_);(refine jG (aa 15 47) 3 F (bo F F F F) ?_);(refine jG (aa 15 111) 6 F (aD F F F) ?_);refine jA 4 F ?_;(refine ab F F F cx_sta F ?_);refine jS (aa 15 127) ?_;refine jA 7 F ?_;(refine aK F F F cx_rd F ?_;rintro _ G hle ⟨q1,r1,ok1,rfl,hyes,hno⟩;skip);refine jS (aa 15 255) ?_;refine jT 0 [8,9,10,11,12,13,14] (aa 15 32767) ?_;refine jQ ?_)
    all_goals
     cases ok1 with
     | false=>cases hno rfl
     | true =>
      obtain ⟨w,wb,rfl,hf,hrep⟩:=hyes rfl
      simp only [Option.some.injEq,Prod.mk.injEq] at hf
      obtain ⟨rfl,rfl⟩:=hf
      repeat' (first | refine jR ?_ | (refine jo ?_;refine aH F ?_) | refine ax F F F ?_)
      all_goals refine jZ (vs:=[_,_]) F ⟨F,F,trivial⟩ F ⟨hle,F,?_⟩
      all_goals exact .inr ⟨_,_,wb,F,F,hrep⟩
theorem um {ts : List Ty} (hw : SchW ts) {t : Ty} (ht : t ∈ ts) (hs : t.sort ≠ 69) {d : Fld} (hd : d ∈ t.fields) : (fp ts d).tot ≤ 40000:=by
 obtain ⟨g4,g5⟩:=nR (gI hw ht hs hd).2.1
 have:=iB _ _ _ _ g4
 dsimp only at this
 simp only [List.length_nil] at this
 omega
theorem mf {ts : List Ty} (hw : SchW ts) {k : ac1} {v : V} (h : OfK ts k v) (hk : aE ts k = true) {n : Int} (hn : 0 ≤ n) {k' : ac1} {v' : V} (e : bH ts k v n = some (k',v')) {N : Nat} (hv : v.tot ≤ N) (hN : 40000 ≤ N) : v'.tot ≤ N:=by
 obtain ⟨c,r,rfl⟩:=gK hk
 unfold bH at e
 dsimp only at e
 split at e
 ·rename_i hc
  split at e
  ·rename_i hlt
   simp only [Option.some.injEq,Prod.mk.injEq] at e
   obtain ⟨rfl,rfl⟩:=e
   have h1:=fT (ks:=v.kids) (i:=n.toNat) oM
   obtain ⟨w,x,t,ks⟩:=v
   rw [cC] at hv
   rw [V.kids] at h1 ⊢
   omega
  ·cases e
 ·split at e
  ·cases e
  ·rename_i t hr
   have ht:=bJ hr
   split at e
   ·cases e
   ·rename_i f hf
    have hfm:=List.mem_of_find?_eq_some hf
    split at e
    ·cases e
    ·rename_i h69
     split at e
     ·rename_i h82
      simp only [Option.some.injEq,Prod.mk.injEq] at e
      obtain ⟨rfl,rfl⟩:=e
      rcases dH h hr with ⟨_,fs,rfl,g3,g4,_,_⟩ | ⟨h1,_⟩ | ⟨h1,_⟩
      ·unfold ff
       rw [V.kids]
       cases hto : cV f (fs.map aU) with
       | none =>
        have:=um hw ht h69 hfm
        show (fp ts f).tot ≤ N
        omega
       | some u =>
        obtain ⟨_,p,hp,_,rfl⟩:=k9 (hw.ty t ht) hfm (fun p hp=>⟨g3 p hp,g4 p hp⟩) hto
        have h2:=nT (List.mem_map_of_mem (f:=aU) hp)
        rw [cC] at hv
        simp only [aU,cC,V.tots] at h2
        show p.2.tot ≤ N
        omega
      ·omega
      ·omega
     ·rename_i h82
      split at e
      ·simp only [Option.some.injEq,Prod.mk.injEq] at e
       obtain ⟨rfl,rfl⟩:=e
       rcases dH h hr with ⟨h1,_⟩ | ⟨h1,_⟩ | ⟨_,_,d,u,rfl,g4,g5⟩
       ·omega
       ·omega
       ·simp only [cC,V.tots] at hv
        show u.tot ≤ N
        omega
      ·cases e
theorem kK {ts : List Ty} (hw : SchW ts) : ∀ {p : List Int} {k : ac1} {v : V} {k' : ac1} {v' : V},OfK ts k v → aE ts k = true → (∀ n ∈ p,0 ≤ n) → bC ts k v p = some (k',v') → ∀ {N : Nat},v.tot ≤ N → 40000 ≤ N → v'.tot ≤ N
 | [],k,v,k',v',h,hk,_,e,N,hv,hN=>by
  simp only [bC,Option.some.injEq,Prod.mk.injEq] at e
  obtain ⟨rfl,rfl⟩:=e
  exact hv
 | n :: p,k,v,k',v',h,hk,hp,e,N,hv,hN=>by
  unfold bC at e
  cases hs : bH ts k v n with
  | none=>rw [hs] at e;cases e
  | some x =>
   rw [hs] at e
   obtain ⟨k1,v1⟩:=x
   obtain ⟨h1,h2⟩:=gu hw h hk (hp n (by simp)) hs
   exact kK hw h1 h2 (fun m hm=>hp m (by simp [hm])) e (mf hw h hk (hp n (by simp)) hs hv hN) hN
theorem mL {ts : List Ty} {p : List Int} {i : Nat} (hi : i < p.length) {k : ac1} {v : V} : bC ts k v (p.drop i) = match bH ts k v (ae p i) with
  | none=>none
  | some (k',v')=>bC ts k' v' (p.drop (i + 1)):=by
 rw [List.drop_eq_getElem_cons hi,aP hi,bC]
 all_goals (cases bH ts k v p[i] <;> rfl)
theorem yY {u : Value} {vs : List bZ} (h : SchR G u vs) (hw : SchW (af vs)) {p : List Int} {pv : Value} (hp : bR G pv 1 p.length (aI eh p)) (hpn : ∀ n ∈ p,0 ≤ n ∧ n ≤ 999999) (hpl : p.length ≤ 1000) {k : ac1} {v : V} {b : Nat} (hr : RepR G (af vs) v k b) (ho : OfK (af vs) k v) (hki : aE (af vs) k = true) (htt : v.tot ≤ 1000000) :
  bi ac0 21 [u,Pt b 0,pv] G (ix (af vs) (bC (af vs) k v p)):=by
 have hu:=h.sl.one
 obtain ⟨pa,pc,rfl⟩:=hp.sl
 refine jB [(0,_),(1,_),(2,_)] Tryz.func21 Tryz.ntmps21 fun B hok hB hW=>?_
 repeat' (refine jR ?_)
 refine aR (ι:=ac1 × V × Nat × Nat × Gh) (fun j=>((RepR j.2.2.2.2 (af vs) j.2.1 j.1 j.2.2.1 ∧ OfK (af vs) j.1 j.2.1) ∧ (aE (af vs) j.1 = true ∧ j.2.1.tot ≤ 1000000)) ∧ (Gh.le G j.2.2.2.2 ∧ j.2.2.2.1 ≤ p.length) ∧ bC (af vs) k v p = bC (af vs) j.1 j.2.1 (p.drop j.2.2.2.1)) (fun j=>[(0,u),(1,Pt j.2.2.1 0),(2,.slice pa p.length pc),(8,I j.2.2.2.1)]) (fun j=>j.2.2.2.2) (fun j=>[]) (fun j=>p.length - j.2.2.2.1) (k,v,b,0,G) ?_ tU F aW (fun j Hj=>?_)
 ·exact ⟨⟨⟨hr,ho⟩,hki,htt⟩,⟨Gh.le.refl _,Nat.zero_le _⟩,F⟩
 obtain ⟨k0,v0,b0,i,Gq⟩:=j
 dsimp only at Hj ⊢
 obtain ⟨⟨⟨hr0,ho0⟩,hk0,ht0⟩,⟨hgq,hi0⟩,he⟩:=Hj
 by_cases hi : i < p.length
 ·obtain ⟨xb,xo,xc,e,hs1⟩:=(hp.mono hgq).expl oM
  simp only [Value.slice.injEq] at e
  obtain ⟨rfl,-,rfl⟩:=e
  have hni:=hpn _ (bB hi)
  have hti : ae p i = ae p i:=rfl
  have hstp:=zd (h.mono hgq) hw hr0 ho0 hk0 hni ht0
  rw [mL hi] at he
  cases hsv : bH (af vs) k0 v0 (ae p i) with
  | none =>
   have cx_stn:=ix.no hstp hsv
   rw [hsv] at he
   repeat' (first | refine jR ?_ | (refine jo ?_;first | refine jV (al F) ?_ | refine jV (ay F F oM) ?_ | (refine jV (dp F F aS ?_ aS F) ?_;focus omega) | (refine aK F F F cx_stn F ?_;rintro _ G hle ⟨q1,rfl⟩;skip)) | (refine ac F (by first | rfl | (refine decide_eq_true ?_;(omega))) ?_))
   all_goals refine jZ (vs:=[_,_]) F ⟨F,F,trivial⟩ F ⟨hgq.trans hle,F,?_⟩
   all_goals exact .inl ⟨he,_,F⟩
  | some y =>
   obtain ⟨k1,v1⟩:=y
   have cx_sty:=ix.yes hstp hsv
   rw [hsv] at he
   obtain ⟨g1,g2⟩:=gu hw ho0 hk0 hni.1 hsv
   have g3:=mf hw ho0 hk0 hni.1 hsv ht0 oM
   repeat' (first | refine jM ?_ | (refine jo ?_;first | refine jV (al F) ?_ | refine jV (ay F F oM) ?_ | (refine jV (dp F F aS ?_ aS F) ?_;focus omega) | (refine aK F F F cx_sty F ?_;rintro _ G hle ⟨b1,rfl,hrep1⟩;skip)) | refine ac F (ar oM) ?_ | refine ad F F ?_)
   exact aX (k1,v1,b1,i + 1,G) ⟨⟨⟨hrep1,g1⟩,g2,g3⟩,⟨hgq.trans hle,by dsimp only;omega⟩,he⟩ (by dsimp only;omega) tU rfl aW
 ·have hd : p.drop i = []:=List.drop_eq_nil_of_le oM
  rw [hd] at he
  repeat' (first | refine jR ?_ | (refine jo ?_;refine jV (al F) ?_) | refine ad F (aA oM) ?_)
  all_goals refine jZ (vs:=[_,_]) F ⟨F,F,trivial⟩ F ⟨hgq,F,?_⟩
  all_goals exact .inr ⟨_,_,b0,he,F,hr0⟩
theorem rx {s : ac1} (h : s.length ≤ 1048576) (hp : cJ s = none) : ∀ G,bi ac0 19 [S s] G (fun v _=>∃ a c n,v = Tu [.slice a n c,Bo false] ∧ True):=fun G=>by
 refine (sq (G:=G) h).mono ?_
 rintro v G' L' ⟨h1,h2,a,c,n,rfl,_⟩
 exact ⟨h1,h2,a,c,n,by rw [hp];rfl,trivial⟩
theorem qx {s : ac1} {p : List Int} (h : s.length ≤ 1048576) (hp : cJ s = some p) : ∀ G,bi ac0 19 [S s] G (fun v G'=>∃ a c n,v = Tu [.slice a n c,Bo true] ∧ n = p.length ∧ bR G' (.slice a n c) 1 p.length (aI eh p)):=fun G=>by
 refine (sq (G:=G) h).mono ?_
 rintro v G' L' ⟨h1,h2,a,c,n,rfl,h3⟩
 exact ⟨h1,h2,a,c,n,by rw [hp];rfl,h3 p hp⟩
theorem iC {s : ac1} {p : List Int} (h : cJ s = some p) : p.length ≤ 8 ∧ ∀ n ∈ p,0 ≤ n ∧ n ≤ 999999:=by
 unfold cJ at h
 split at h
 ·simp only [Option.some.injEq] at h;subst h;simp
 ·split at h
  ·rename_i q hq
   split at h
   ·rename_i h8
    simp only [Option.some.injEq] at h;subst h
    exact ⟨h8,(kC hq).2⟩
   ·cases h
  ·cases h
def fe (s k w p : ac1) : Option (ac1 × ac1):=match aO s,dT s k w,cJ p with
 | some ts,some u,some q=>(bC ts k u q).map fun x=>(x.1,x.2.out)
 | _,_,_=>none
theorem wO {s k : ac1} {o : Option (List Int)} : (match aO s,(none : Option V),o with
 | some ts,some u,some q=>(bC ts k u q).map fun x=>(x.1,x.2.out)
 | _,_,_=>none) = none:=by cases aO s <;> rfl
def pgR (o : Option (ac1 × ac1)) : Value:=Tu [S ((o.map (·.1)).getD []),S ((o.map (·.2)).getD []),Bo o.isSome]
theorem yr {ts : List Ty} (hw : SchW ts) {k : ac1} {u v : V} (hu : OfK ts k u) (hv : OfK ts k v) (h : u.out = v.out) : u = v:=by
 have h1:=li hw (max u.deep v.deep) hu (Nat.le_max_left _ _) [] kW
 have h2:=li hw (max u.deep v.deep) hv (Nat.le_max_right _ _) [] kW
 rw [h,h2] at h1
 simp only [Option.some.injEq,Prod.mk.injEq,and_true] at h1
 exact h1.symm
theorem mc {w : Nat} {x : ac1} {t : Int} {ks : List V} : V.tag (.nd w x t ks) = t:=rfl
def nf (ts : List Ty) (f : Fld) (x : V) : List V:=if x.out = bI ts f then [] else [.nd 61 [] f.tag [x]]
theorem gx {ts : List Ty} {f : Fld} {x : V} : fz ts f x [] = nf ts f x:=rfl
theorem eB {ts : List Ty} {f : Fld} {x y : V} {r : List V} : fz ts f x (y :: r) = if y.tag < f.tag then y :: fz ts f x r else nf ts f x ++ (if y.tag = f.tag then r else y :: r):=rfl
theorem yp {ts : List Ty} {f : Fld} {x : V} : ∀ {vs : List V},(∀ v ∈ vs,f.tag < v.tag) → fz ts f x vs = nf ts f x ++ vs
 | [],_=>by rw [gx,List.append_nil]
 | v :: vs,h=>by
  have:=h v (by simp)
  rw [eB,if_neg oM,if_neg oM]
theorem nV {f : Fld} : ∀ {vs : List V},(∀ v ∈ vs,f.tag < v.tag) → cV f vs = none
 | [],_=>rfl
 | v :: vs,h=>by
  have:=h v (by simp)
  rw [cV,if_neg oM]
  exact nV fun u hu=>h u (by simp [hu])
theorem rt {ts : List Ty} {f : Fld} {x : V} {vs : List V} (h : ∀ v ∈ vs,f.tag < v.tag) : cV f (nf ts f x ++ vs) = if x.out = bI ts f then none else some x:=by
 unfold nf
 split
 ·exact nV h
 ·rw [List.singleton_append,cV,mc,if_pos rfl];rfl
abbrev yb (vs : List V) : Prop:=vs.Pairwise fun a b=>a.tag < b.tag
theorem qu {ts : List Ty} {f : Fld} {x : V} : ∀ {vs : List V},yb vs → cV f (fz ts f x vs) = if x.out = bI ts f then none else some x
 | [],_=>by
  rw [gx]
  have:=rt (ts:=ts) (f:=f) (x:=x) (vs:=[]) (by simp)
  rwa [List.append_nil] at this
 | v :: vs,h=>by
  replace h:=List.pairwise_cons.1 h
  rw [eB]
  split
  ·rw [cV,if_neg oM]
   exact qu h.2
  ·refine rt fun u hu=>?_
   split at hu
   ·have:=h.1 u hu;omega
   ·rcases List.mem_cons.1 hu with rfl | hu
    ·omega
    ·have:=h.1 u hu;omega
theorem rI {ts : List Ty} {f : Fld} {x y : V} : ∀ {vs : List V},yb vs → fz ts f y (fz ts f x vs) = fz ts f y vs
 | [],_=>by
  rw [gx,gx]
  unfold nf
  split
  ·exact gx
  ·rw [eB,mc,if_neg oM,if_pos rfl,List.append_nil];rfl
 | v :: vs,h=>by
  replace h:=List.pairwise_cons.1 h
  rw [eB,eB (x:=y)]
  split
  ·rename_i hl
   rw [eB,if_pos hl,rI h.2]
  ·rename_i hl
   have hB : ∀ u ∈ (if v.tag = f.tag then vs else v :: vs),f.tag < u.tag:=fun u hu=>by
    split at hu
    ·have:=h.1 u hu;omega
    ·rcases List.mem_cons.1 hu with rfl | hu
     ·omega
     ·have:=h.1 u hu;omega
   generalize (if v.tag = f.tag then vs else v :: vs) = ws at hB
   rw [show nf ts f x = if x.out = bI ts f then [] else [.nd 61 [] f.tag [x]] from rfl]
   split
   ·exact yp hB
   ·rw [List.singleton_append,eB,mc,if_neg oM,if_pos rfl]
theorem qE {ts : List Ty} {t : Ty} (hw : TyW t) {f : Fld} (hf : f ∈ t.fields) {z : V} (hz : z.out = bI ts f) : ∀ {fs : List (Fld × V)},(∀ p ∈ fs,p.1 ∈ t.fields ∧ p.2.out ≠ bI ts p.1) → yb (fs.map aU) → fz ts f ((cV f (fs.map aU)).getD z) (fs.map aU) = fs.map aU
 | [],_,_=>by
  rw [List.map_nil,gx]
  show nf ts f z = []
  unfold nf;rw [if_pos hz]
 | q :: fs,hp,h=>by
  replace h:=List.pairwise_cons.1 h
  have hq:=hp q (by simp)
  rw [List.map_cons,eB,cV]
  by_cases hl : (aU q).tag < f.tag
  ·rw [if_pos hl,if_neg oM,qE hw hf hz (fun p hp'=>hp p (by simp [hp'])) h.2]
  ·rw [if_neg hl]
   by_cases he : (aU q).tag = f.tag
   ·rw [if_pos he,if_pos he]
    have h1 : q.1 = f:=jf hw hq.1 hf he
    have h2 : ((some (ae (aU q).kids 0)).getD z) = q.2:=rfl
    rw [h2]
    unfold nf
    rw [if_neg (by rw [← h1];exact hq.2),List.singleton_append,← h1]
   ·rw [if_neg he,if_neg he,nV fun v hv=>by have:=h.1 v hv;omega]
    show nf ts f z ++ _ = _
    unfold nf;rw [if_pos hz,List.nil_append]
theorem ru {ts : List Ty} {f g : Fld} (hg : g.tag ≠ f.tag) {x : V} : ∀ {vs : List V},cV g (fz ts f x vs) = cV g vs
 | []=>by
  rw [gx];unfold nf
  split
  ·rfl
  ·show (if V.tag (.nd 61 [] f.tag [x]) = g.tag then some (ae (V.kids (.nd 61 [] f.tag [x])) 0) else none) = none
   rw [mc,if_neg oM]
 | v :: vs=>by
  rw [eB]
  split
  ·rw [cV,cV,ru hg]
  ·have h1 : ∀ ws : List V,cV g (nf ts f x ++ ws) = cV g ws:=fun ws=>by
    unfold nf
    split
    ·rfl
    ·rw [List.singleton_append,cV,mc,if_neg oM]
   rw [h1]
   split
   ·rename_i he
    rw [cV,if_neg oM]
   ·rfl
def gh (ts : List Ty) (k : ac1) (v : V) (n : Int) (y : V) : V:=if v.what = 82 then (match aT ts k with
  | some t=>(match br t.fields n with
   | some f=>.nd 82 [] 0 (fz ts f y v.kids)
   | none=>v)
  | none=>v)
 else .nd v.what [] v.tag (if v.what = 91 then v.kids.set n.toNat y else [y])
theorem g9 {ts : List Ty} {k k1 : ac1} {v v1 x : V} {n : Int} {p : List Int} (h : bH ts k v n = some (k1,v1)) : db ts k v (n :: p) x = gh ts k v n (db ts k1 v1 p x):=by
 rw [db,h];rfl
theorem r5 {ts : List Ty} {k k1 : ac1} {v v1 : V} {n : Int} {p : List Int} (h : bH ts k v n = some (k1,v1)) : bC ts k v (n :: p) = bC ts k1 v1 p:=by
 rw [bC,h]
theorem zV {fs : List (Fld × V)} (h : fs.Pairwise fun a b=>a.1.tag < b.1.tag) : yb (fs.map aU):=List.pairwise_map.2 h
theorem wE {ts : List Ty} (hw : SchW ts) {k : ac1} {v : V} (h : OfK ts k v) (hk : aE ts k = true) {n : Int} (hn : 0 ≤ n) {k1 : ac1} {v1 : V} (hs : bH ts k v n = some (k1,v1)) {y : V} (hy : OfK ts k1 y) :
  (bH ts k (gh ts k v n y) n = some (k1,y) ∧ gh ts k v n v1 = v) ∧ (∀ z,gh ts k (gh ts k v n y) n z = gh ts k v n z) ∧ ∀ m,0 ≤ m → m ≠ n → bH ts k (gh ts k v n y) m = bH ts k v m:=by
 obtain ⟨c,r,rfl⟩:=gK hk
 have hs0:=hs
 unfold bH at hs
 dsimp only at hs
 split at hs
 ·rename_i hc
  split at hs
  ·rename_i hlt
   simp only [Option.some.injEq,Prod.mk.injEq] at hs
   obtain ⟨rfl,rfl⟩:=hs
   rcases iD h oM with ⟨g1,_⟩ | ⟨g1,_⟩ | ⟨g1,_⟩ | ⟨g1,ks,g2,g3,rfl⟩ | ⟨g1,rfl | ⟨u,g3,rfl⟩⟩
   ·omega
   ·omega
   ·omega
   ·rw [V.kids] at hlt ⊢
    have hi : n.toNat < ks.length:=oM
    have e : ∀ z,gh ts (c :: r) (.nd 91 [] 0 ks) n z = .nd 91 [] 0 (ks.set n.toNat z):=fun z=>by
     unfold gh;rw [V.what,if_neg dC,if_pos rfl];rfl
    refine ⟨⟨?_,?_⟩,fun z=>?_,fun m hm hne=>?_⟩
    ·rw [e]
     unfold bH
     dsimp only
     rw [if_pos hc,V.kids,if_pos (by rw [List.length_set];exact hlt),aP (by rw [List.length_set];exact hi),List.getElem_set_self]
    ·rw [e,aP hi,List.set_getElem_self]
    ·rw [e,e]
     unfold gh;rw [V.what,if_neg dC,if_pos rfl,V.kids,List.set_set];rfl
    ·rw [e]
     unfold bH
     dsimp only
     rw [if_pos hc,if_pos hc,V.kids,V.kids,List.length_set]
     split
     ·rename_i hm2
      rw [aP (by rw [List.length_set];omega),aP oM,List.getElem_set_ne oM]
     ·rfl
   ·simp [V.kids] at hlt;omega
   ·simp [V.kids] at hlt
    obtain rfl : n = 0:=oM
    have e : ∀ w z,gh ts (c :: r) (.nd 63 [] 0 [w]) 0 z = .nd 63 [] 0 [z]:=fun w z=>by
     unfold gh;rw [V.what,if_neg dC,if_neg dC];rfl
    refine ⟨⟨?_,?_⟩,fun z=>?_,fun m hm hne=>?_⟩
    ·rw [e]
     unfold bH
     dsimp only
     rw [if_pos hc,V.kids,if_pos (by simp)];rfl
    ·rw [e];rfl
    ·rw [e,e,e]
    ·rw [e]
     unfold bH
     dsimp only
     rw [if_pos hc,if_pos hc,V.kids,V.kids,if_neg (by simp;omega),if_neg (by simp;omega)]
  ·cases hs
 ·rename_i hc
  split at hs
  ·cases hs
  ·rename_i t hr
   have ht:=bJ hr
   split at hs
   ·cases hs
   ·rename_i f hf
    have hfm:=List.mem_of_find?_eq_some hf
    have hft : f.tag = n:=by have:=List.find?_some hf;simpa using this
    split at hs
    ·cases hs
    ·rename_i h69
     split at hs
     ·rename_i h82
      simp only [Option.some.injEq,Prod.mk.injEq] at hs
      obtain ⟨rfl,rfl⟩:=hs
      rcases dH h hr with ⟨_,fs,rfl,g3,g4,g5,g6⟩ | ⟨g1,_⟩ | ⟨g1,_⟩
      ·have e : ∀ vs z,gh ts (c :: r) (.nd 82 [] 0 vs) n z = .nd 82 [] 0 (fz ts f z vs):=fun vs z=>by
        unfold gh;rw [V.what,if_pos rfl,hr]
        dsimp only
        rw [hf];rfl
       have hst:=gI hw ht oM hfm
       have hsrt:=zV g6
       refine ⟨⟨?_,?_⟩,fun z=>?_,fun m hm hne=>?_⟩
       ·rw [e]
        unfold bH
        dsimp only
        rw [if_neg hc,hr]
        dsimp only
        rw [hf]
        dsimp only
        rw [if_neg h69,if_pos h82]
        unfold ff
        rw [V.kids,qu hsrt]
        split
        ·rename_i hso
         show some (f.kind,fp ts f) = _
         rw [yr hw hst.1 hy (by rw [hst.2.2,hso])]
        ·rfl
       ·rw [e]
        unfold ff
        rw [V.kids,qE (hw.ty t ht) hfm hst.2.2 (fun p hp=>⟨g3 p hp,g5 p hp⟩) hsrt]
       ·rw [e,e,e,rI hsrt]
       ·rw [e]
        unfold bH
        dsimp only
        rw [if_neg hc,if_neg hc,hr]
        dsimp only
        cases hg : br t.fields m with
        | none=>rfl
        | some g =>
         have hgt : g.tag = m:=by have:=List.find?_some hg;simpa using this
         dsimp only
         rw [if_neg h69,if_neg h69,if_pos h82,if_pos h82]
         unfold ff
         rw [V.kids,V.kids,ru oM]
      ·omega
      ·omega
     ·rename_i h82
      split at hs
      ·rename_i htg
       simp only [Option.some.injEq,Prod.mk.injEq] at hs
       obtain ⟨rfl,rfl⟩:=hs
       rcases dH h hr with ⟨g1,_⟩ | ⟨g1,_⟩ | ⟨_,_,d,u,rfl,g4,g5⟩
       ·omega
       ·omega
       ·have e : ∀ w z,gh ts (c :: r) (.nd 85 [] d.tag [w]) n z = .nd 85 [] d.tag [z]:=fun w z=>by
         unfold gh;rw [V.what,if_neg dC,if_neg dC];rfl
        have htg2 : d.tag = n:=htg
        refine ⟨⟨?_,?_⟩,fun z=>?_,fun m hm hne=>?_⟩
        ·rw [e]
         unfold bH
         dsimp only
         rw [if_neg hc,hr]
         dsimp only
         rw [hf]
         dsimp only
         rw [if_neg h69,if_neg h82,V.tag,if_pos htg2];rfl
        ·rw [e];rfl
        ·rw [e,e,e]
        ·rw [e]
         unfold bH
         dsimp only
         rw [if_neg hc,if_neg hc,hr]
         dsimp only
         cases hg : br t.fields m with
         | none=>rfl
         | some g =>
          dsimp only
          rw [if_neg h69,if_neg h69,if_neg h82,if_neg h82,V.tag,V.tag,if_neg oM,if_neg oM]
      ·cases hs
theorem l7 {ts : List Ty} (hw : SchW ts) : ∀ {p : List Int} {k : ac1} {v x y : V} {k' : ac1} {v' : V},OfK ts k v → aE ts k = true → (∀ n ∈ p,0 ≤ n) → bC ts k v p = some (k',v') → OfK ts k' x →
  bC ts k (db ts k v p x) p = some (k',x) ∧ db ts k v p v' = v ∧ db ts k (db ts k v p x) p y = db ts k v p y
 | [],k,v,x,y,k',v',h,hk,_,e,hx=>by
  simp only [bC,Option.some.injEq,Prod.mk.injEq] at e
  obtain ⟨rfl,rfl⟩:=e
  exact ⟨F,F,F⟩
 | n :: p,k,v,x,y,k',v',h,hk,hp,e,hx=>by
  unfold bC at e
  cases hs : bH ts k v n with
  | none=>rw [hs] at e;cases e
  | some q =>
   rw [hs] at e
   obtain ⟨k1,v1⟩:=q
   have hn:=hp n (by simp)
   obtain ⟨h1,h2⟩:=gu hw h hk hn hs
   have hp2 : ∀ m ∈ p,0 ≤ m:=fun m hm=>hp m (by simp [hm])
   obtain ⟨i1,i2,i3⟩:=l7 hw (y:=y) h1 h2 hp2 e hx
   have hc:=pC hw h1 h2 hp2 e hx
   obtain ⟨⟨s1,s2⟩,s3,_⟩:=wE hw h hk hn hs hc
   rw [g9 hs,g9 hs,g9 hs]
   refine ⟨?_,?_,?_⟩
   ·rw [r5 s1];exact i1
   ·rw [i2,s2]
   ·rw [g9 s1,i3,s3]
theorem sx {u : Value} {vs : List bZ} (hw : SchW (af vs)) (h : SchR G u vs) {k s : ac1} (hki : aE (af vs) k = true) :
  bi ac0 53 [u,S k,S s] G (fun r _=>r = Tu [S (if (bV (af vs) k s).isSome = true then s else []),Bo (bV (af vs) k s).isSome]):=by
 obtain ⟨ua,uc,rfl⟩:=h.sl.sl
 by_cases hl : s.length ≤ 400
 ·have cx_rd:=mq (u:=.slice ua vs.length uc) (vs:=vs) hw 12 oM G k s h hki oM
  have hvo : bV (af vs) k s = match rd (af vs) 12 k s with
   | some (v,[])=>some v
   | _=>none:=by
   unfold bV;rw [if_pos hl]
   all_goals (rcases rd (af vs) 12 k s with _ | ⟨v,_ | _⟩ <;> rfl)
  refine jB [(0,_),(1,_),(2,_)] Tryz.func53 Tryz.ntmps53 fun B hok hB hW=>?_
  repeat' (first | refine jR ?_ | (refine jo ?_;first | refine jV (an F F) ?_ | refine aH F ?_ | refine aw F ?_ | (refine aK F F F cx_rd F ?_;rintro _ G hle ⟨q1,r1,ok1,rfl,hyes,hno⟩;skip)) | refine mG F F (fun _=>?_) (fun _=>?_) | refine ac F F ?_ | refine ad F (aA oM) ?_ | refine er F (fun _=>?_) (fun _=>?_))
  all_goals refine jZ (vs:=[_,_]) F ⟨F,F,trivial⟩ F ⟨hle,F,?_⟩
  ·rename_i hz
   rw [hno (by simpa using hz)] at hvo
   rw [hvo];rfl
  ·rename_i hz hr
   obtain ⟨w,b,rfl,hf,hrep⟩:=hyes (by simpa using hz)
   rw [hf] at hvo
   have hvo2 : bV (af vs) k s = none:=by
    rw [hvo]
    cases r1 with
    | nil=>exact absurd F hr
    | cons c r=>rfl
   rw [hvo2];rfl
  ·rename_i hz hr
   obtain ⟨w,b,rfl,hf,hrep⟩:=hyes (by simpa using hz)
   obtain rfl : r1 = []:=by simpa using hr
   rw [hf] at hvo
   rw [hvo];rfl
 ·have hvo : bV (af vs) k s = none:=by unfold bV;rw [if_neg hl]
  rw [hvo]
  refine jB [(0,_),(1,_),(2,_)] Tryz.func53 Tryz.ntmps53 fun B hok hB hW=>?_
  repeat' (first | refine jR ?_ | refine ac F (ar oM) ?_)
  all_goals refine jZ (vs:=[_,_]) F ⟨F,F,trivial⟩ F ⟨Gh.le.refl _,F,?_⟩
  all_goals rfl
def n6 (s k w p x : ac1) : Option ac1:=match aO s,dT s k w,cJ p with
 | some ts,some u,some q=>match bC ts k u q with
  | none=>none
  | some (k',_)=>match rd ts 12 k' x with
   | some (y,[])=>if (db ts k u q y).out.length ≤ 400 ∧ (db ts k u q y).deep ≤ 12 then some (db ts k u q y).out else none
   | _=>none
 | _,_,_=>none
def hY (o : Option ac1) : Value:=Tu [S (o.getD []),Bo o.isSome]
theorem abd {n : Nat} {u : Value} {ts : List Ty} {k s : ac1} {c e : UInt8} (hc : c = 64) (hu : u.oneCell' = true)
  (cx_typ : bi ac0 109 [Ag [u],S (e :: s),S (c :: k),I (n + 1 : Nat)] G (cq ts (rb ts (n + 1) (c :: k) (e :: s)) (c :: k))) (hs : s.length ≤ 999) (hkl : k.length ≤ 1000) (hn : n ≤ 999) :
  bi ac0 83 [Ag [u],S (e :: s),S (c :: k),I (n + 1 : Nat)] G (cq ts (rb ts (n + 1) (c :: k) (e :: s)) (c :: k)):=by
 have hel : (e :: s).length = s.length + 1:=rfl
 have hkl2 : (c :: k).length = k.length + 1:=rfl
 subst hc
 have hk0 : bt (64 :: k) (Int.toNat 0) = 64:=a6 64 k
 refine jB [(0,_),(1,_),(2,_),(3,_)] Tryz.func83 Tryz.ntmps83 fun B hok hB hW=>?_
 repeat' (first | refine jM ?_ | (refine jo ?_;first | refine jO fun _=>?_ | refine aw F ?_ | refine aN F ?_ | (refine aK F F F cx_typ F ?_;rintro _ G hle ⟨q1,r1,ok1,rfl,hyes,hno⟩;skip)) | refine aj F F F ?_ | refine ad F F ?_)
 all_goals refine jZ (vs:=[_,_,_]) F ⟨F,F,F,trivial⟩ F ⟨hle,F,?_⟩
 all_goals (rw [aF];exact ⟨_,_,_,F,hyes,hno⟩)
theorem lE {u : Value} {vs : List bZ} (hw : SchW (af vs)) : ∀ n,n ≤ 1000 → l3 n u vs
 | 0,_=>fun G k s _ _ _=>wc (.inr rfl) oM
 | n + 1,hn=>fun G k s h hk hs=>by
  have hR:=lE (u:=u) (vs:=vs) hw n oM
  have hkk:=cH (cR hk)
  have hvl : vs.length ≤ 8:=by have:=hw.len;unfold af at this;simpa using this
  match s,hs with
  | [],_=>exact wc (.inl F) hn
  | e :: s,hs =>
   have hs1:=hs
   simp only [List.length_cons] at hs
   match k,hk,hkk with
   | [],hk,_=>cases hk
   | c :: k,hk,hkk =>
    have hkl:=hkk.2
    simp only [List.length_cons] at hkl
    by_cases h1 : c.toNat = 91
    ·obtain rfl : c = 91:=bn h1 dC
     exact aa9 hR h hk oM oM oM
    by_cases h2 : c.toNat = 63
    ·obtain rfl : c = 63:=bn h2 dC
     exact aa7 hR h hk oM oM
    have h91 : ¬ (c.toNat = 91 ∨ c.toNat = 63):=fun h=>by rcases h with h | h <;> omega
    cases hr : aT (af vs) (c :: k) with
    | some t =>
     obtain ⟨r,e1⟩:=ec hr
     simp only [List.cons.injEq] at e1
     obtain ⟨rfl,rfl⟩:=e1
     have href:=fU vs (64 :: k)
     rcases hrv : eQ vs (64 :: k) with _ | x
     ·rw [hrv,hr] at href;cases href
     obtain ⟨⟨a,ca⟩,⟨so,nm,fs⟩⟩:=x
     have hso:=(hw.ty _ (List.mem_map_of_mem (fK hrv))).sort
     dsimp only at hso
     rw [hrv] at href
     refine abd F h.sl.one ?_ oM oM oM
     rw [wJ href.symm]
     rcases hso with rfl | rfl | rfl
     ·exact aa6 hR h hw hrv hkk.1 oM hs1 oM
     ·exact aa4 hR h hw hrv hkk.1 oM hs1 oM
     ·exact abc h hw hrv hkk.1 oM hs1 oM
    | none =>
     rcases eK hk h91 hr with e1 | e1 | e1
     ·simp only [List.cons.injEq] at e1
      obtain ⟨rfl,rfl⟩:=e1
      rw [z8 hr]
      exact aa8 h.sl.one (by simp) hs1 oM
     ·simp only [List.cons.injEq] at e1
      obtain ⟨rfl,rfl⟩:=e1
      rw [z6 hr]
      exact aa5 h.sl.one (by simp) hs1 oM
     ·simp only [List.cons.injEq] at e1
      obtain ⟨rfl,rfl⟩:=e1
      rw [z9 hr]
      exact abb h.sl.one oM oM
theorem qm {s k b : ac1} (h : s.length ≤ 1048576 ∧ k.length ≤ 1048576 ∧ b.length ≤ 1048576) (hg : gB s k b = none) : bi ac0 18 [S s,S k,S b] G (fun v _=>∃ u q,v = Tu [u,.pointer q,Bo false]):=by
 by_cases hk : cP s k = true
 case neg =>
  have hk2 : cP s k = false:=by simpa using hk
  have cx_lk1 : ∀ G,bi ac0 51 [S s,S k] G (fun v _=>∃ u,v = Tu [u,Bo false]):=fun G=>by
   refine (oF (G:=G) (s:=s) (k:=k) oM oM).mono ?_
   rintro v G' L' ⟨h1,h2,u,vs,rfl,_⟩
   exact ⟨h1,h2,u,by rw [hk2]⟩
  refine jB [(0,_),(1,_),(2,_)] Tryz.func18 Tryz.ntmps18 fun B hok hB hW=>?_
  repeat' (first | refine jR ?_ | (refine jo ?_;first | refine aH F ?_ | (refine aK F F F (cx_lk1 _) F ?_;rintro _ G hle ⟨u1,rfl⟩;skip)) | refine ax F F F ?_ | refine ac F F ?_)
  all_goals refine jZ (vs:=[_,_,_]) F ⟨F,F,F,trivial⟩ F ⟨hle,F,?_⟩
  all_goals exact ⟨_,_,F⟩
 obtain ⟨ts,hs,hki,hw⟩:=nJ hk
 have cx_lka : ∀ G,bi ac0 51 [S s,S k] G (fun v G'=>∃ a c vs,v = Tu [.slice a vs.length c,Bo true] ∧ SchR G' (.slice a vs.length c) vs ∧ af vs = ts):=fun G=>by
  refine (oF (G:=G) (s:=s) (k:=k) oM oM).mono ?_
  rintro v G' L' ⟨h1,h2,u,vs,rfl,h4,_,h6⟩
  obtain ⟨_,⟨rfl,h0⟩ | ⟨b,o,cap,rfl,_,_⟩⟩:=h4.sl
  ·exact ⟨h1,h2,none,0,vs,by rw [hk,h0],by rw [h0];exact h4,h6 ts hs hki⟩
  ·exact ⟨h1,h2,_,cap,vs,by rw [hk],h4,h6 ts hs hki⟩
 by_cases hl : b.length ≤ 600
 case neg =>
  refine jB [(0,_),(1,_),(2,_)] Tryz.func18 Tryz.ntmps18 fun B hok hB hW=>?_
  repeat' (first | refine jR ?_ | (refine jo ?_;first | refine aw F ?_ | (refine aK F F F (cx_lka _) F ?_;rintro _ G hle ⟨av1,cv1,vs1,rfl,hR1,hT1⟩;skip)) | refine aj F F F ?_ | refine ac F (ar oM) ?_)
  all_goals refine jZ (vs:=[_,_,_]) F ⟨F,F,F,trivial⟩ F ⟨hle,F,?_⟩
  all_goals exact ⟨_,_,F⟩
 unfold gB at hg
 rw [hs] at hg
 dsimp only at hg
 rw [if_pos ⟨hki,hl⟩] at hg
 refine jB [(0,_),(1,_),(2,_)] Tryz.func18 Tryz.ntmps18 fun B hok hB hW=>?_
 repeat' (first | refine jR ?_ | (refine jo ?_;first | refine aw F ?_ | refine jV (an F F) ?_ | (refine aK F F F (cx_lka _) F ?_;rintro _ G hle ⟨av1,cv1,vs1,rfl,hR1,hT1⟩;skip)) | refine aj F F F ?_ | refine ad F (aA oM) ?_)
 subst hT1
 have hle0:=hle
 cases hf : cN (rb (af vs1) 12) k b with
 | none =>
  have cx_wh0:=oA (lE (u:=.slice av1 vs1.length cv1) (vs:=vs1) hw 12 oM) hR1 hki oM oM hf
  repeat' (first | refine jR ?_ | (refine jo ?_;(refine aK F F F cx_wh0 F ?_;rintro _ G hle ⟨q1,rfl⟩;skip)) | refine ac F F ?_)
  all_goals refine jZ (vs:=[_,_,_]) F ⟨F,F,F,trivial⟩ F ⟨(hle0.trans hle),F,?_⟩
  all_goals exact ⟨_,_,F⟩
 | some v =>
  rw [hf] at hg
  have htot:=jq _ _ _ _ _ (cL hf)
  simp only [List.length_nil] at htot
  have hvn : bV (af vs1) k v.out = none:=sZ hw (ll _ _ _ _ (cL hf)).1 fun h=>by dsimp only at hg;rw [if_pos h.1] at hg;cases hg
  have cx_wh1:=lQ (lE (u:=.slice av1 vs1.length cv1) (vs:=vs1) hw 12 oM) hR1 hki oM oM hf
  refine jo ?_
  refine aK F F F cx_wh1 F ?_
  rintro _ G2 hle2 ⟨wb,rfl,hrep⟩
  have hR2:=hR1.mono hle2
  have cx_out:=mV hw hrep oM
  have cx_bk:=sx (k:=k) (s:=v.out) hw hR2 hki
  rw [hvn] at cx_bk
  repeat' (first | refine jR ?_ | (refine jo ?_;first | refine ab F F F cx_out F ?_ | (refine aK F F F cx_bk F ?_;rintro _ G hle rfl;skip)) | refine ad F F ?_)
  all_goals refine jZ (vs:=[_,_,_]) F ⟨F,F,F,trivial⟩ F ⟨((hle0.trans hle2).trans hle),F,?_⟩
  all_goals exact ⟨_,_,F⟩
theorem ql {s k b : ac1} {v : V} (h : s.length ≤ 1048576 ∧ k.length ≤ 1048576 ∧ b.length ≤ 1048576) (hg : gB s k b = some v) : bi ac0 18 [S s,S k,S b] G (fun r G'=>∃ a c vs wb,r = Tu [.slice a vs.length c,Pt wb 0,Bo true] ∧ SchR G' (.slice a vs.length c) vs ∧ aO s = some (af vs) ∧ RepR G' (af vs) v k wb):=by
 obtain ⟨ts,hs,hki,hl,hf,ho⟩:=p7 hg
 have hw:=cp hs
 have hk : cP s k = true:=by unfold cP;rw [hs];exact hki
 have cx_lka : ∀ G,bi ac0 51 [S s,S k] G (fun v G'=>∃ a c vs,v = Tu [.slice a vs.length c,Bo true] ∧ SchR G' (.slice a vs.length c) vs ∧ af vs = ts):=fun G=>by
  refine (oF (G:=G) (s:=s) (k:=k) oM oM).mono ?_
  rintro v G' L' ⟨h1,h2,u,vs,rfl,h4,_,h6⟩
  obtain ⟨_,⟨rfl,h0⟩ | ⟨b,o,cap,rfl,_,_⟩⟩:=h4.sl
  ·exact ⟨h1,h2,none,0,vs,by rw [hk,h0],by rw [h0];exact h4,h6 ts hs hki⟩
  ·exact ⟨h1,h2,_,cap,vs,by rw [hk],h4,h6 ts hs hki⟩
 have htot:=jq _ _ _ _ _ (cL hf)
 simp only [List.length_nil] at htot
 obtain ⟨hk1,hd⟩:=ll _ _ _ _ (cL hf)
 have hvs:=hZ hw hk1 ho hd
 refine jB [(0,_),(1,_),(2,_)] Tryz.func18 Tryz.ntmps18 fun B hok hB hW=>?_
 repeat' (first | refine jR ?_ | (refine jo ?_;first | refine aw F ?_ | refine jV (an F F) ?_ | (refine aK F F F (cx_lka _) F ?_;rintro _ G hle ⟨av1,cv1,vs1,rfl,hR1,hT1⟩;skip)) | refine aj F F F ?_ | refine ad F (aA oM) ?_)
 subst hT1
 have hle0:=hle
 have cx_wh1:=lQ (lE (u:=.slice av1 vs1.length cv1) (vs:=vs1) hw 12 oM) hR1 hki oM oM hf
 refine jo ?_
 refine aK F F F cx_wh1 F ?_
 rintro _ G2 hle2 ⟨wb,rfl,hrep⟩
 have hR2:=hR1.mono hle2
 have cx_out:=mV hw hrep oM
 have cx_bk:=sx (k:=k) (s:=v.out) hw hR2 hki
 rw [hvs] at cx_bk
 repeat' (first | refine jR ?_ | (refine jo ?_;first | refine ab F F F cx_out F ?_ | (refine aK F F F cx_bk F ?_;rintro _ G hle rfl;skip)) | refine ad F F ?_)
 all_goals refine jZ (vs:=[_,_,_]) F ⟨F,F,F,trivial⟩ F ⟨((hle0.trans hle2).trans hle),F,?_⟩
 all_goals exact ⟨_,_,_,_,F,hR2.mono hle,hs,hrep.mono hle⟩
theorem p5 {s k b : ac1} {v : V} (h : gB s k b = some v) : v.wf ∧ v.tot ≤ 60000:=by
 obtain ⟨ts,hs,hki,hl,hf,ho⟩:=p7 h
 have htot:=jq _ _ _ _ _ (cL hf)
 simp only [List.length_nil] at htot
 obtain ⟨hk1,hd⟩:=ll _ _ _ _ (cL hf)
 exact ⟨(nQ (hZ (cp hs) hk1 ho hd)).1,oM⟩
theorem th {s k b : ac1} (h : s.length ≤ 1048576 ∧ k.length ≤ 1048576 ∧ b.length ≤ 1048576) : aC ac0 31 [S s,S k,S b] G (· = hY ((gB s k b).map V.out)):=by
 cases hg : gB s k b with
 | none =>
  have cx_l50:=qm (G:=G) h hg
  refine jB (Post:=fun v G' L'=>G' = G ∧ L' = [] ∧ _) [(0,_),(1,_),(2,_)] Tryz.func31 Tryz.ntmps31 fun B hok hB hW=>?_
  repeat' (first | refine jR ?_ | (refine jo ?_;(refine aK F F F cx_l50 F ?_;rintro _ G hle ⟨u5,q5,rfl⟩;skip)) | refine ac F F ?_)
  all_goals refine Nx.base hok hB ?_
  all_goals refine jY (vs:=[_,_]) ?_
  all_goals rfl
 | some v =>
  obtain ⟨hwf,htot⟩:=p5 hg
  have cx_l5:=ql (G:=G) h hg
  refine jB (Post:=fun v G' L'=>G' = G ∧ L' = [] ∧ _) [(0,_),(1,_),(2,_)] Tryz.func31 Tryz.ntmps31 fun B hok hB hW=>?_
  repeat' (first | refine jR ?_ | (refine jo ?_;(refine aK F F F cx_l5 F ?_;rintro _ G hle ⟨a5,c5,vs5,wb5,rfl,hR5,hs5,hrep5⟩;skip)) | refine ad F F ?_)
  have cx_out:=mV (cp hs5) hrep5 oM
  repeat' (first | refine jR ?_ | (refine jo ?_;refine ab F F F cx_out F ?_))
  all_goals refine Nx.base hok hB ?_
  all_goals refine jY (vs:=[_,_]) ?_
  all_goals rfl
theorem rk {s k b : ac1} (h : s.length ≤ 1048576 ∧ k.length ≤ 1048576 ∧ b.length ≤ 1048576) : aC ac0 30 [S s,S k,S b] G (· = Bo (cM s k b).isSome):=by
 cases hg : gB s k b with
 | none =>
  have cx_l50:=qm (G:=G) h hg
  rw [p6 hg]
  refine jB (Post:=fun v G' L'=>G' = G ∧ L' = [] ∧ _) [(0,_),(1,_),(2,_)] Tryz.func30 Tryz.ntmps30 fun B hok hB hW=>?_
  repeat' (first | refine jR ?_ | (refine jo ?_;first | refine aw F ?_ | (refine aK F F F cx_l50 F ?_;rintro _ G hle ⟨u5,q5,rfl⟩;skip)) | refine aj F F F ?_)
  all_goals refine Nx.base hok hB ?_
  all_goals refine jY (vs:=[_]) ?_
  all_goals rfl
 | some v =>
  obtain ⟨hwf,htot⟩:=p5 hg
  have hl5:=ql (G:=G) h hg
  have hres : (cM s k b).isSome = decide (v.bys = b):=by
   rw [iZ hg]
   by_cases h1 : v.bys = b
   ·rw [if_pos h1,decide_eq_true h1];rfl
   ·rw [if_neg h1,decide_eq_false h1];rfl
  rw [hres]
  refine jB (Post:=fun v G' L'=>G' = G ∧ L' = [] ∧ _) [(0,_),(1,_),(2,_)] Tryz.func30 Tryz.ntmps30 fun B hok hB hW=>?_
  repeat' (refine jR ?_)
  refine jo ?_
  refine aK F F F hl5 F ?_
  rintro _ G2 hle ⟨a5,c5,vs5,wb5,rfl,hR5,hs5,hrep5⟩
  have cx_bys:=sK (cp hs5) hrep5 hwf oM
  generalize v.bys = vb at cx_bys ⊢
  clear hrep5 hR5 hg hwf htot hres hl5
  repeat' (first | refine jR ?_ | (refine jo ?_;first | refine aH F ?_ | refine ab F F F cx_bys F ?_) | refine ax F F F ?_)
  all_goals refine Nx.base hok hB ?_
  all_goals refine jY (vs:=[_]) ?_
  all_goals rfl
abbrev tBr : TypeId:=76
abbrev bL (r sc : Nat) (s : ac1) (b : Bool) (a : Option Addr) (n c : Nat) (d : Int) : Own:=.blk r (.cells (List.toArray [Pt sc 0,S s,Bo b,.slice a n c,I d]) tBr (0,0))
theorem jP {r sc m n c : Nat} {s : ac1} {a : Option Addr} {d : Int} (h : m ≤ s.length ∧ s.length ≤ 1000000) : c8 ac0 45 [Pt r 0,I (m : Nat)] G [bL r sc s false a n c d] (fun v L'=>v = S (s.take m) ∧ L' = [bL r sc (s.drop m) false a n c d]):=by
 refine jH [(0,_),(1,_)] Tryz.func45 Tryz.ntmps45 fun B hB hW=>?_
 repeat' (first | refine jM ?_ | (refine jo ?_;first | refine ak F ?_ | refine aw F ?_ | refine jD F F F ?_) | refine aj F F F ?_ | refine ad F (aA oM) ?_)
 exact bh (vs:=[_]) F ⟨F,trivial⟩ F (List.Sublist.refl _) ⟨F,F,F⟩
theorem fR {r sc m n c : Nat} {s : ac1} {b : Bool} {a : Option Addr} {d : Int} (h : b = true ∨ s.length < m) (hs : s.length ≤ 1000000 ∧ m ≤ 1000000) : c8 ac0 45 [Pt r 0,I (m : Nat)] G [bL r sc s b a n c d] (fun v L'=>v = S [] ∧ L' = [bL r sc s true a n c d]):=by
 rcases h with rfl | h
 ·refine jH [(0,_),(1,_)] Tryz.func45 Tryz.ntmps45 fun B hB hW=>?_
  repeat' (first | refine jR ?_ | (refine jo ?_;first | refine ak F ?_ | refine aH F ?_ | refine jD F F F ?_) | refine ax F F F ?_ | refine ac F F ?_)
  all_goals exact bh (vs:=[_]) F ⟨F,trivial⟩ F (List.Sublist.refl _) ⟨F,F,F⟩
 ·cases b
  ·refine jH [(0,_),(1,_)] Tryz.func45 Tryz.ntmps45 fun B hB hW=>?_
   repeat' (first | refine jR ?_ | (refine jo ?_;first | refine ak F ?_ | refine aw F ?_ | refine jD F F F ?_) | refine aj F F F ?_ | refine ac F (ar oM) ?_)
   all_goals exact bh (vs:=[_]) F ⟨F,trivial⟩ F (List.Sublist.refl _) ⟨F,F,F⟩
  ·refine jH [(0,_),(1,_)] Tryz.func45 Tryz.ntmps45 fun B hB hW=>?_
   repeat' (first | refine jR ?_ | (refine jo ?_;first | refine ak F ?_ | refine aH F ?_ | refine jD F F F ?_) | refine ax F F F ?_ | refine ac F F ?_)
   all_goals exact bh (vs:=[_]) F ⟨F,trivial⟩ F (List.Sublist.refl _) ⟨F,F,F⟩
theorem sF {r sc n c : Nat} {s q : ac1} {x : Bool} {a : Option Addr} {d : Int} (h : cx s = some (x,q)) (hs : s.length ≤ 1000000) : c8 ac0 49 [Pt r 0] G [bL r sc s false a n c d] (fun v L'=>v = Bo x ∧ L' = [bL r sc q false a n c d]):=by
 have e:=fc h
 subst e
 have hl : ((if x = true then 1 else 0) :: q).length = q.length + 1:=rfl
 have cx_tkb:=jP (G:=G) (r:=r) (sc:=sc) (m:=1) (n:=n) (c:=c) (s:=(if x = true then 1 else 0) :: q) (a:=a) (d:=d) ⟨oM,hs⟩
 cases x
 ·have cx_tkb : c8 ac0 45 [Pt r 0,I 1] G [bL r sc (0 :: q) false a n c d] (fun v L'=>v = S [0] ∧ L' = [bL r sc q false a n c d]):=cx_tkb
  refine jH [(0,_)] Tryz.func49 Tryz.ntmps49 fun B hB hW=>?_
  repeat' (first | refine jR ?_ | (refine jo ?_;(refine aq F F F cx_tkb F ?_;rintro _ _ ⟨rfl,rfl⟩;dsimp only [zA,fA])) | refine ad F F ?_)
  all_goals exact bh (vs:=[_]) F ⟨F,trivial⟩ F (List.Sublist.refl _) ⟨F,F,F⟩
 ·have cx_tkb : c8 ac0 45 [Pt r 0,I 1] G [bL r sc (1 :: q) false a n c d] (fun v L'=>v = S [1] ∧ L' = [bL r sc q false a n c d]):=cx_tkb
  refine jH [(0,_)] Tryz.func49 Tryz.ntmps49 fun B hB hW=>?_
  repeat' (first | refine jR ?_ | (refine jo ?_;(refine aq F F F cx_tkb F ?_;rintro _ _ ⟨rfl,rfl⟩;dsimp only [zA,fA])) | refine ad F F ?_)
  all_goals exact bh (vs:=[_]) F ⟨F,trivial⟩ F (List.Sublist.refl _) ⟨F,F,F⟩
theorem sG {r sc n c : Nat} {s : ac1} {b : Bool} {a : Option Addr} {d : Int} (h : b = true ∨ cx s = none) (hs : s.length ≤ 1000000) : c8 ac0 49 [Pt r 0] G [bL r sc s b a n c d] (fun v L'=>∃ q,(v = Bo false ∧ q.length ≤ s.length) ∧ L' = [bL r sc q true a n c d]):=by
 by_cases h1 : b = true ∨ s.length < 1
 ·have cx_tkb:=fR (G:=G) (r:=r) (sc:=sc) (m:=1) (n:=n) (c:=c) (s:=s) (b:=b) (a:=a) (d:=d) h1 ⟨hs,oM⟩
  have cx_tkb : c8 ac0 45 [Pt r 0,I 1] G [bL r sc s b a n c d] (fun v L'=>v = S [] ∧ L' = [bL r sc s true a n c d]):=cx_tkb
  refine jH [(0,_)] Tryz.func49 Tryz.ntmps49 fun B hB hW=>?_
  repeat' (first | refine jR ?_ | (refine jo ?_;(refine aq F F F cx_tkb F ?_;rintro _ _ ⟨rfl,rfl⟩;dsimp only [zA,fA])) | refine ad F F ?_)
  all_goals exact bh (vs:=[_]) F ⟨F,trivial⟩ F (List.Sublist.refl _) ⟨F,s,⟨F,Nat.le_refl _⟩,F⟩
 ·obtain rfl : b = false:=by cases b;rfl;exact absurd (.inl F) h1
  match s,h,hs,h1 with
  | [],_,_,h1=>exact absurd (.inr (by simp)) h1
  | e :: q,h,hs,_ =>
   have he : e.toNat ≠ 0 ∧ e.toNat ≠ 1:=by
    rcases h with h | h
    ·cases h
    ·unfold cx at h
     dsimp only at h
     split at h
     ·cases h
     ·split at h
      ·cases h
      ·exact ⟨by assumption,by assumption⟩
   have hl : (e :: q).length = q.length + 1:=rfl
   have cx_tkb:=jP (G:=G) (r:=r) (sc:=sc) (m:=1) (n:=n) (c:=c) (s:=e :: q) (a:=a) (d:=d) ⟨oM,hs⟩
   have cx_tkb : c8 ac0 45 [Pt r 0,I 1] G [bL r sc (e :: q) false a n c d] (fun v L'=>v = S [e] ∧ L' = [bL r sc q false a n c d]):=cx_tkb
   have hne : ¬ [e] = [1]:=fun h=>by simp only [List.cons.injEq,and_true] at h;subst h;exact he.2 F
   have hbl : Op.bytesLess [e] [1] = false:=by
    cases hb : Op.bytesLess [e] [1] with
    | false=>rfl
    | true =>
     exfalso
     unfold Op.bytesLess at hb
     have h9 : ¬ e.toNat < (1 : UInt8).toNat:=by show ¬ e.toNat < 1;omega
     simp_all
   have hc : (!(Op.bytesLess [e] [1] || decide ([e] = [1]))) = true:=by rw [hbl,decide_eq_false hne];rfl
   refine jH [(0,_)] Tryz.func49 Tryz.ntmps49 fun B hB hW=>?_
   repeat' (first | refine jR ?_ | (refine jo ?_;first | refine jD F F F ?_ | (refine aq F F F cx_tkb F ?_;rintro _ _ ⟨rfl,rfl⟩;dsimp only [zA,fA])) | refine ac F ‹_› ?_)
   all_goals exact bh (vs:=[_]) F ⟨F,trivial⟩ F (List.Sublist.refl _) ⟨F,q,⟨by rw [decide_eq_false hne];all_goals rfl,oM⟩,rfl⟩
theorem eA {r sc m c : Nat} {s q : ac1} {b : Bool} {a : Option Addr} {d n : Int} (h : bm s = some (n,q)) (hs : s.length ≤ 1000) : c8 ac0 44 [Pt r 0] G [bL r sc s b a m c d] (fun v L'=>v = I n ∧ L' = [bL r sc q b a m c d]):=by
 have cx_ng0:=mX (G:=G) (s:=s) oM
 rw [h] at cx_ng0
 have cx_ngi : aC ac0 34 [S s] G (· = Tu [I n,S q,Bo true]):=cx_ng0
 refine jH [(0,_)] Tryz.func44 Tryz.ntmps44 fun B hB hW=>?_
 repeat' (first | refine jR ?_ | (refine jo ?_;first | refine ak F ?_ | refine jD F F F ?_ | refine ab F F F cx_ngi F ?_) | refine ad F F ?_)
 all_goals exact bh (vs:=[_]) F ⟨F,trivial⟩ F (List.Sublist.refl _) ⟨F,F,F⟩
theorem f9 {r sc m c : Nat} {s : ac1} {b : Bool} {a : Option Addr} {d : Int} (h : bm s = none) (hs : s.length ≤ 1000) : c8 ac0 44 [Pt r 0] G [bL r sc s b a m c d] (fun v L'=>v = I 0 ∧ L' = [bL r sc [] true a m c d]):=by
 have cx_ng0:=mX (G:=G) (s:=s) oM
 rw [h] at cx_ng0
 have cx_ngi : aC ac0 34 [S s] G (· = Tu [I 0,S [],Bo false]):=cx_ng0
 refine jH [(0,_)] Tryz.func44 Tryz.ntmps44 fun B hB hW=>?_
 repeat' (first | refine jR ?_ | (refine jo ?_;first | refine ak F ?_ | refine jD F F F ?_ | refine ab F F F cx_ngi F ?_) | refine ac F F ?_)
 all_goals exact bh (vs:=[_]) F ⟨F,trivial⟩ F (List.Sublist.refl _) ⟨F,F,F⟩
abbrev fI : TypeId:=73
abbrev md : TypeId:=104
abbrev rv : TypeId:=99
theorem da {P : Program} {n : Nat} {E : bw} {B : Base} {G : Gh} {L R1 R : List Own} {e : Exit} {f : FuncId} {fi ca az xs : List Value} {b1 b2 : Nat} {c1 c2 : List Value} {T1 T2 : TypeId} {PostD : Value → Gh → List Own → Prop} {fn : Func} {rs : List ResultVar} {Post : Value → Gh → List Own → Prop}
  [h1 : DelB L b1 c1 T1 R1] [h2 : DelB R1 b2 c2 T2 R] (he : e = .ret ∨ e = .normal) (hv : fi ++ az ++ ca = xs) (hc : FnD P f xs G [.blk b1 (.cells c1.toArray T1 (0,0)),.blk b2 (.cells c2.toArray T2 (0,0))] PostD)
  (hr : fn.results = rs.toArray) (k : ∀ v G' L',PostD v G' L' → ∃ vs L'',iM P (St B G' (L' ++ R)) E rs vs ∧ L''.Sublist (L' ++ R) ∧ Post (eN vs) G' L'') :
  Nx n [sh f fi ca az] E B G L (cu P (.exit e) [] (wt P fn (dE B Post))):=abF he hv hc (h1.del.perm.trans (h2.del.perm.cons _)) hr k
theorem cK {x0 r sc n c : Nat} {s : ac1} {b : Bool} {a : Option Addr} {d : Int} (hd : -1000 ≤ d ∧ d ≤ 1000) : FnD ac0 122 [Pt x0 0] G [.blk x0 (.cells (List.toArray [Pt r 0]) fI (0,0)),bL r sc s b a n c d]
  (fun _ G' L'=>G' = G ∧ L' = [.blk x0 (.cells (List.toArray [Pt r 0]) fI (0,0)),bL r sc s b a n c (d - 1)]):=by
 refine yV [(0,_)] Tryz.func122 kR Tryz.ntmps122 F F tU fun B hok hB hW=>?_
 repeat' (first | refine jM ?_ | (refine jo ?_;first | refine ak F ?_ | refine jD F F F ?_))
 all_goals exact ob (vs:=[]) F trivial F (List.Sublist.refl _) ⟨F,F⟩
def sW (f : ac1 → Option (V × ac1)) (s : ac1) (b : Bool) (u : V) (s' : ac1) (b' : Bool) : Prop :=
 s'.length ≤ s.length ∧ (b' = false → b = false ∧ f s = some (u,s')) ∧ (b' = true → b = true ∨ f s = none)
def kz (f : ac1 → Option (V × ac1)) (r sc : Nat) (s : ac1) (b : Bool) (d : Int) (v : Value) (G' : Gh) (L' : List Own) : Prop :=
 ∃ u c s' b' a n k,v = Ag (bx c) ∧ V.rep G' u c ∧ L' = [bL r sc s' b' a n k d] ∧ (d ≠ 0 → a = none ∧ n = 0 ∧ k = 0) ∧ sW f s b u s' b'
def rg (n sc : Nat) (qs : List co) : Prop:=∀ (G : Gh) (r : Nat) (k s : ac1) (b : Bool),ScI G sc qs → aE (ag qs) k = true → s.length ≤ 1000 →
 dw ac0 93 [Pt r 0,Ag (cS k)] G [bL r sc s b none 0 0 (13 - (n : Int))] (kz (rb (ag qs) n k) r sc s b (13 - (n : Int)))
theorem cI {f : ac1 → Option (V × ac1)} {r sc n k : Nat} {s s' : ac1} {b b' : Bool} {d d' : Int} {u : V} {c : VC} {a : Option Addr} {G' : Gh} (hr : V.rep G' u c) (hd : d' = d) (hk : d ≠ 0 → a = none ∧ n = 0 ∧ k = 0) (h : sW f s b u s' b') : kz f r sc s b d (Ag (bx c)) G' [bL r sc s' b' a n k d']:=by
 subst hd;exact ⟨u,c,s',b',a,n,k,F,hr,F,hk,h⟩
theorem wy {f : ac1 → Option (V × ac1)} {r sc : Nat} {k q : ac1} {d e : Int} (h : e = d) (h0 : d ≠ 0) (hc : dw ac0 93 [Pt r 0,Ag (cS k)] G [bL r sc q false none 0 0 e] (kz f r sc q false e)) : dw ac0 93 [Pt r 0,Ag [S (sg k),S (bs k),S (nm k)]] G [bL r sc q false none 0 0 d] (fun v G' L'=>∃ u c s' b',v = Ag (bx c) ∧ V.rep G' u c ∧ L' = [bL r sc s' b' none 0 0 d] ∧ sW f q false u s' b'):=by
 subst h
 refine hc.mono ?_
 rintro v G' L' ⟨h1,u,c,s',b',a,n,kk,rfl,h2,rfl,h3,h4⟩
 obtain ⟨rfl,rfl,rfl⟩:=h3 h0
 exact ⟨h1,u,c,s',b',F,h2,F,h4⟩
theorem kP {ts : List Ty} {n : Nat} {k q t1 : ac1} {u : V} {b1 : Bool} (h : sW (rb ts n k) q false u t1 b1) : t1.length ≤ q.length ∧ (b1 = false → rb ts n k q = some (u,t1) ∧ u.tot + 100 * t1.length ≤ 100 * q.length ∧ t1.length < q.length) ∧ (b1 = true → rb ts n k q = none):=by
 obtain ⟨h1,h2,h3⟩:=h
 refine ⟨h1,fun h=>?_,fun h=>?_⟩
 ·obtain ⟨_,h4⟩:=h2 h
  exact ⟨h4,jq _ _ _ _ _ h4,o7 _ _ _ _ _ h4⟩
 ·rcases h3 h with h4 | h4
  ·cases h4
  ·exact h4
theorem tQ {r sc n : Nat} {qs : List co} {k s : ac1} {b : Bool} (h : b = true ∨ n = 0) (hs : s.length ≤ 1000) (hn : n ≤ 13) :
  dw ac0 93 [Pt r 0,Ag [S (sg k),S (bs k),S (nm k)]] G [bL r sc s b none 0 0 (13 - (n : Int))] (kz (rb (ag qs) n k) r sc s b (13 - (n : Int))):=by
 have hno : b = true ∨ rb (ag qs) n k s = none:=by
  rcases h with h | rfl
  ·exact .inl h
  ·exact .inr F
 rcases h with rfl | rfl
 ·
  refine cr [(0,_),(1,_)] Tryz.func93 kR Tryz.ntmps93 F F tU fun B hok hB hW=>?_
  repeat' (first | refine jM ?_ | (refine jo ?_;first | refine jO fun _=>?_ | refine jL fun _=>?_ | refine ak F ?_ | refine jD F F F ?_ | refine jV (df F F) ?_))
  rename_i x2 x3 x4
  refine jo ?_
  refine ct (fi:=[]) (ca:=[Pt x2 0]) (az:=[]) F F ?_
  repeat' (first | refine jR ?_ | (refine jo ?_;first | refine ak F ?_ | refine jD F F F ?_ | refine jC F F F ?_ | refine jV (an F F) ?_) | refine ac F F ?_ | refine er F (fun _=>?_) (fun _=>?_))
  all_goals
   refine da (.inl F) F (cK (x0:=x2) (r:=r) (sc:=sc) (s:=s) (b:=true) (a:=none) (n:=0) (c:=0) (d:=13 - (n : Int) + 1) oM) F ?_
   rintro v G' L' ⟨rfl,rfl⟩
   dsimp only [zA,fA]
   exact ⟨[_],[bL r sc s true none 0 0 (13 - (n : Int) + 1 - 1)],⟨av F F F F,trivial⟩,sB,Gh.le.refl _,cI (c:=⟨0,[],0,none,0,0⟩) fJ oM (fun _=>⟨F,F,F⟩) ⟨Nat.le_refl _,fun h=>(by cases h),fun _=>hno⟩⟩
 ·
  refine cr [(0,_),(1,_)] Tryz.func93 kR Tryz.ntmps93 F F tU fun B hok hB hW=>?_
  repeat' (first | refine jM ?_ | (refine jo ?_;first | refine jO fun _=>?_ | refine jL fun _=>?_ | refine ak F ?_ | refine jD F F F ?_ | refine jV (df F F) ?_))
  rename_i x2 x3 x4
  refine jo ?_
  refine ct (fi:=[]) (ca:=[Pt x2 0]) (az:=[]) F F ?_
  repeat' (first | refine jR ?_ | (refine jo ?_;first | refine ak F ?_ | refine jD F F F ?_ | refine jC F F F ?_ | refine jV (an F F) ?_) | refine ac F F ?_)
  all_goals
   refine da (.inl F) F (cK (x0:=x2) (r:=r) (sc:=sc) (s:=s) (b:=true) (a:=none) (n:=0) (c:=0) (d:=13 - ((0 : Nat) : Int) + 1) oM) F ?_
   rintro v G' L' ⟨rfl,rfl⟩
   dsimp only [zA,fA]
   exact ⟨[_],[bL r sc s true none 0 0 (13 - ((0 : Nat) : Int) + 1 - 1)],⟨av F F F F,trivial⟩,sB,Gh.le.refl _,cI (c:=⟨0,[],0,none,0,0⟩) fJ oM (fun _=>⟨F,F,F⟩) ⟨Nat.le_refl _,fun h=>(by cases h),fun _=>hno⟩⟩
theorem tX {n r sc m c : Nat} {qs : List co} {k p s : ac1} {d : Int} {a : Option Addr} (hd : d = 13 - (n : Int)) (hn : n ≤ 12) (hU : rg n sc qs) (hS : ScI G sc qs) (hk : aE (ag qs) k = true) (hs : p.length ≤ 1000) :
  dw ac0 127 [Pt r 0,Ag [S (sg k),S (bs k),S (nm k)],S p] G [bL r sc s false a m c d] (fun v G' L'=>∃ u cc b',v = Ag (bx cc) ∧ V.rep G' u cc ∧ L' = [bL r sc s b' a m c d] ∧ (b' = false → cN (rb (ag qs) n) k p = some u ∧ u.tot ≤ 100 * p.length) ∧ (b' = true → cN (rb (ag qs) n) k p = none)):=by
 have cx_vl : ∀ y,dw ac0 93 [Pt y 0,Ag [S (sg k),S (bs k),S (nm k)]] G [bL y sc p false none 0 0 d] (fun v G' L'=>∃ u c s' b',v = Ag (bx c) ∧ V.rep G' u c ∧ L' = [bL y sc s' b' none 0 0 d] ∧ sW (rb (ag qs) n k) p false u s' b'):=fun y=>wy hd.symm oM (hU G y k p false hS hk hs)
 refine cG [(0,_),(1,_),(2,_)] Tryz.func127 kR Tryz.ntmps127 F F tU fun B hB hW=>?_
 repeat' (first | refine jR ?_ | (refine jo ?_;first | refine jO fun _=>?_ | refine jL fun _=>?_ | refine aN F ?_) | (refine ai (am (id:=1) _ (fun _ h=>h) ah ?_);refine jT 5 [0,1,2,4,5,6,7] (aa 12 247) ?_;(refine jG (aa 12 255) 3 F (aD F F F) ?_);(refine jG (aa 12 511) 8 F (aD F F F) ?_);(refine jG (aa 12 1023) 9 F (an F F) ?_);refine jA 10 F ?_;(refine jO fun _=>?_);refine jS (aa 12 2047) ?_;refine jT 0 [11] (aa 12 4095) ?_;refine jQ ?_))
 rename_i y
 refine jo ?_
 refine dZ F F F (cx_vl y) F ?_
 rintro _ G1 _ hle ⟨u1,c1,t1,b1,rfl,hrep,rfl,hP⟩
 dsimp only [zA,fA]
 obtain ⟨hQ1,hQ2,hQ3⟩:=kP hP
 cases b1 with
 | true =>
  have hno : cN (rb (ag qs) n) k p = none:=by unfold cN;rw [hQ3 rfl]
  repeat' (first | refine jR ?_ | (refine jo ?_;first | refine jL fun _=>?_ | refine ak F ?_ | refine aN F ?_ | refine jD F F F ?_ | refine jC F F F ?_ | refine aH F ?_) | refine ax F F F ?_ | refine ac F F ?_)
  all_goals refine bh (vs:=[_]) F ⟨av F F F F,trivial⟩ F sB ⟨hle,u1,c1,true,F,hrep,F,fun h=>(by cases h),fun _=>hno⟩
 | false =>
  obtain ⟨h1,h2,h3⟩:=hQ2 rfl
  cases t1 with
  | nil =>
   have hyes : cN (rb (ag qs) n) k p = some u1:=gw h1
   repeat' (first | refine jR ?_ | (refine jo ?_;first | refine jL fun _=>?_ | refine ak F ?_ | refine aN F ?_ | refine jC F F F ?_ | refine aw F ?_) | refine aj F F F ?_ | refine ad F F ?_)
   all_goals refine bh (vs:=[_]) F ⟨av F F F F,trivial⟩ F sB ⟨hle,u1,c1,false,F,hrep,F,fun _=>⟨hyes,by simpa using h2⟩,fun h=>(by cases h)⟩
  | cons e t1 =>
   have hno : cN (rb (ag qs) n) k p = none:=by unfold cN;rw [h1]
   repeat' (first | refine jR ?_ | (refine jo ?_;first | refine jL fun _=>?_ | refine ak F ?_ | refine aN F ?_ | refine jD F F F ?_ | refine jC F F F ?_ | refine aw F ?_) | refine aj F F F ?_ | refine ac F F ?_)
   all_goals refine bh (vs:=[_]) F ⟨av F F F F,trivial⟩ F sB ⟨hle,u1,c1,true,F,hrep,F,fun h=>(by cases h),fun _=>hno⟩
theorem abt (x : ac1) : cX (39 :: (x ++ [39])) = mH x:=by
 cases x with
 | nil=>simp [cX,ya,mH,bt]
 | cons c x =>
  have h:=tE (s:=39 :: (c :: x ++ [39]))
  have hne : (39 :: (c :: x ++ [39]) : ac1) ≠ [39,39]:=fun e=>by simpa using congrArg List.length e
  have hl : (39 :: (c :: x ++ [39]) : ac1).length = x.length + 3:=by simp
  have e0 : bt (39 :: (c :: x ++ [39]) : ac1) 0 = 39:=rfl
  have e1 : bt (39 :: (c :: x ++ [39]) : ac1) (x.length + 3 - 1) = 39:=by
   rw [show x.length + 3 - 1 = (x.length + 1) + 1 by omega,dG,show x.length + 1 = (c :: x).length from rfl]
   simp [bt,List.getD]
  have e2 : ((39 :: (c :: x ++ [39]) : ac1).take (x.length + 3 - 1)).drop 1 = c :: x:=by
   rw [show x.length + 3 - 1 = (c :: x).length + 1 by simp,List.take_succ_cons,List.take_left];rfl
  rw [hl,e0,e1,e2,decide_eq_true hne,Bool.and_true] at h
  rw [h,decide_eq_true oM]
  simp
theorem ab2 {n r sc : Nat} {qs : List co} {s : ac1} {d : Int} (hd : d = 12 - (n : Int)) (hn : n ≤ 12) (hr : aT (ag qs) [110] = none) (hs : s.length ≤ 1000) :
  dw ac0 93 [Pt r 0,Ag (cS [110])] G [bL r sc s false none 0 0 d] (kz (rb (ag qs) (n + 1) [110]) r sc s false d):=by
 have cx_sign:=@di G [110] []
 have hrd:=z8 (ts:=ag qs) (n:=n) (s:=s) hr
 show dw ac0 93 [Pt r 0,Ag [S [],S [110],S []]] G [bL r sc s false none 0 0 d] _
 cases hg : bm s with
 | none =>
  rw [hg] at hrd
  have cx_nb:=f9 (G:=G) (r:=r) (sc:=sc) (m:=0) (c:=0) (b:=false) (a:=none) (d:=d + 1) hg hs
  refine cr [(0,_),(1,_)] Tryz.func93 kR Tryz.ntmps93 F F tU fun B hok hB hW=>?_
  repeat' (first | refine jM ?_ | (refine jo ?_;first | refine jO fun _=>?_ | refine jL fun _=>?_ | refine ak F ?_ | refine jD F F F ?_ | refine jV (df F F) ?_))
  rename_i x2 x3 x4
  refine jo ?_
  refine ct (fi:=[]) (ca:=[Pt x2 0]) (az:=[]) F F ?_
  repeat' (first | refine jR ?_ | (refine jo ?_;first | refine ak F ?_ | refine aN F ?_ | refine jC F F F ?_ | refine jV (an F F) ?_ | refine ab F F F cx_sign F ?_ | (refine aq F F F cx_nb F ?_;rintro _ _ ⟨rfl,rfl⟩;dsimp only [zA,fA]) | refine ab F F F (ge oM) F ?_) | refine ac F F ?_ | (refine ad F (by first | rfl | (refine decide_eq_false ?_;(omega))) ?_))
  all_goals
   refine da (.inl F) F (cK (x0:=x2) (r:=r) (sc:=sc) (s:=[]) (b:=true) (a:=none) (n:=0) (c:=0) (d:=d + 1) oM) F ?_
   rintro v G' L' ⟨rfl,rfl⟩
   dsimp only [zA,fA]
   exact ⟨[_],[bL r sc [] true none 0 0 (d + 1 - 1)],⟨av F F F F,trivial⟩,sB,Gh.le.refl _,cI (c:=⟨110,a8 0,0,none,0,0⟩) (bq dC dC) oM (fun _=>⟨F,F,F⟩) ⟨by simp,fun h=>(by cases h),fun _=>.inr hrd⟩⟩
 | some z =>
  obtain ⟨m,q⟩:=z
  obtain ⟨h1,h2,_⟩:=cF hg
  have hl:=bU hg
  rw [hg] at hrd
  have cx_nb:=eA (G:=G) (r:=r) (sc:=sc) (m:=0) (c:=0) (b:=false) (a:=none) (d:=d + 1) hg hs
  refine cr [(0,_),(1,_)] Tryz.func93 kR Tryz.ntmps93 F F tU fun B hok hB hW=>?_
  repeat' (first | refine jM ?_ | (refine jo ?_;first | refine jO fun _=>?_ | refine jL fun _=>?_ | refine ak F ?_ | refine jD F F F ?_ | refine jV (df F F) ?_))
  rename_i x2 x3 x4
  refine jo ?_
  refine ct (fi:=[]) (ca:=[Pt x2 0]) (az:=[]) F F ?_
  repeat' (first | refine jR ?_ | (refine jo ?_;first | refine ak F ?_ | refine aN F ?_ | refine jC F F F ?_ | refine jV (an F F) ?_ | refine ab F F F cx_sign F ?_ | (refine aq F F F cx_nb F ?_;rintro _ _ ⟨rfl,rfl⟩;dsimp only [zA,fA]) | refine ab F F F (ge oM) F ?_) | refine ac F F ?_ | (refine ad F (by first | rfl | (refine decide_eq_false ?_;(omega))) ?_))
  all_goals
   refine da (.inl F) F (cK (x0:=x2) (r:=r) (sc:=sc) (s:=q) (b:=false) (a:=none) (n:=0) (c:=0) (d:=d + 1) oM) F ?_
   rintro v G' L' ⟨rfl,rfl⟩
   dsimp only [zA,fA]
   exact ⟨[_],[bL r sc q false none 0 0 (d + 1 - 1)],⟨av F F F F,trivial⟩,sB,Gh.le.refl _,cI (c:=⟨110,a8 m,0,none,0,0⟩) (bq dC dC) oM (fun _=>⟨F,F,F⟩) ⟨oM,fun _=>⟨F,hrd⟩,fun h=>(by cases h)⟩⟩
theorem ab4 {n r sc : Nat} {qs : List co} {s : ac1} {d : Int} (hd : d = 12 - (n : Int)) (hn : n ≤ 12) (hr : aT (ag qs) [102] = none) (hs : s.length ≤ 1000) :
  dw ac0 93 [Pt r 0,Ag (cS [102])] G [bL r sc s false none 0 0 d] (kz (rb (ag qs) (n + 1) [102]) r sc s false d):=by
 have cx_sign:=@di G [102] []
 have hrd:=z9 (ts:=ag qs) (n:=n) (s:=s) hr
 show dw ac0 93 [Pt r 0,Ag [S [],S [102],S []]] G [bL r sc s false none 0 0 d] _
 cases hf : cx s with
 | none =>
  rw [hf] at hrd
  have cx_fl:=sG (G:=G) (r:=r) (sc:=sc) (n:=0) (c:=0) (s:=s) (b:=false) (a:=none) (d:=d + 1) (.inr hf) oM
  refine cr [(0,_),(1,_)] Tryz.func93 kR Tryz.ntmps93 F F tU fun B hok hB hW=>?_
  repeat' (first | refine jM ?_ | (refine jo ?_;first | refine jO fun _=>?_ | refine jL fun _=>?_ | refine ak F ?_ | refine jD F F F ?_ | refine jV (df F F) ?_))
  rename_i x2 x3 x4
  refine jo ?_
  refine ct (fi:=[]) (ca:=[Pt x2 0]) (az:=[]) F F ?_
  repeat' (first | refine jR ?_ | (refine jo ?_;first | refine ak F ?_ | refine aN F ?_ | refine jC F F F ?_ | refine jV (an F F) ?_ | refine ab F F F cx_sign F ?_ | (refine aq F F F cx_fl F ?_;rintro _ _ ⟨q1,⟨rfl,hql⟩,rfl⟩;dsimp only [zA,fA])) | refine ac F F ?_ | (refine ad F (by first | rfl | (refine decide_eq_false ?_;(omega))) ?_))
  all_goals
   refine da (.inl F) F (cK (x0:=x2) (r:=r) (sc:=sc) (s:=q1) (b:=true) (a:=none) (n:=0) (c:=0) (d:=d + 1) oM) F ?_
   rintro v G' L' ⟨rfl,rfl⟩
   dsimp only [zA,fA]
   exact ⟨[_],[bL r sc q1 true none 0 0 (d + 1 - 1)],⟨av F F F F,trivial⟩,sB,Gh.le.refl _,cI (c:=⟨102,[110,111],0,none,0,0⟩) (bq dC dC) oM (fun _=>⟨F,F,F⟩) ⟨hql,fun h=>(by cases h),fun _=>.inr hrd⟩⟩
 | some y =>
  obtain ⟨x,q⟩:=y
  rw [hf] at hrd
  have hin:=fc hf
  have hl : s.length = q.length + 1:=by rw [hin];rfl
  have cx_fl:=sF (G:=G) (r:=r) (sc:=sc) (n:=0) (c:=0) (s:=s) (q:=q) (x:=x) (a:=none) (d:=d + 1) hf oM
  cases x with
  | false =>
   refine cr [(0,_),(1,_)] Tryz.func93 kR Tryz.ntmps93 F F tU fun B hok hB hW=>?_
   repeat' (first | refine jM ?_ | (refine jo ?_;first | refine jO fun _=>?_ | refine jL fun _=>?_ | refine ak F ?_ | refine jD F F F ?_ | refine jV (df F F) ?_))
   rename_i x2 x3 x4
   refine jo ?_
   refine ct (fi:=[]) (ca:=[Pt x2 0]) (az:=[]) F F ?_
   repeat' (first | refine jR ?_ | (refine jo ?_;first | refine ak F ?_ | refine aN F ?_ | refine jC F F F ?_ | refine jV (an F F) ?_ | refine ab F F F cx_sign F ?_ | (refine aq F F F cx_fl F ?_;rintro _ _ ⟨rfl,rfl⟩;dsimp only [zA,fA])) | refine ac F F ?_ | (refine ad F (by first | rfl | (refine decide_eq_false ?_;(omega))) ?_))
   all_goals
    refine da (.inl F) F (cK (x0:=x2) (r:=r) (sc:=sc) (s:=q) (b:=false) (a:=none) (n:=0) (c:=0) (d:=d + 1) oM) F ?_
    rintro v G' L' ⟨rfl,rfl⟩
    dsimp only [zA,fA]
    exact ⟨[_],[bL r sc q false none 0 0 (d + 1 - 1)],⟨av F F F F,trivial⟩,sB,Gh.le.refl _,cI (c:=⟨102,[110,111],0,none,0,0⟩) (bq dC dC) oM (fun _=>⟨F,F,F⟩) ⟨oM,fun _=>⟨F,hrd⟩,fun h=>(by cases h)⟩⟩
  | true =>
   refine cr [(0,_),(1,_)] Tryz.func93 kR Tryz.ntmps93 F F tU fun B hok hB hW=>?_
   repeat' (first | refine jM ?_ | (refine jo ?_;first | refine jO fun _=>?_ | refine jL fun _=>?_ | refine ak F ?_ | refine jD F F F ?_ | refine jV (df F F) ?_))
   rename_i x2 x3 x4
   refine jo ?_
   refine ct (fi:=[]) (ca:=[Pt x2 0]) (az:=[]) F F ?_
   repeat' (first | refine jR ?_ | (refine jo ?_;first | refine ak F ?_ | refine aN F ?_ | refine jC F F F ?_ | refine jV (an F F) ?_ | refine ab F F F cx_sign F ?_ | (refine aq F F F cx_fl F ?_;rintro _ _ ⟨rfl,rfl⟩;dsimp only [zA,fA])) | refine ac F F ?_ | (refine ad F (by first | rfl | (refine decide_eq_false ?_;(omega))) ?_))
   all_goals
    refine da (.inl F) F (cK (x0:=x2) (r:=r) (sc:=sc) (s:=q) (b:=false) (a:=none) (n:=0) (c:=0) (d:=d + 1) oM) F ?_
    rintro v G' L' ⟨rfl,rfl⟩
    dsimp only [zA,fA]
    exact ⟨[_],[bL r sc q false none 0 0 (d + 1 - 1)],⟨av F F F F,trivial⟩,sB,Gh.le.refl _,cI (c:=⟨102,[121,101,115],0,none,0,0⟩) (bq dC dC) oM (fun _=>⟨F,F,F⟩) ⟨oM,fun _=>⟨F,hrd⟩,fun h=>(by cases h)⟩⟩
theorem gW {s : ac1} : (bm s = none ∧ cg s = none) ∨ ∃ (m : Nat) (q : ac1),bm s = some ((m : Int),q) ∧ m ≤ 999999 ∧ ((q.length < m ∧ cg s = none) ∨ (m ≤ q.length ∧ cg s = some (q.take m,q.drop m))):=by
 cases h : bm s with
 | none=>exact .inl ⟨F,by unfold cg;rw [h]⟩
 | some z =>
  obtain ⟨n,q⟩:=z
  obtain ⟨h0,h1,_⟩:=cF h
  obtain ⟨m,rfl⟩ : ∃ m : Nat,n = (m : Int):=⟨n.toNat,oM⟩
  refine .inr ⟨m,q,F,oM,?_⟩
  by_cases hl : m ≤ q.length
  ·exact .inr ⟨hl,by unfold cg;rw [h];dsimp only;rw [Int.toNat_natCast,if_pos hl]⟩
  ·exact .inl ⟨oM,by unfold cg;rw [h];dsimp only;rw [Int.toNat_natCast,if_neg hl]⟩
theorem abZ {n r sc : Nat} {qs : List co} {s : ac1} {d : Int} (hd : d = 12 - (n : Int)) (hn : n ≤ 12) (hr : aT (ag qs) [116] = none) (hs : s.length ≤ 1000) :
  dw ac0 93 [Pt r 0,Ag (cS [116])] G [bL r sc s false none 0 0 d] (kz (rb (ag qs) (n + 1) [116]) r sc s false d):=by
 have cx_sign:=@di G [116] []
 have hrd:=z6 (ts:=ag qs) (n:=n) (s:=s) hr
 show dw ac0 93 [Pt r 0,Ag [S [],S [116],S []]] G [bL r sc s false none 0 0 d] _
 rcases gW (s:=s) with ⟨hg,ht⟩ | ⟨m,q,hg,hm,⟨hl,ht⟩ | ⟨hl,ht⟩⟩
 ·rw [ht] at hrd
  dsimp only at hrd
  have cx_nb:=f9 (G:=G) (r:=r) (sc:=sc) (m:=0) (c:=0) (b:=false) (a:=none) (d:=d + 1) hg hs
  have cx_tkb:=fR (G:=G) (r:=r) (sc:=sc) (m:=0) (n:=0) (c:=0) (s:=[]) (b:=true) (a:=none) (d:=d + 1) (.inl rfl) ⟨by simp,oM⟩
  have cx_tkb : c8 ac0 45 [Pt r 0,I 0] G [bL r sc [] true none 0 0 (d + 1)] (fun v L'=>v = S [] ∧ L' = [bL r sc [] true none 0 0 (d + 1)]):=cx_tkb
  refine cr [(0,_),(1,_)] Tryz.func93 kR Tryz.ntmps93 F F tU fun B hok hB hW=>?_
  repeat' (first | refine jM ?_ | (refine jo ?_;first | refine jO fun _=>?_ | refine jL fun _=>?_ | refine ak F ?_ | refine jD F F F ?_ | refine jV (df F F) ?_))
  rename_i x2 x3 x4
  refine jo ?_
  refine ct (fi:=[]) (ca:=[Pt x2 0]) (az:=[]) F F ?_
  repeat' (first | refine jR ?_ | (refine jo ?_;first | refine ak F ?_ | refine aN F ?_ | refine ab F F F cx_sign F ?_) | refine ac F F ?_ | (refine ad F (by first | rfl | (refine decide_eq_false ?_;(omega))) ?_))
  (refine ai (am (id:=26) [.blk x2 (.cells (List.toArray [Pt r 0]) fI (0,0))] (by intro y hy;simp only [List.mem_cons,List.not_mem_nil,or_false] at hy ⊢;simp [hy]) ah ?_);(refine jG (aa 5 1) 0 F (aD F F F) ?_);(refine jG (aa 5 3) 1 F (aD F F F) ?_);refine jA 2 F ?_;(refine aq F F F cx_nb F ?_;rintro _ _ ⟨rfl,rfl⟩;dsimp only [zA,fA]);refine jK (aa 5 7) ?_;refine jA 3 F ?_;(refine aq F F F cx_tkb F ?_;rintro _ _ ⟨rfl,rfl⟩;dsimp only [zA,fA]);refine jK (aa 5 15) ?_;refine jW 0 [4] (aa 5 31) ?_;refine jQ ?_)
  all_goals repeat' (first | refine jR ?_ | (refine jo ?_;first | refine jC F F F ?_ | refine jV (an F F) ?_ | (refine ab F F F (jU ?_) F ?_;(focus ((simp;done);done)))) | refine ad F F ?_)
  all_goals
   refine da (.inl F) F (cK (x0:=x2) (r:=r) (sc:=sc) (s:=[]) (b:=true) (a:=none) (n:=0) (c:=0) (d:=d + 1) oM) F ?_
   rintro v G' L' ⟨rfl,rfl⟩
   dsimp only [zA,fA]
   exact ⟨[_],[bL r sc [] true none 0 0 (d + 1 - 1)],⟨av F F F F,trivial⟩,sB,Gh.le.refl _,cI (c:=⟨116,[],0,none,0,0⟩) (bq dC dC) oM (fun _=>⟨F,F,F⟩) ⟨by simp,fun h=>(by cases h),fun _=>.inr hrd⟩⟩
 ·rw [ht] at hrd
  dsimp only at hrd
  have hql:=bU hg
  have cx_nb:=eA (G:=G) (r:=r) (sc:=sc) (m:=0) (c:=0) (b:=false) (a:=none) (d:=d + 1) hg hs
  have cx_tkb:=fR (G:=G) (r:=r) (sc:=sc) (m:=m) (n:=0) (c:=0) (s:=q) (b:=false) (a:=none) (d:=d + 1) (.inr hl) ⟨oM,oM⟩
  refine cr [(0,_),(1,_)] Tryz.func93 kR Tryz.ntmps93 F F tU fun B hok hB hW=>?_
  repeat' (first | refine jM ?_ | (refine jo ?_;first | refine jO fun _=>?_ | refine jL fun _=>?_ | refine ak F ?_ | refine jD F F F ?_ | refine jV (df F F) ?_))
  rename_i x2 x3 x4
  refine jo ?_
  refine ct (fi:=[]) (ca:=[Pt x2 0]) (az:=[]) F F ?_
  repeat' (first | refine jR ?_ | (refine jo ?_;first | refine ak F ?_ | refine aN F ?_ | refine ab F F F cx_sign F ?_) | refine ac F F ?_ | (refine ad F (by first | rfl | (refine decide_eq_false ?_;(omega))) ?_))
  (refine ai (am (id:=26) [.blk x2 (.cells (List.toArray [Pt r 0]) fI (0,0))] (by intro y hy;simp only [List.mem_cons,List.not_mem_nil,or_false] at hy ⊢;simp [hy]) ah ?_);(refine jG (aa 5 1) 0 F (aD F F F) ?_);(refine jG (aa 5 3) 1 F (aD F F F) ?_);refine jA 2 F ?_;(refine aq F F F cx_nb F ?_;rintro _ _ ⟨rfl,rfl⟩;dsimp only [zA,fA]);refine jK (aa 5 7) ?_;refine jA 3 F ?_;(refine aq F F F cx_tkb F ?_;rintro _ _ ⟨rfl,rfl⟩;dsimp only [zA,fA]);refine jK (aa 5 15) ?_;refine jW 0 [4] (aa 5 31) ?_;refine jQ ?_)
  all_goals repeat' (first | refine jR ?_ | (refine jo ?_;first | refine jC F F F ?_ | refine jV (an F F) ?_ | (refine ab F F F (jU ?_) F ?_;(focus ((simp;done);done)))) | refine ad F F ?_)
  all_goals
   refine da (.inl F) F (cK (x0:=x2) (r:=r) (sc:=sc) (s:=q) (b:=true) (a:=none) (n:=0) (c:=0) (d:=d + 1) oM) F ?_
   rintro v G' L' ⟨rfl,rfl⟩
   dsimp only [zA,fA]
   exact ⟨[_],[bL r sc q true none 0 0 (d + 1 - 1)],⟨av F F F F,trivial⟩,sB,Gh.le.refl _,cI (c:=⟨116,[],0,none,0,0⟩) (bq dC dC) oM (fun _=>⟨F,F,F⟩) ⟨oM,fun h=>(by cases h),fun _=>.inr hrd⟩⟩
 ·rw [ht] at hrd
  dsimp only at hrd
  rw [abt] at hrd
  have hql:=bU hg
  have hdl : (q.drop m).length = q.length - m:=List.length_drop
  have htl : (q.take m).length ≤ 1000:=by rw [List.length_take];omega
  have cx_nb:=eA (G:=G) (r:=r) (sc:=sc) (m:=0) (c:=0) (b:=false) (a:=none) (d:=d + 1) hg hs
  have cx_tkb:=jP (G:=G) (r:=r) (sc:=sc) (m:=m) (n:=0) (c:=0) (s:=q) (a:=none) (d:=d + 1) ⟨hl,oM⟩
  cases hti : mH (q.take m) with
  | true =>
   rw [hti] at hrd
   rw [if_pos rfl] at hrd
   refine cr [(0,_),(1,_)] Tryz.func93 kR Tryz.ntmps93 F F tU fun B hok hB hW=>?_
   repeat' (first | refine jM ?_ | (refine jo ?_;first | refine jO fun _=>?_ | refine jL fun _=>?_ | refine ak F ?_ | refine jD F F F ?_ | refine jV (df F F) ?_))
   rename_i x2 x3 x4
   refine jo ?_
   refine ct (fi:=[]) (ca:=[Pt x2 0]) (az:=[]) F F ?_
   repeat' (first | refine jR ?_ | (refine jo ?_;first | refine ak F ?_ | refine aN F ?_ | refine ab F F F cx_sign F ?_) | refine ac F F ?_ | (refine ad F (by first | rfl | (refine decide_eq_false ?_;(omega))) ?_))
   (refine ai (am (id:=26) [.blk x2 (.cells (List.toArray [Pt r 0]) fI (0,0))] (by intro y hy;simp only [List.mem_cons,List.not_mem_nil,or_false] at hy ⊢;simp [hy]) ah ?_);(refine jG (aa 5 1) 0 F (aD F F F) ?_);(refine jG (aa 5 3) 1 F (aD F F F) ?_);refine jA 2 F ?_;(refine aq F F F cx_nb F ?_;rintro _ _ ⟨rfl,rfl⟩;dsimp only [zA,fA]);refine jK (aa 5 7) ?_;refine jA 3 F ?_;(refine aq F F F cx_tkb F ?_;rintro _ _ ⟨rfl,rfl⟩;dsimp only [zA,fA]);refine jK (aa 5 15) ?_;refine jW 0 [4] (aa 5 31) ?_;refine jQ ?_)
   all_goals repeat' (first | refine jR ?_ | (refine jo ?_;first | refine jC F F F ?_ | refine jV (an F F) ?_ | refine ab F F F (jU oM) F ?_) | (refine ad F ?_ ?_;(focus ((simp [*];done);done))))
   all_goals
    refine da (.inl F) F (cK (x0:=x2) (r:=r) (sc:=sc) (s:=(q.drop m)) (b:=false) (a:=none) (n:=0) (c:=0) (d:=d + 1) oM) F ?_
    rintro v G' L' ⟨rfl,rfl⟩
    dsimp only [zA,fA]
    exact ⟨[_],[bL r sc (q.drop m) false none 0 0 (d + 1 - 1)],⟨av F F F F,trivial⟩,sB,Gh.le.refl _,cI (c:=⟨116,q.take m,0,none,0,0⟩) (bq dC dC) oM (fun _=>⟨F,F,F⟩) ⟨oM,fun _=>⟨F,hrd⟩,fun h=>(by cases h)⟩⟩
  | false =>
   rw [hti] at hrd
   rw [if_neg (by simp)] at hrd
   refine cr [(0,_),(1,_)] Tryz.func93 kR Tryz.ntmps93 F F tU fun B hok hB hW=>?_
   repeat' (first | refine jM ?_ | (refine jo ?_;first | refine jO fun _=>?_ | refine jL fun _=>?_ | refine ak F ?_ | refine jD F F F ?_ | refine jV (df F F) ?_))
   rename_i x2 x3 x4
   refine jo ?_
   refine ct (fi:=[]) (ca:=[Pt x2 0]) (az:=[]) F F ?_
   repeat' (first | refine jR ?_ | (refine jo ?_;first | refine ak F ?_ | refine aN F ?_ | refine ab F F F cx_sign F ?_) | refine ac F F ?_ | (refine ad F (by first | rfl | (refine decide_eq_false ?_;(omega))) ?_))
   (refine ai (am (id:=26) [.blk x2 (.cells (List.toArray [Pt r 0]) fI (0,0))] (by intro y hy;simp only [List.mem_cons,List.not_mem_nil,or_false] at hy ⊢;simp [hy]) ah ?_);(refine jG (aa 5 1) 0 F (aD F F F) ?_);(refine jG (aa 5 3) 1 F (aD F F F) ?_);refine jA 2 F ?_;(refine aq F F F cx_nb F ?_;rintro _ _ ⟨rfl,rfl⟩;dsimp only [zA,fA]);refine jK (aa 5 7) ?_;refine jA 3 F ?_;(refine aq F F F cx_tkb F ?_;rintro _ _ ⟨rfl,rfl⟩;dsimp only [zA,fA]);refine jK (aa 5 15) ?_;refine jW 0 [4] (aa 5 31) ?_;refine jQ ?_)
   all_goals repeat' (first | refine jR ?_ | (refine jo ?_;first | refine ak F ?_ | refine jD F F F ?_ | refine jC F F F ?_ | refine jV (an F F) ?_ | refine ab F F F (jU oM) F ?_) | (refine ac F ?_ ?_;(focus ((simp [*];done);done))))
   all_goals
    refine da (.inl F) F (cK (x0:=x2) (r:=r) (sc:=sc) (s:=(q.drop m)) (b:=true) (a:=none) (n:=0) (c:=0) (d:=d + 1) oM) F ?_
    rintro v G' L' ⟨rfl,rfl⟩
    dsimp only [zA,fA]
    exact ⟨[_],[bL r sc (q.drop m) true none 0 0 (d + 1 - 1)],⟨av F F F F,trivial⟩,sB,Gh.le.refl _,cI (c:=⟨116,q.take m,0,none,0,0⟩) (bq dC dC) oM (fun _=>⟨F,F,F⟩) ⟨oM,fun h=>(by cases h),fun _=>.inr hrd⟩⟩
theorem lW {p : Nat} {t : Ty} {m : Int} (hT : iI G p t) (hw : TyW t) (hm : 0 ≤ m ∧ m ≤ 999999) : aC ac0 126 [Pt p 0,I m] G (fun v=>∃ q,v = .pointer q):=by
 have hfl:=hw.len
 cases hft : br t.fields m with
 | none =>
  obtain ⟨fv,ln,h1,h2⟩:=hT
  exact (dV h1 h2 oM hft).mono fun v G' L' h=>⟨h.1,h.2.1,_,h.2.2⟩
 | some f =>
  obtain ⟨fv,ln,h1,h2⟩:=hT
  obtain ⟨j,hj,hjn,hjt,hjd⟩:=d9 hft
  obtain ⟨bf,of,cf,rfl,hsf⟩:=h2.expl oM
  exact (eG h1 hsf oM hj hjn hjt).mono fun v G' L' h=>⟨h.1,h.2.1,_,h.2.2⟩
theorem ab5 {n r sc p : Nat} {qs : List co} {t : Ty} {x s : ac1} {d : Int} (hd : d = 12 - (n : Int)) (hn : n ≤ 12) (hS : ScI G sc qs) (hkv : l6 (gX qs) x = some (Pt p 0)) (hT : iI G p t) (hw : TyW t) (hso : t.sort = 69) (hs : s.length ≤ 1000) :
  dw ac0 93 [Pt r 0,Ag [S [],S [64],S x]] G [bL r sc s false none 0 0 d] (kz (bT (ag qs) (rb (ag qs) n) t) r sc s false d):=by
 obtain ⟨u,m,g1,g2,g3⟩:=hS.at'
 obtain ⟨fv,ln,h1,h2⟩:=hT
 have hfl:=hw.len
 have hso' : (t.sort : Int) = 69:=oM
 have cx_sign:=@di G [64] x
 have hrd : bT (ag qs) (rb (ag qs) n) t s = match bm s with
   | none=>none
   | some (m,r)=>match br t.fields m with
    | none=>none
    | some d=>some (.nd 69 [] d.tag [],r):=by
  unfold bT
  rw [if_neg oM]
  rcases bm s with _ | ⟨m,r⟩
  ·rfl
  ·dsimp only
   rcases br t.fields m with _ | d
   ·rfl
   ·dsimp only;rw [if_pos hso]
 cases hg : bm s with
 | none =>
  rw [hg] at hrd
  have cx_nb:=f9 (G:=G) (r:=r) (sc:=sc) (m:=0) (c:=0) (b:=false) (a:=none) (d:=d + 1) hg hs
  have cx_fld:=dV h1 h2 oM (kl hw)
  refine cr [(0,_),(1,_)] Tryz.func93 kR Tryz.ntmps93 F F tU fun B hok hB hW=>?_
  repeat' (first | refine jM ?_ | (refine jo ?_;first | refine jO fun _=>?_ | refine jL fun _=>?_ | refine ak F ?_ | refine jD F F F ?_ | refine jV (df F F) ?_))
  rename_i x2 x3 x4
  refine jo ?_
  refine ct (fi:=[]) (ca:=[Pt x2 0]) (az:=[]) F F ?_
  repeat' (first | refine jR ?_ | (refine jo ?_;first | refine jL fun _=>?_ | refine ak F ?_ | refine aN F ?_ | refine jV (ao F F aS F F) ?_ | refine jD F F F ?_ | refine jC F F F ?_ | refine jV (an F F) ?_ | refine jV (b8 F F) ?_ | refine ab F F F cx_sign F ?_ | (refine aq F F F cx_nb F ?_;rintro _ _ ⟨rfl,rfl⟩;dsimp only [zA,fA]) | refine ab F F F cx_fld F ?_) | (refine ac F (by first | rfl | (refine decide_eq_true ?_;(assumption))) ?_) | (refine ad F (by first | rfl | (refine decide_eq_false ?_;(omega))) ?_) | (refine ai (am (id:=34) _ (fun _ h=>h) ah ?_);refine jT 10 [7] (aa 11 128) ?_;(refine jG (aa 11 129) 0 F (aD F F F) ?_);refine jT 7 [1,2] (aa 11 135) ?_;(refine jG (aa 11 143) 3 F (aD F F F) ?_);refine jT 4 [4,5] (aa 11 191) ?_;(refine jG (aa 11 255) 6 F (ao F F aS F F) ?_);(refine jG (aa 11 511) 8 F (aD F F F) ?_);((refine jG (aa 11 1023) 9 F (bY F F (dO aS) aS F) ?_));refine jT 0 [10] (aa 11 2047) ?_;refine jQ ?_))
  all_goals
   refine da (.inl F) F (cK (x0:=x2) (r:=r) (sc:=sc) (s:=[]) (b:=true) (a:=none) (n:=0) (c:=0) (d:=d + 1) oM) F ?_
   rintro v G' L' ⟨rfl,rfl⟩
   dsimp only [zA,fA]
   exact ⟨[_],[bL r sc [] true none 0 0 (d + 1 - 1)],⟨av F F F F,trivial⟩,sB,Gh.le.refl _,cI (c:=⟨69,[],0,none,0,0⟩) (bq dC dC) oM (fun _=>⟨F,F,F⟩) ⟨by simp,fun h=>(by cases h),fun _=>.inr hrd⟩⟩
 | some z =>
  obtain ⟨m,q⟩:=z
  obtain ⟨hm0,hm1,_⟩:=cF hg
  have hl:=bU hg
  rw [hg] at hrd
  dsimp only at hrd
  have cx_nb:=eA (G:=G) (r:=r) (sc:=sc) (m:=0) (c:=0) (b:=false) (a:=none) (d:=d + 1) hg hs
  cases hft : br t.fields m with
  | none =>
   rw [hft] at hrd
   have cx_fld:=dV h1 h2 oM hft
   refine cr [(0,_),(1,_)] Tryz.func93 kR Tryz.ntmps93 F F tU fun B hok hB hW=>?_
   repeat' (first | refine jM ?_ | (refine jo ?_;first | refine jO fun _=>?_ | refine jL fun _=>?_ | refine ak F ?_ | refine jD F F F ?_ | refine jV (df F F) ?_))
   rename_i x2 x3 x4
   refine jo ?_
   refine ct (fi:=[]) (ca:=[Pt x2 0]) (az:=[]) F F ?_
   repeat' (first | refine jR ?_ | (refine jo ?_;first | refine jL fun _=>?_ | refine ak F ?_ | refine aN F ?_ | refine jV (ao F F aS F F) ?_ | refine jD F F F ?_ | refine jC F F F ?_ | refine jV (an F F) ?_ | refine jV (b8 F F) ?_ | refine ab F F F cx_sign F ?_ | (refine aq F F F cx_nb F ?_;rintro _ _ ⟨rfl,rfl⟩;dsimp only [zA,fA]) | refine ab F F F cx_fld F ?_) | (refine ac F (by first | rfl | (refine decide_eq_true ?_;(assumption))) ?_) | (refine ad F (by first | rfl | (refine decide_eq_false ?_;(omega))) ?_) | (refine ai (am (id:=34) _ (fun _ h=>h) ah ?_);refine jT 10 [7] (aa 11 128) ?_;(refine jG (aa 11 129) 0 F (aD F F F) ?_);refine jT 7 [1,2] (aa 11 135) ?_;(refine jG (aa 11 143) 3 F (aD F F F) ?_);refine jT 4 [4,5] (aa 11 191) ?_;(refine jG (aa 11 255) 6 F (ao F F aS F F) ?_);(refine jG (aa 11 511) 8 F (aD F F F) ?_);((refine jG (aa 11 1023) 9 F (bY F F (dO aS) aS F) ?_));refine jT 0 [10] (aa 11 2047) ?_;refine jQ ?_))
   all_goals
    refine da (.inl F) F (cK (x0:=x2) (r:=r) (sc:=sc) (s:=q) (b:=true) (a:=none) (n:=0) (c:=0) (d:=d + 1) oM) F ?_
    rintro v G' L' ⟨rfl,rfl⟩
    dsimp only [zA,fA]
    exact ⟨[_],[bL r sc q true none 0 0 (d + 1 - 1)],⟨av F F F F,trivial⟩,sB,Gh.le.refl _,cI (c:=⟨69,[],m,none,0,0⟩) (bq dC oM) oM (fun _=>⟨F,F,F⟩) ⟨oM,fun h=>(by cases h),fun _=>.inr hrd⟩⟩
  | some f =>
   rw [hft] at hrd
   obtain ⟨j,hj,hjn,hjt,hjd⟩:=d9 hft
   obtain ⟨bf,of,cf,rfl,hsf⟩:=h2.expl oM
   have cx_fld:=eG h1 hsf oM hj hjn hjt
   have hft2 : f.tag = m:=by rw [← hjd];exact hjt
   dsimp only at hrd
   rw [hft2] at hrd
   refine cr [(0,_),(1,_)] Tryz.func93 kR Tryz.ntmps93 F F tU fun B hok hB hW=>?_
   repeat' (first | refine jM ?_ | (refine jo ?_;first | refine jO fun _=>?_ | refine jL fun _=>?_ | refine ak F ?_ | refine jD F F F ?_ | refine jV (df F F) ?_))
   rename_i x2 x3 x4
   refine jo ?_
   refine ct (fi:=[]) (ca:=[Pt x2 0]) (az:=[]) F F ?_
   repeat' (first | refine jR ?_ | (refine jo ?_;first | refine jL fun _=>?_ | refine ak F ?_ | refine aN F ?_ | refine jV (ao F F aS F F) ?_ | refine jC F F F ?_ | refine jV (an F F) ?_ | refine jV (b8 F F) ?_ | refine ab F F F cx_sign F ?_ | (refine aq F F F cx_nb F ?_;rintro _ _ ⟨rfl,rfl⟩;dsimp only [zA,fA]) | refine ab F F F cx_fld F ?_) | refine ac F (ar ‹_›) ?_ | (refine ad F (by first | rfl | (refine decide_eq_false ?_;(omega))) ?_) | (refine ai (am (id:=34) _ (fun _ h=>h) ah ?_);refine jT 10 [7] (aa 11 128) ?_;(refine jG (aa 11 129) 0 F (aD F F F) ?_);refine jT 7 [1,2] (aa 11 135) ?_;(refine jG (aa 11 143) 3 F (aD F F F) ?_);refine jT 4 [4,5] (aa 11 191) ?_;(refine jG (aa 11 255) 6 F (ao F F aS F F) ?_);(refine jG (aa 11 511) 8 F (aD F F F) ?_);((refine jG (aa 11 1023) 9 F (bY F F (dO aS) aS F) ?_));refine jT 0 [10] (aa 11 2047) ?_;refine jQ ?_))
   all_goals
    refine da (.inl F) F (cK (x0:=x2) (r:=r) (sc:=sc) (s:=q) (b:=false) (a:=none) (n:=0) (c:=0) (d:=d + 1) oM) F ?_
    rintro v G' L' ⟨rfl,rfl⟩
    dsimp only [zA,fA]
    exact ⟨[_],[bL r sc q false none 0 0 (d + 1 - 1)],⟨av F F F F,trivial⟩,sB,Gh.le.refl _,cI (c:=⟨69,[],m,none,0,0⟩) (bq dC oM) oM (fun _=>⟨F,F,F⟩) ⟨oM,fun _=>⟨F,hrd⟩,fun h=>(by cases h)⟩⟩
theorem vU {n r sc p : Nat} {qs : List co} {t : Ty} {x s q : ac1} {m : Int} {d : Int} (hd : d = 12 - (n : Int)) (hn : n ≤ 12) (hS : ScI G sc qs) (hkv : l6 (gX qs) x = some (Pt p 0)) (hT : iI G p t) (hw : TyW t) (hso : t.sort = 85) (hs : s.length ≤ 1000) (hg : bm s = some (m,q)) (ht : cg q = none) (hrd : bT (ag qs) (rb (ag qs) n) t s = none) :
  dw ac0 93 [Pt r 0,Ag [S [],S [64],S x]] G [bL r sc s false none 0 0 d] (kz (bT (ag qs) (rb (ag qs) n) t) r sc s false d):=by
 obtain ⟨u,m2,g1,g2,g3⟩:=hS.at'
 have hso' : (t.sort : Int) = 85:=oM
 have cx_sign:=@di G [64] x
 obtain ⟨hm0,hm1,_⟩:=cF hg
 have hl:=bU hg
 have cx_nb:=eA (G:=G) (r:=r) (sc:=sc) (m:=0) (c:=0) (b:=false) (a:=none) (d:=d + 1) hg hs
 have cx_fldg:=lW hT hw ⟨hm0,hm1⟩
 obtain ⟨fv,ln,h1,h2⟩:=hT
 rcases gW (s:=q) with ⟨hg2,ht2⟩ | ⟨m3,q2,hg2,hm,⟨hl3,ht2⟩ | ⟨hl3,ht2⟩⟩
 ·have cx_nb2:=f9 (G:=G) (r:=r) (sc:=sc) (m:=0) (c:=0) (b:=false) (a:=none) (d:=d + 1) hg2 oM
  have cx_tkb:=fR (G:=G) (r:=r) (sc:=sc) (m:=0) (n:=0) (c:=0) (s:=[]) (b:=true) (a:=none) (d:=d + 1) (.inl rfl) ⟨by simp,oM⟩
  have cx_tkb : c8 ac0 45 [Pt r 0,I 0] G [bL r sc [] true none 0 0 (d + 1)] (fun v L'=>v = S [] ∧ L' = [bL r sc [] true none 0 0 (d + 1)]):=cx_tkb
  refine cr [(0,_),(1,_)] Tryz.func93 kR Tryz.ntmps93 F F tU fun B hok hB hW=>?_
  repeat' (first | refine jM ?_ | (refine jo ?_;first | refine jO fun _=>?_ | refine jL fun _=>?_ | refine ak F ?_ | refine jD F F F ?_ | refine jV (df F F) ?_))
  rename_i x2 x3 x4
  refine jo ?_
  refine ct (fi:=[]) (ca:=[Pt x2 0]) (az:=[]) F F ?_
  repeat' (first | refine jR ?_ | (refine jo ?_;first | refine ak F ?_ | refine aN F ?_ | refine ab F F F cx_sign F ?_) | (refine ad F (by first | rfl | (refine decide_eq_false ?_;(omega))) ?_))
  (refine ai (am (id:=34) _ (fun _ h=>h) ah ?_);refine jT 10 [7] (aa 11 128) ?_;(refine jG (aa 11 129) 0 F (aD F F F) ?_);refine jT 7 [1,2] (aa 11 135) ?_;(refine jG (aa 11 143) 3 F (aD F F F) ?_);refine jT 4 [4,5] (aa 11 191) ?_;(refine jG (aa 11 255) 6 F (ao F F aS F F) ?_);(refine jG (aa 11 511) 8 F (aD F F F) ?_);((refine jG (aa 11 1023) 9 F (bY F F (dO aS) aS F) ?_));refine jT 0 [10] (aa 11 2047) ?_;refine jQ ?_)
  all_goals repeat' (first | refine jR ?_ | (refine jo ?_;first | refine ak F ?_ | refine jV (ao F F aS F F) ?_ | (refine aq F F F cx_nb F ?_;rintro _ _ ⟨rfl,rfl⟩;dsimp only [zA,fA])) | refine ac F (ar ‹_›) ?_ | refine ad F (aA oM) ?_)
  (refine ai (am (id:=43) [.blk x2 (.cells (List.toArray [Pt r 0]) fI (0,0))] (by intro y hy;simp only [List.mem_cons,List.not_mem_nil,or_false] at hy ⊢;simp [hy]) ah ?_);(refine jG (aa 5 1) 0 F (aD F F F) ?_);(refine jG (aa 5 3) 1 F (aD F F F) ?_);refine jA 2 F ?_;(refine aq F F F cx_nb2 F ?_;rintro _ _ ⟨rfl,rfl⟩;dsimp only [zA,fA]);refine jK (aa 5 7) ?_;refine jA 3 F ?_;(refine aq F F F cx_tkb F ?_;rintro _ _ ⟨rfl,rfl⟩;dsimp only [zA,fA]);refine jK (aa 5 15) ?_;refine jW 0 [4] (aa 5 31) ?_;refine jQ ?_)
  repeat' (refine jR ?_)
  refine jo ?_
  refine cZ F F F cx_fldg F ?_
  rintro _ ⟨q9,rfl⟩
  cases q9
  all_goals repeat' (first | refine jR ?_ | (refine jo ?_;first | refine ak F ?_ | refine jD F F F ?_ | refine jC F F F ?_ | refine jV (an F F) ?_ | refine aH F ?_ | refine aw F ?_ | refine jV (b8 F F) ?_) | refine ax F F F ?_ | refine aj F F F ?_ | refine ac F F ?_)
  all_goals
   refine da (.inl F) F (cK (x0:=x2) (r:=r) (sc:=sc) (s:=[]) (b:=true) (a:=none) (n:=0) (c:=0) (d:=d + 1) oM) F ?_
   rintro v G' L' ⟨rfl,rfl⟩
   dsimp only [zA,fA]
   exact ⟨[_],[bL r sc [] true none 0 0 (d + 1 - 1)],⟨av F F F F,trivial⟩,sB,Gh.le.refl _,cI (c:=⟨0,[],0,none,0,0⟩) fJ oM (fun _=>⟨F,F,F⟩) ⟨by simp,fun h=>(by cases h),fun _=>.inr hrd⟩⟩
 ·have hl4:=bU hg2
  have cx_nb2:=eA (G:=G) (r:=r) (sc:=sc) (m:=0) (c:=0) (b:=false) (a:=none) (d:=d + 1) hg2 oM
  have cx_tkb:=fR (G:=G) (r:=r) (sc:=sc) (m:=m3) (n:=0) (c:=0) (s:=q2) (b:=false) (a:=none) (d:=d + 1) (.inr hl3) ⟨oM,oM⟩
  refine cr [(0,_),(1,_)] Tryz.func93 kR Tryz.ntmps93 F F tU fun B hok hB hW=>?_
  repeat' (first | refine jM ?_ | (refine jo ?_;first | refine jO fun _=>?_ | refine jL fun _=>?_ | refine ak F ?_ | refine jD F F F ?_ | refine jV (df F F) ?_))
  rename_i x2 x3 x4
  refine jo ?_
  refine ct (fi:=[]) (ca:=[Pt x2 0]) (az:=[]) F F ?_
  repeat' (first | refine jR ?_ | (refine jo ?_;first | refine ak F ?_ | refine aN F ?_ | refine ab F F F cx_sign F ?_) | (refine ad F (by first | rfl | (refine decide_eq_false ?_;(omega))) ?_))
  (refine ai (am (id:=34) _ (fun _ h=>h) ah ?_);refine jT 10 [7] (aa 11 128) ?_;(refine jG (aa 11 129) 0 F (aD F F F) ?_);refine jT 7 [1,2] (aa 11 135) ?_;(refine jG (aa 11 143) 3 F (aD F F F) ?_);refine jT 4 [4,5] (aa 11 191) ?_;(refine jG (aa 11 255) 6 F (ao F F aS F F) ?_);(refine jG (aa 11 511) 8 F (aD F F F) ?_);((refine jG (aa 11 1023) 9 F (bY F F (dO aS) aS F) ?_));refine jT 0 [10] (aa 11 2047) ?_;refine jQ ?_)
  all_goals repeat' (first | refine jR ?_ | (refine jo ?_;first | refine ak F ?_ | refine jV (ao F F aS F F) ?_ | (refine aq F F F cx_nb F ?_;rintro _ _ ⟨rfl,rfl⟩;dsimp only [zA,fA])) | refine ac F (ar ‹_›) ?_ | refine ad F (aA oM) ?_)
  (refine ai (am (id:=43) [.blk x2 (.cells (List.toArray [Pt r 0]) fI (0,0))] (by intro y hy;simp only [List.mem_cons,List.not_mem_nil,or_false] at hy ⊢;simp [hy]) ah ?_);(refine jG (aa 5 1) 0 F (aD F F F) ?_);(refine jG (aa 5 3) 1 F (aD F F F) ?_);refine jA 2 F ?_;(refine aq F F F cx_nb2 F ?_;rintro _ _ ⟨rfl,rfl⟩;dsimp only [zA,fA]);refine jK (aa 5 7) ?_;refine jA 3 F ?_;(refine aq F F F cx_tkb F ?_;rintro _ _ ⟨rfl,rfl⟩;dsimp only [zA,fA]);refine jK (aa 5 15) ?_;refine jW 0 [4] (aa 5 31) ?_;refine jQ ?_)
  repeat' (refine jR ?_)
  refine jo ?_
  refine cZ F F F cx_fldg F ?_
  rintro _ ⟨q9,rfl⟩
  cases q9
  all_goals repeat' (first | refine jR ?_ | (refine jo ?_;first | refine ak F ?_ | refine jD F F F ?_ | refine jC F F F ?_ | refine jV (an F F) ?_ | refine aH F ?_ | refine aw F ?_ | refine jV (b8 F F) ?_) | refine ax F F F ?_ | refine aj F F F ?_ | refine ac F F ?_)
  all_goals
   refine da (.inl F) F (cK (x0:=x2) (r:=r) (sc:=sc) (s:=q2) (b:=true) (a:=none) (n:=0) (c:=0) (d:=d + 1) oM) F ?_
   rintro v G' L' ⟨rfl,rfl⟩
   dsimp only [zA,fA]
   exact ⟨[_],[bL r sc q2 true none 0 0 (d + 1 - 1)],⟨av F F F F,trivial⟩,sB,Gh.le.refl _,cI (c:=⟨0,[],0,none,0,0⟩) fJ oM (fun _=>⟨F,F,F⟩) ⟨oM,fun h=>(by cases h),fun _=>.inr hrd⟩⟩
 ·rw [ht] at ht2;cases ht2
theorem abY {n r sc p : Nat} {qs : List co} {t : Ty} {x s : ac1} {d : Int} (hd : d = 12 - (n : Int)) (hn : n ≤ 12) (hU : rg n sc qs) (hS : ScI G sc qs) (hkv : l6 (gX qs) x = some (Pt p 0)) (hT : iI G p t) (hw : TyW t) (hkf : ∀ d ∈ t.fields,aE (ag qs) d.kind = true) (hso : t.sort = 85) (hs : s.length ≤ 1000) :
  dw ac0 93 [Pt r 0,Ag [S [],S [64],S x]] G [bL r sc s false none 0 0 d] (kz (bT (ag qs) (rb (ag qs) n) t) r sc s false d):=by
 obtain ⟨u,m2,g1,g2,g3⟩:=hS.at'
 have hT2:=hT
 obtain ⟨fv,ln,h1,h2⟩:=hT
 have hfl:=hw.len
 have hso' : (t.sort : Int) = 85:=oM
 have cx_sign:=@di G [64] x
 have hrd : bT (ag qs) (rb (ag qs) n) t s = match bm s with
   | none=>none
   | some (m,r)=>match br t.fields m with
    | none=>none
    | some d=>match cg r with
     | none=>none
     | some (p,r')=>(cN (rb (ag qs) n) d.kind p).map fun v=>(.nd 85 [] d.tag [v],r'):=by
  unfold bT
  rw [if_neg oM]
  rcases bm s with _ | ⟨m,r⟩
  ·rfl
  ·dsimp only
   rcases br t.fields m with _ | d
   ·rfl
   ·dsimp only;rw [if_neg oM]
    all_goals (rcases cg r with _ | ⟨p,r'⟩ <;> rfl)
 cases hg : bm s with
 | none =>
  rw [hg] at hrd
  have cx_nb:=f9 (G:=G) (r:=r) (sc:=sc) (m:=0) (c:=0) (b:=false) (a:=none) (d:=d + 1) hg hs
  have cx_nb2:=f9 (G:=G) (r:=r) (sc:=sc) (m:=0) (c:=0) (s:=[]) (b:=true) (a:=none) (d:=d + 1) rfl (by simp)
  have cx_tkb:=fR (G:=G) (r:=r) (sc:=sc) (m:=0) (n:=0) (c:=0) (s:=[]) (b:=true) (a:=none) (d:=d + 1) (.inl rfl) ⟨by simp,oM⟩
  have cx_tkb : c8 ac0 45 [Pt r 0,I 0] G [bL r sc [] true none 0 0 (d + 1)] (fun v L'=>v = S [] ∧ L' = [bL r sc [] true none 0 0 (d + 1)]):=cx_tkb
  have cx_fld:=dV h1 h2 oM (kl hw)
  refine cr [(0,_),(1,_)] Tryz.func93 kR Tryz.ntmps93 F F tU fun B hok hB hW=>?_
  repeat' (first | refine jM ?_ | (refine jo ?_;first | refine jO fun _=>?_ | refine jL fun _=>?_ | refine ak F ?_ | refine jD F F F ?_ | refine jV (df F F) ?_))
  rename_i x2 x3 x4
  refine jo ?_
  refine ct (fi:=[]) (ca:=[Pt x2 0]) (az:=[]) F F ?_
  repeat' (first | refine jR ?_ | (refine jo ?_;first | refine ak F ?_ | refine aN F ?_ | refine ab F F F cx_sign F ?_) | (refine ad F (by first | rfl | (refine decide_eq_false ?_;(omega))) ?_))
  (refine ai (am (id:=34) _ (fun _ h=>h) ah ?_);refine jT 10 [7] (aa 11 128) ?_;(refine jG (aa 11 129) 0 F (aD F F F) ?_);refine jT 7 [1,2] (aa 11 135) ?_;(refine jG (aa 11 143) 3 F (aD F F F) ?_);refine jT 4 [4,5] (aa 11 191) ?_;(refine jG (aa 11 255) 6 F (ao F F aS F F) ?_);(refine jG (aa 11 511) 8 F (aD F F F) ?_);((refine jG (aa 11 1023) 9 F (bY F F (dO aS) aS F) ?_));refine jT 0 [10] (aa 11 2047) ?_;refine jQ ?_)
  all_goals repeat' (first | refine jR ?_ | (refine jo ?_;first | refine ak F ?_ | refine jV (ao F F aS F F) ?_ | (refine aq F F F cx_nb F ?_;rintro _ _ ⟨rfl,rfl⟩;dsimp only [zA,fA])) | refine ac F (ar ‹_›) ?_ | refine ad F (aA oM) ?_)
  (refine ai (am (id:=43) [.blk x2 (.cells (List.toArray [Pt r 0]) fI (0,0))] (by intro y hy;simp only [List.mem_cons,List.not_mem_nil,or_false] at hy ⊢;simp [hy]) ah ?_);(refine jG (aa 5 1) 0 F (aD F F F) ?_);(refine jG (aa 5 3) 1 F (aD F F F) ?_);refine jA 2 F ?_;(refine aq F F F cx_nb2 F ?_;rintro _ _ ⟨rfl,rfl⟩;dsimp only [zA,fA]);refine jK (aa 5 7) ?_;refine jA 3 F ?_;(refine aq F F F cx_tkb F ?_;rintro _ _ ⟨rfl,rfl⟩;dsimp only [zA,fA]);refine jK (aa 5 15) ?_;refine jW 0 [4] (aa 5 31) ?_;refine jQ ?_)
  all_goals repeat' (first | refine jR ?_ | (refine jo ?_;first | refine ak F ?_ | refine jD F F F ?_ | refine jC F F F ?_ | refine jV (an F F) ?_ | refine aH F ?_ | refine jV (b8 F F) ?_ | refine ab F F F cx_fld F ?_) | refine ax F F F ?_ | refine ac F F ?_)
  all_goals
   refine da (.inl F) F (cK (x0:=x2) (r:=r) (sc:=sc) (s:=[]) (b:=true) (a:=none) (n:=0) (c:=0) (d:=d + 1) oM) F ?_
   rintro v G' L' ⟨rfl,rfl⟩
   dsimp only [zA,fA]
   exact ⟨[_],[bL r sc [] true none 0 0 (d + 1 - 1)],⟨av F F F F,trivial⟩,sB,Gh.le.refl _,cI (c:=⟨0,[],0,none,0,0⟩) fJ oM (fun _=>⟨F,F,F⟩) ⟨by simp,fun h=>(by cases h),fun _=>.inr hrd⟩⟩
 | some z =>
  obtain ⟨m,q⟩:=z
  obtain ⟨hm0,hm1,_⟩:=cF hg
  have hl:=bU hg
  rw [hg] at hrd
  dsimp only at hrd
  rcases gW (s:=q) with ⟨hg2,ht⟩ | ⟨m3,q2,hg2,hm,⟨hl3,ht⟩ | ⟨hl3,ht⟩⟩
  ·refine vU hd hn hS hkv hT2 hw hso hs hg ht ?_
   rw [hrd,ht]
   cases br t.fields m <;> rfl
  ·refine vU hd hn hS hkv hT2 hw hso hs hg ht ?_
   rw [hrd,ht]
   cases br t.fields m <;> rfl
  have hl4:=bU hg2
  have hdl : (q2.drop m3).length = q2.length - m3:=List.length_drop
  have htl : (q2.take m3).length ≤ 1000:=by rw [List.length_take];omega
  have cx_nb:=eA (G:=G) (r:=r) (sc:=sc) (m:=0) (c:=0) (b:=false) (a:=none) (d:=d + 1) hg hs
  have cx_nb2:=eA (G:=G) (r:=r) (sc:=sc) (m:=0) (c:=0) (b:=false) (a:=none) (d:=d + 1) hg2 oM
  have cx_tkb:=jP (G:=G) (r:=r) (sc:=sc) (m:=m3) (n:=0) (c:=0) (s:=q2) (a:=none) (d:=d + 1) ⟨hl3,oM⟩
  cases hft : br t.fields m with
  | none =>
   rw [hft] at hrd
   have cx_fld:=dV h1 h2 oM hft
   refine cr [(0,_),(1,_)] Tryz.func93 kR Tryz.ntmps93 F F tU fun B hok hB hW=>?_
   repeat' (first | refine jM ?_ | (refine jo ?_;first | refine jO fun _=>?_ | refine jL fun _=>?_ | refine ak F ?_ | refine jD F F F ?_ | refine jV (df F F) ?_))
   rename_i x2 x3 x4
   refine jo ?_
   refine ct (fi:=[]) (ca:=[Pt x2 0]) (az:=[]) F F ?_
   repeat' (first | refine jR ?_ | (refine jo ?_;first | refine ak F ?_ | refine aN F ?_ | refine ab F F F cx_sign F ?_) | (refine ad F (by first | rfl | (refine decide_eq_false ?_;(omega))) ?_))
   (refine ai (am (id:=34) _ (fun _ h=>h) ah ?_);refine jT 10 [7] (aa 11 128) ?_;(refine jG (aa 11 129) 0 F (aD F F F) ?_);refine jT 7 [1,2] (aa 11 135) ?_;(refine jG (aa 11 143) 3 F (aD F F F) ?_);refine jT 4 [4,5] (aa 11 191) ?_;(refine jG (aa 11 255) 6 F (ao F F aS F F) ?_);(refine jG (aa 11 511) 8 F (aD F F F) ?_);((refine jG (aa 11 1023) 9 F (bY F F (dO aS) aS F) ?_));refine jT 0 [10] (aa 11 2047) ?_;refine jQ ?_)
   all_goals repeat' (first | refine jR ?_ | (refine jo ?_;first | refine ak F ?_ | refine jV (ao F F aS F F) ?_ | (refine aq F F F cx_nb F ?_;rintro _ _ ⟨rfl,rfl⟩;dsimp only [zA,fA])) | refine ac F (ar ‹_›) ?_ | refine ad F (aA oM) ?_)
   (refine ai (am (id:=43) [.blk x2 (.cells (List.toArray [Pt r 0]) fI (0,0))] (by intro y hy;simp only [List.mem_cons,List.not_mem_nil,or_false] at hy ⊢;simp [hy]) ah ?_);(refine jG (aa 5 1) 0 F (aD F F F) ?_);(refine jG (aa 5 3) 1 F (aD F F F) ?_);refine jA 2 F ?_;(refine aq F F F cx_nb2 F ?_;rintro _ _ ⟨rfl,rfl⟩;dsimp only [zA,fA]);refine jK (aa 5 7) ?_;refine jA 3 F ?_;(refine aq F F F cx_tkb F ?_;rintro _ _ ⟨rfl,rfl⟩;dsimp only [zA,fA]);refine jK (aa 5 15) ?_;refine jW 0 [4] (aa 5 31) ?_;refine jQ ?_)
   all_goals repeat' (first | refine jR ?_ | (refine jo ?_;first | refine ak F ?_ | refine jD F F F ?_ | refine jC F F F ?_ | refine jV (an F F) ?_ | refine aH F ?_ | refine jV (b8 F F) ?_ | refine ab F F F cx_fld F ?_) | refine ax F F F ?_ | refine ac F F ?_)
   all_goals
    refine da (.inl F) F (cK (x0:=x2) (r:=r) (sc:=sc) (s:=(q2.drop m3)) (b:=true) (a:=none) (n:=0) (c:=0) (d:=d + 1) oM) F ?_
    rintro v G' L' ⟨rfl,rfl⟩
    dsimp only [zA,fA]
    exact ⟨[_],[bL r sc (q2.drop m3) true none 0 0 (d + 1 - 1)],⟨av F F F F,trivial⟩,sB,Gh.le.refl _,cI (c:=⟨0,[],0,none,0,0⟩) fJ oM (fun _=>⟨F,F,F⟩) ⟨oM,fun h=>(by cases h),fun _=>.inr hrd⟩⟩
  | some f =>
   rw [hft] at hrd
   obtain ⟨j,hj,hjn,hjt,hjd⟩:=d9 hft
   obtain ⟨bf,of,cf,rfl,hsf⟩:=h2.expl oM
   have cx_fld:=eG h1 hsf oM hj hjn hjt
   have hft2 : f.tag = m:=by rw [← hjd];exact hjt
   dsimp only at hrd
   rw [ht,hft2] at hrd
   dsimp only at hrd
   subst hjd
   have cx_prt:=tX (G:=G) (r:=r) (sc:=sc) (m:=0) (c:=0) (a:=none) (s:=q2.drop m3) (k:=(ae t.fields j).kind) (p:=q2.take m3) (d:=d + 1) oM oM hU hS (hkf _ (bB hj)) htl
   refine cr [(0,_),(1,_)] Tryz.func93 kR Tryz.ntmps93 F F tU fun B hok hB hW=>?_
   repeat' (first | refine jM ?_ | (refine jo ?_;first | refine jO fun _=>?_ | refine jL fun _=>?_ | refine ak F ?_ | refine jD F F F ?_ | refine jV (df F F) ?_))
   rename_i x2 x3 x4
   refine jo ?_
   refine ct (fi:=[]) (ca:=[Pt x2 0]) (az:=[]) F F ?_
   repeat' (first | refine jR ?_ | (refine jo ?_;first | refine ak F ?_ | refine aN F ?_ | refine ab F F F cx_sign F ?_) | (refine ad F (by first | rfl | (refine decide_eq_false ?_;(omega))) ?_))
   (refine ai (am (id:=34) _ (fun _ h=>h) ah ?_);refine jT 10 [7] (aa 11 128) ?_;(refine jG (aa 11 129) 0 F (aD F F F) ?_);refine jT 7 [1,2] (aa 11 135) ?_;(refine jG (aa 11 143) 3 F (aD F F F) ?_);refine jT 4 [4,5] (aa 11 191) ?_;(refine jG (aa 11 255) 6 F (ao F F aS F F) ?_);(refine jG (aa 11 511) 8 F (aD F F F) ?_);((refine jG (aa 11 1023) 9 F (bY F F (dO aS) aS F) ?_));refine jT 0 [10] (aa 11 2047) ?_;refine jQ ?_)
   all_goals repeat' (first | refine jR ?_ | (refine jo ?_;first | refine ak F ?_ | refine jV (ao F F aS F F) ?_ | (refine aq F F F cx_nb F ?_;rintro _ _ ⟨rfl,rfl⟩;dsimp only [zA,fA])) | refine ac F (ar ‹_›) ?_ | refine ad F (aA oM) ?_)
   (refine ai (am (id:=43) [.blk x2 (.cells (List.toArray [Pt r 0]) fI (0,0))] (by intro y hy;simp only [List.mem_cons,List.not_mem_nil,or_false] at hy ⊢;simp [hy]) ah ?_);(refine jG (aa 5 1) 0 F (aD F F F) ?_);(refine jG (aa 5 3) 1 F (aD F F F) ?_);refine jA 2 F ?_;(refine aq F F F cx_nb2 F ?_;rintro _ _ ⟨rfl,rfl⟩;dsimp only [zA,fA]);refine jK (aa 5 7) ?_;refine jA 3 F ?_;(refine aq F F F cx_tkb F ?_;rintro _ _ ⟨rfl,rfl⟩;dsimp only [zA,fA]);refine jK (aa 5 15) ?_;refine jW 0 [4] (aa 5 31) ?_;refine jQ ?_)
   all_goals repeat' (first | refine jR ?_ | (refine jo ?_;first | refine ak F ?_ | refine aw F ?_ | refine jV (b8 F F) ?_ | refine ab F F F cx_fld F ?_) | refine aj F F F ?_ | refine ad F F ?_)
   (refine ai (am (id:=48) [.blk x2 (.cells (List.toArray [Pt r 0]) fI (0,0))] (by intro y hy;simp only [List.mem_cons,List.not_mem_nil,or_false] at hy ⊢;simp [hy]) ah ?_);refine jW 11 [0,2,3,4,6] (aa 16 93) ?_;(refine jG (aa 16 95) 1 F (aD F F F) ?_);((refine jG (aa 16 127) 5 F (fO F F aS ?_ F F) ?_;focus omega));refine jA 7 F ?_;(refine dZ F F F cx_prt F ?_;rintro _ G1 _ hle ⟨u1,c1,b1,rfl,hrep,rfl,hQ2,hQ3⟩;dsimp only [zA,fA];skip);refine jK (aa 16 255) ?_;refine dN [8,9] kR dC ⟨?_,?_,trivial⟩;(focus (refine b6 F F ?_;(refine jF fun _=>?_);refine jK (aa 16 511) ?_;refine jA 9 F ?_;(refine jC F F F ?_);refine jK (aa 16 1023) ?_;refine jW 5 [10] (aa 16 2047) ?_;refine jA 11 F ?_;(refine jD F F F ?_);refine jK (aa 16 4095) ?_;refine jW 3 [12] (aa 16 8191) ?_;refine jA 13 F ?_;(refine jD F F F ?_);refine jK (aa 16 16383) ?_;refine jW 1 [14] (aa 16 32767) ?_;refine jA 15 F ?_;(refine jD F F F ?_);refine jK (aa 16 65535) ?_;refine jQ ?_));rotate_left 1;(focus (refine b6 F F ?_;(refine jC F F F ?_);refine jK (aa 16 767) ?_;refine jW 6 [10] (aa 16 1791) ?_;refine dN [8,11] kR dC ⟨?_,?_,trivial⟩;(focus (refine b6 F F ?_;(refine jF fun _=>?_);refine jK (aa 16 2047) ?_;refine jA 11 F ?_;(refine jD F F F ?_);refine jK (aa 16 4095) ?_;refine jW 3 [12] (aa 16 8191) ?_;refine jA 13 F ?_;(refine jD F F F ?_);refine jK (aa 16 16383) ?_;refine jW 1 [14] (aa 16 32767) ?_;refine jA 15 F ?_;(refine jD F F F ?_);refine jK (aa 16 65535) ?_;refine jQ ?_));rotate_left 1;(focus (refine b6 F F ?_;(refine jD F F F ?_);refine jK (aa 16 3839) ?_;refine jW 4 [12] (aa 16 7935) ?_;refine dN [8,13] kR dC ⟨?_,?_,trivial⟩;(focus (refine b6 F F ?_;(refine jF fun _=>?_);refine jK (aa 16 8191) ?_;refine jA 13 F ?_;(refine jD F F F ?_);refine jK (aa 16 16383) ?_;refine jW 1 [14] (aa 16 32767) ?_;refine jA 15 F ?_;(refine jD F F F ?_);refine jK (aa 16 65535) ?_;refine jQ ?_));rotate_left 1;(focus (refine b6 F F ?_;(refine jD F F F ?_);refine jK (aa 16 16127) ?_;refine jA 8 F ?_;(refine jF fun _=>?_);refine jK (aa 16 16383) ?_;refine jW 1 [14] (aa 16 32767) ?_;refine jA 15 F ?_;(refine jD F F F ?_);refine jK (aa 16 65535) ?_;refine jQ ?_));rotate_left 1));rotate_left 2));rotate_left 3)
   all_goals repeat' (refine jR ?_)
   all_goals
    rename_i y
    refine Nx.sealC (b:=y) fun G2 hG2 hsy=>?_
    have hsl : bR G2 (.slice (some ⟨y,0,none⟩) 1 1) 4 ([c1] : List VC).length (aI bx [c1]):=⟨rfl,.inr ⟨y,0,1,rfl,Nat.le_refl _,hsy⟩⟩
    refine da (.inl F) F (cK (x0:=x2) (r:=r) (sc:=sc) (s:=(q2.drop m3)) (b:=b1) (a:=none) (n:=0) (c:=0) (d:=d + 1) oM) F ?_
    rintro v G' L' ⟨rfl,rfl⟩
    dsimp only [zA,fA]
    exact ⟨[_],[bL r sc (q2.drop m3) b1 none 0 0 (d + 1 - 1)],⟨av F F F F,trivial⟩,sB,(hle.trans hG2),cI (c:=⟨85,[],m,some ⟨y,0,none⟩,1,1⟩) (cW (ks:=[u1]) dC oM (fun _=>rfl) F hsl ⟨_,[],F,fb hG2 hrep,F⟩) oM (fun _=>⟨F,F,F⟩) ⟨oM,fun h=>⟨F,by rw [hrd,(hQ2 h).1];rfl⟩,fun h=>.inr (by rw [hrd,hQ3 h];rfl)⟩⟩
abbrev ui : TypeId:=104
abbrev xE : TypeId:=3
theorem aaV {n r sc p : Nat} {qs : List co} {t : Ty} {s : ac1} {d : Int} (hd : d = 13 - (n : Int)) (hn : n ≤ 12) (hU : rg n sc qs) (hS : ScI G sc qs) (hW0 : SchW (ag qs)) (hT : iI G p t) (hw : TyW t) (hkf : ∀ d ∈ t.fields,aE (ag qs) d.kind = true) (hs : s.length ≤ 1000) :
  dw ac0 128 [Pt r 0,Pt p 0] G [bL r sc s false none 0 0 d] (fun v G' L'=>∃ u c s' b' a m k,v = Ag (bx c) ∧ V.rep G' u c ∧ L' = [bL r sc s' b' a m k d] ∧ (d ≠ 1 → a = none ∧ m = 0 ∧ k = 0) ∧ sW (fun s=>(bM (ag qs) (rb (ag qs) n) t (s.length + 1) 0 s []).map fun x=>(.nd 82 [] 0 x.1,x.2)) s false u s' b'):=by
 have hT2:=hT
 obtain ⟨fv,ln,h1',h2⟩:=hT
 have hfl:=hw.len
 refine cG [(0,_),(1,_)] Tryz.func128 kR Tryz.ntmps128 F F tU fun B hB hW=>?_
 repeat' (first | refine jR ?_ | (refine jo ?_;first | refine jL fun _=>?_ | refine jV (an F F) ?_ | refine jC F F F ?_))
 rename_i x4 x5
 refine Nx.addNil ui 4 (Nx.addNil xE 1 (Nx.perm (List.perm_append_comm (l₁:=[_,_,_,_]) (l₂:=[_])) ?_))
 dsimp only [zA,fA]
 refine aR (ι:=List V × List VC × Option Addr × Nat × List Int × Option Addr × Nat × ac1 × Bool × Nat × Int × Gh) (fun y=>(V.reps y.2.2.2.2.2.2.2.2.2.2.2 y.1 y.2.1 ∧ Gh.le G y.2.2.2.2.2.2.2.2.2.2.2) ∧ (y.2.2.2.2.2.2.2.2.1 = false → bM (ag qs) (rb (ag qs) n) t (s.length + 1) 0 s [] = bM (ag qs) (rb (ag qs) n) t y.2.2.2.2.2.2.2.2.2.1 y.2.2.2.2.2.2.2.2.2.2.1 y.2.2.2.2.2.2.2.1 y.1 ∧ y.2.2.2.2.2.2.2.1.length < y.2.2.2.2.2.2.2.2.2.1) ∧ (y.2.2.2.2.2.2.2.2.1 = true → bM (ag qs) (rb (ag qs) n) t (s.length + 1) 0 s [] = none) ∧ (y.1.length + y.2.2.2.2.1.length + y.2.2.2.2.2.2.2.1.length ≤ s.length ∧ 0 ≤ y.2.2.2.2.2.2.2.2.2.2.1 ∧ y.2.2.2.2.2.2.2.2.2.2.1 ≤ 999999) ∧ (d ≠ 1 → y.2.2.2.2.1 = [] ∧ y.2.2.2.2.2.1 = none ∧ y.2.2.2.2.2.2.1 = 0)) (fun y=>[(0,Pt r 0),(1,Pt p 0),(4,Pt x4 0),(5,Pt x5 0),(6,I y.2.2.2.2.2.2.2.2.2.2.1)]) (fun y=>y.2.2.2.2.2.2.2.2.2.2.2) (fun y=>[bL r sc y.2.2.2.2.2.2.2.1 y.2.2.2.2.2.2.2.2.1 y.2.2.2.2.2.1 y.2.2.2.2.1.length y.2.2.2.2.2.2.1 d,.acc (.slice y.2.2.2.2.2.1 y.2.2.2.2.1.length y.2.2.2.2.2.2.1) xE 1 y.2.2.2.2.1.length (aI eh y.2.2.2.2.1),.acc (.slice y.2.2.1 y.1.length y.2.2.2.1) ui 4 y.1.length (aI bx y.2.1),.blk x5 (.cells (List.toArray [U8 82,S [],I 0,.slice y.2.2.1 y.1.length y.2.2.2.1]) ui (0,0)),.blk x4 (.cells (List.toArray [U8 (0 : Nat),S [],I 0,aJ]) ui (0,0))]) (fun y=>y.2.2.2.2.2.2.2.1.length) ([],[],none,0,[],none,0,s,false,s.length + 1,0,G) ?_ tU F aW (fun y Hy=>?_)
 ·exact ⟨⟨F,Gh.le.refl _⟩,fun _=>⟨F,Nat.lt_succ_self _⟩,fun h=>(by cases h),⟨by simp,Int.le_refl 0,by show (0 : Int) ≤ 999999;omega⟩,fun _=>⟨rfl,rfl,rfl⟩⟩
 obtain ⟨vs,cs,a,cap,sk,sa,scap,t',b,m',last,Gq⟩:=y
 dsimp only at Hy ⊢
 obtain ⟨⟨hreps,hgq⟩,hI0,hI1,⟨hlen,hla0,hla1⟩,hsk⟩:=Hy
 have hcl:=ib hreps
 have hskF : d ≠ 1 → sa = none ∧ sk.length = 0 ∧ scap = 0:=fun h=>by obtain ⟨h1,h2,h3⟩:=hsk h;subst h1;exact ⟨h2,F,h3⟩
 cases b with
 | true =>
  have hno:=hI1 rfl
  repeat' (first | refine jR ?_ | (refine jo ?_;first | refine jC F F F ?_ | refine ak F ?_ | refine aN F ?_) | refine ad F F ?_)
  all_goals
   refine Nx.sealS (v:=.slice a vs.length cap) fun G2 hG2 hsl=>?_
   refine bh (vs:=[_]) F ⟨av F F F F,trivial⟩ F sB ⟨hgq.trans hG2,.nd 82 [] 0 vs,⟨82,[],0,a,vs.length,cap⟩,t',true,sa,sk.length,scap,F,cW dC dC (fun h=>absurd h dC) F (by rw [hcl];exact hsl) (bX hG2 hreps),F,hskF,⟨oM,fun h=>(by cases h),fun _=>.inr (by dsimp only;rw [hno];rfl)⟩⟩
 | false =>
  obtain ⟨hit,htm⟩:=hI0 rfl
  clear hI0 hI1
  obtain ⟨m',rfl⟩ : ∃ j,m' = j + 1:=⟨m' - 1,oM⟩
  cases hg : bm t' with
  | none =>
   rw [pg hg] at hit
   have cx_nb:=f9 (G:=Gq) (r:=r) (sc:=sc) (m:=sk.length) (c:=scap) (b:=false) (a:=sa) (d:=d) hg oM
   repeat' (first | refine jR ?_ | (refine jo ?_;first | refine jC F F F ?_ | refine ak F ?_ | refine aN F ?_ | (refine aq F F F cx_nb F ?_;rintro _ _ ⟨rfl,rfl⟩;dsimp only [zA,fA])) | refine ac F F ?_)
   all_goals
    refine Nx.sealS (v:=.slice a vs.length cap) fun G2 hG2 hsl=>?_
    refine bh (vs:=[_]) F ⟨av F F F F,trivial⟩ F sB ⟨hgq.trans hG2,.nd 82 [] 0 vs,⟨82,[],0,a,vs.length,cap⟩,[],true,sa,sk.length,scap,F,cW dC dC (fun h=>absurd h dC) F (by rw [hcl];exact hsl) (bX hG2 hreps),F,hskF,⟨by simp,fun h=>(by cases h),fun _=>.inr (by dsimp only;rw [hit];rfl)⟩⟩
  | some z =>
   obtain ⟨tg,q⟩:=z
   obtain ⟨h0,h1,_⟩:=cF hg
   have hl:=bU hg
   have cx_nb:=eA (G:=Gq) (r:=r) (sc:=sc) (m:=sk.length) (c:=scap) (b:=false) (a:=sa) (d:=d) hg oM
   by_cases htz : tg = 0
   ·subst htz
    rw [rE hg] at hit
    repeat' (first | refine jR ?_ | (refine jo ?_;first | refine jC F F F ?_ | refine ak F ?_ | refine aN F ?_ | (refine aq F F F cx_nb F ?_;rintro _ _ ⟨rfl,rfl⟩;dsimp only [zA,fA])) | refine ac F F ?_)
    all_goals
     refine Nx.sealS (v:=.slice a vs.length cap) fun G2 hG2 hsl=>?_
     refine bh (vs:=[_]) F ⟨av F F F F,trivial⟩ F sB ⟨hgq.trans hG2,.nd 82 [] 0 vs,⟨82,[],0,a,vs.length,cap⟩,q,false,sa,sk.length,scap,F,cW dC dC (fun h=>absurd h dC) F (by rw [hcl];exact hsl) (bX hG2 hreps),F,hskF,⟨oM,fun _=>⟨F,by dsimp only;rw [hit];rfl⟩,fun h=>(by cases h)⟩⟩
   rcases gW (s:=q) with ⟨hg2,ht⟩ | ⟨m3,q2,hg2,hm3,⟨hl3,ht⟩ | ⟨hl3,ht⟩⟩
   ·rw [lq hg htz ht] at hit
    have cx_nb2:=f9 (G:=Gq) (r:=r) (sc:=sc) (m:=sk.length) (c:=scap) (b:=false) (a:=sa) (d:=d) hg2 oM
    have cx_tkb:=fR (G:=Gq) (r:=r) (sc:=sc) (m:=0) (n:=sk.length) (c:=scap) (s:=[]) (b:=true) (a:=sa) (d:=d) (.inl rfl) ⟨by simp,oM⟩
    have cx_tkb : c8 ac0 45 [Pt r 0,I 0] Gq [bL r sc [] true sa sk.length scap d] (fun v L'=>v = S [] ∧ L' = [bL r sc [] true sa sk.length scap d]):=cx_tkb
    have cx_fldg:=lW (hT2.mono hgq) hw ⟨h0,h1⟩
    repeat' (first | refine jR ?_ | (refine jo ?_;first | refine jD F F F ?_ | refine ak F ?_ | (refine aq F F F cx_nb F ?_;rintro _ _ ⟨rfl,rfl⟩;dsimp only [zA,fA]) | (refine aq F F F cx_nb2 F ?_;rintro _ _ ⟨rfl,rfl⟩;dsimp only [zA,fA]) | (refine aq F F F cx_tkb F ?_;rintro _ _ ⟨rfl,rfl⟩;dsimp only [zA,fA])) | refine ac F F ?_ | refine ad F (aA ‹_›) ?_ | refine er F (fun _=>?_) (fun _=>?_))
    all_goals
     refine jo ?_
     refine cZ F F F cx_fldg F ?_
     rintro _ ⟨q9,rfl⟩
     repeat' (first | refine jR ?_ | (refine jo ?_;refine ak F ?_) | refine ac F F ?_)
     exact aX (vs,cs,a,cap,sk,sa,scap,[],true,m',tg,Gq) ⟨⟨hreps,hgq⟩,fun h=>(by cases h),fun _=>hit,⟨by dsimp only;simp only [List.length_nil];omega,h0,h1⟩,hsk⟩ (by dsimp only;simp only [List.length_nil];omega) tU rfl aW
   ·have hl4:=bU hg2
    rw [lq hg htz ht] at hit
    have cx_nb2:=eA (G:=Gq) (r:=r) (sc:=sc) (m:=sk.length) (c:=scap) (b:=false) (a:=sa) (d:=d) hg2 oM
    have cx_tkb:=fR (G:=Gq) (r:=r) (sc:=sc) (m:=m3) (n:=sk.length) (c:=scap) (s:=q2) (b:=false) (a:=sa) (d:=d) (.inr hl3) ⟨oM,oM⟩
    have cx_fldg:=lW (hT2.mono hgq) hw ⟨h0,h1⟩
    repeat' (first | refine jR ?_ | (refine jo ?_;first | refine jD F F F ?_ | refine ak F ?_ | (refine aq F F F cx_nb F ?_;rintro _ _ ⟨rfl,rfl⟩;dsimp only [zA,fA]) | (refine aq F F F cx_nb2 F ?_;rintro _ _ ⟨rfl,rfl⟩;dsimp only [zA,fA]) | (refine aq F F F cx_tkb F ?_;rintro _ _ ⟨rfl,rfl⟩;dsimp only [zA,fA])) | refine ac F F ?_ | refine ad F (aA ‹_›) ?_ | refine er F (fun _=>?_) (fun _=>?_))
    all_goals
     refine jo ?_
     refine cZ F F F cx_fldg F ?_
     rintro _ ⟨q9,rfl⟩
     repeat' (first | refine jR ?_ | (refine jo ?_;refine ak F ?_) | refine ac F F ?_)
     exact aX (vs,cs,a,cap,sk,sa,scap,q2,true,m',tg,Gq) ⟨⟨hreps,hgq⟩,fun h=>(by cases h),fun _=>hit,⟨by dsimp only;omega,h0,h1⟩,hsk⟩ (by dsimp only;omega) tU rfl aW
   have hl4:=bU hg2
   have hdl : (q2.drop m3).length = q2.length - m3:=List.length_drop
   have htl : (q2.take m3).length ≤ 1000:=by rw [List.length_take];omega
   have cx_nb2:=eA (G:=Gq) (r:=r) (sc:=sc) (m:=sk.length) (c:=scap) (b:=false) (a:=sa) (d:=d) hg2 oM
   have cx_tkb:=jP (G:=Gq) (r:=r) (sc:=sc) (m:=m3) (n:=sk.length) (c:=scap) (s:=q2) (a:=sa) (d:=d) ⟨hl3,oM⟩
   by_cases hlast : tg ≤ last
   ·rw [pf hg htz ht hlast] at hit
    have cx_fldg:=lW (hT2.mono hgq) hw ⟨h0,h1⟩
    repeat' (first | refine jR ?_ | (refine jo ?_;first | refine jD F F F ?_ | refine ak F ?_ | (refine aq F F F cx_nb F ?_;rintro _ _ ⟨rfl,rfl⟩;dsimp only [zA,fA]) | (refine aq F F F cx_nb2 F ?_;rintro _ _ ⟨rfl,rfl⟩;dsimp only [zA,fA]) | (refine aq F F F cx_tkb F ?_;rintro _ _ ⟨rfl,rfl⟩;dsimp only [zA,fA])) | (refine ac F (by first | rfl | (refine decide_eq_true ?_;(assumption))) ?_) | refine ad F (aA ‹_›) ?_)
    all_goals
     refine jo ?_
     refine cZ F F F cx_fldg F ?_
     rintro _ ⟨q9,rfl⟩
     repeat' (first | refine jR ?_ | (refine jo ?_;refine ak F ?_) | refine ac F F ?_)
     exact aX (vs,cs,a,cap,sk,sa,scap,(q2.drop m3),true,m',tg,Gq) ⟨⟨hreps,hgq⟩,fun h=>(by cases h),fun _=>hit,⟨by dsimp only;omega,h0,h1⟩,hsk⟩ (by dsimp only;omega) tU rfl aW
   cases hft : br t.fields tg with
   | none =>
    rw [nI hg htz ht hlast hft] at hit
    have cx_fld:=dV (h1'.mono hgq) (h2.mono hgq) oM hft
    by_cases hd1 : d = 1
    ·have hskl : (sk ++ [tg]).length = sk.length + 1:=by simp
     have hrs : aI eh sk ++ [I tg] = aI eh (sk ++ [tg]):=(cB eh sk tg).symm
     repeat' (first | refine jR ?_ | (refine jo ?_;first | refine jD F F F ?_ | refine ak F ?_ | refine jV (b8 F F) ?_ | refine jF fun _=>?_ | refine cQ F F F F F F F F F oM fun _ _=>?_ | (refine aq F F F cx_nb F ?_;rintro _ _ ⟨rfl,rfl⟩;dsimp only [zA,fA]) | (refine aq F F F cx_nb2 F ?_;rintro _ _ ⟨rfl,rfl⟩;dsimp only [zA,fA]) | (refine aq F F F cx_tkb F ?_;rintro _ _ ⟨rfl,rfl⟩;dsimp only [zA,fA]) | refine ab F F F cx_fld F ?_) | (refine ac F (by first | rfl | (refine decide_eq_true ?_;(assumption))) ?_) | (refine ad F (by first | rfl | (refine decide_eq_false ?_;(assumption))) ?_))
     rename_i _ y1 yc
     rw [hrs]
     refine Nx.perm (List.Perm.append_right _ (List.perm_append_comm (l₁:=[_,_]) (l₂:=[_]))) ?_
     dsimp only [zA,fA]
     exact aX (vs,cs,a,cap,sk ++ [tg],some ⟨y1,0,none⟩,yc,q2.drop m3,false,m',tg,Gq) ⟨⟨hreps,hgq⟩,fun _=>⟨hit,by dsimp only;omega⟩,fun h=>(by cases h),⟨by dsimp only;omega,h0,h1⟩,fun h=>absurd hd1 h⟩ (by dsimp only;omega) tU rfl (by rw [hskl];repeat (first | exact List.Sublist.refl _ | apply List.Sublist.cons_cons | apply List.Sublist.cons))
    ·repeat' (first | refine jR ?_ | (refine jo ?_;first | refine ak F ?_ | refine jV (b8 F F) ?_ | (refine aq F F F cx_nb F ?_;rintro _ _ ⟨rfl,rfl⟩;dsimp only [zA,fA]) | (refine aq F F F cx_nb2 F ?_;rintro _ _ ⟨rfl,rfl⟩;dsimp only [zA,fA]) | (refine aq F F F cx_tkb F ?_;rintro _ _ ⟨rfl,rfl⟩;dsimp only [zA,fA]) | refine ab F F F cx_fld F ?_) | refine ac F F ?_ | (refine ad F (by first | rfl | (refine decide_eq_false ?_;(assumption))) ?_))
     all_goals
      exact aX (vs,cs,a,cap,sk,sa,scap,q2.drop m3,false,m',tg,Gq) ⟨⟨hreps,hgq⟩,fun _=>⟨hit,by dsimp only;omega⟩,fun h=>(by cases h),⟨by dsimp only;omega,h0,h1⟩,hsk⟩ (by dsimp only;omega) tU rfl aW
   | some f =>
    obtain ⟨j,hj,hjn,hjt,hjd⟩:=d9 hft
    obtain ⟨bf,of,cf,rfl,hsf⟩:=h2.expl oM
    subst hjd
    have hsf:=hsf.mono hgq
    have cx_fld:=eG (h1'.mono hgq) hsf oM hj hjn hjt
    have cx_prt:=tX (G:=Gq) (r:=r) (sc:=sc) (m:=sk.length) (c:=scap) (a:=sa) (s:=q2.drop m3) (k:=(ae t.fields j).kind) (p:=q2.take m3) (d:=d) hd hn hU (hS.mono hgq) (hkf _ (bB hj)) htl
    repeat' (first | refine jR ?_ | (refine jo ?_;first | refine jL fun _=>?_ | refine jC F F F ?_ | refine ak F ?_ | (refine jV (fO F F aS ?_ F F) ?_;focus omega) | refine jV (b8 F F) ?_ | (refine aq F F F cx_nb F ?_;rintro _ _ ⟨rfl,rfl⟩;dsimp only [zA,fA]) | (refine aq F F F cx_nb2 F ?_;rintro _ _ ⟨rfl,rfl⟩;dsimp only [zA,fA]) | (refine aq F F F cx_tkb F ?_;rintro _ _ ⟨rfl,rfl⟩;dsimp only [zA,fA]) | refine ab F F F cx_fld F ?_ | (refine dZ F F F cx_prt F ?_;rintro _ G1 _ hle ⟨u1,c1,b1,rfl,hrep,rfl,hQ2,hQ3⟩;dsimp only [zA,fA];skip)) | refine ac F F ?_ | (refine ad F (by first | rfl | (refine decide_eq_false ?_;(assumption))) ?_))
    rename_i x10
    have hgl:=hgq.trans hle
    have hS1:=hS.mono hgl
    have hsf1:=hsf.mono hle
    have cx_of:=uQ hS1 hW0 hsf1 hj (hkf _ (bB hj))
    obtain ⟨u',m2',g1',g2',g3'⟩:=hS1.at'
    cases b1 with
    | true =>
     rw [pe hg htz ht hlast hft (hQ3 rfl)] at hit
     repeat' (first | refine jR ?_ | refine ad F F ?_ | (refine ai (am (id:=12) _ (fun _ h=>h) ah ?_);refine jT 13 [0,1,2] (aa 16 7) ?_;(refine jG (aa 16 15) 3 F (aD F F F) ?_);refine jT 10 [4,5] (aa 16 63) ?_;(try (refine Nx.re (d:=47) (v':=Bo false) F (congrArg Value.bool F) ?_));refine jT 6 [8,9,10,12] (aa 16 5951) ?_;(refine jN (aa 16 6015) 6 F ?_);(refine jN (aa 16 8063) 11 F ?_);(refine jN (aa 16 8191) 7 F ?_);(refine jN (aa 16 16383) 13 F ?_);refine jT 1 [14] (aa 16 32767) ?_;(refine jG (aa 16 65535) 15 F (bc F F F) ?_);refine jQ ?_))
     all_goals exact aX (vs,cs,a,cap,sk,sa,scap,q2.drop m3,true,m',tg,G1) ⟨⟨bX hle hreps,hgl⟩,fun h=>(by cases h),fun _=>hit,⟨by dsimp only;omega,h0,h1⟩,hsk⟩ (by dsimp only;omega) tU rfl sB
    | false =>
     obtain ⟨hra,htot⟩:=hQ2 rfl
     rw [pd hg htz ht hlast hft hra] at hit
     have cx_pr:=kX (G:=G1) u1.tot (Nat.le_refl _) oM hrep
     have hotl:=pV hrep
     by_cases heq : u1.out = bI (ag qs) (ae t.fields j)
     ·rw [if_pos heq] at hit
      repeat' (first | refine jR ?_ | (refine ad F ?_ ?_;(focus ((simp [*];done);done))) | (refine ai (am (id:=12) _ (fun _ h=>h) ah ?_);refine jT 13 [0,1,2] (aa 16 7) ?_;(refine jG (aa 16 15) 3 F (aD F F F) ?_);refine jT 10 [4,5] (aa 16 63) ?_;(try (refine Nx.re (d:=47) (v':=Bo true) F (congrArg Value.bool F) ?_));refine jT 6 [8,9,10,12] (aa 16 5951) ?_;(refine jG (aa 16 6015) 6 F (bo F F F F) ?_);(refine jG (aa 16 8063) 11 F (aD F F F) ?_);(refine jA 7 F ?_;(refine ab F F F cx_pr F ?_);refine jS (aa 16 8191) ?_);(refine jA 13 F ?_;(refine ab F F F cx_of F ?_);refine jS (aa 16 16383) ?_);refine jT 1 [14] (aa 16 32767) ?_;(refine jG (aa 16 65535) 15 F (bD F F F) ?_);refine jQ ?_))
      all_goals exact aX (vs,cs,a,cap,sk,sa,scap,q2.drop m3,false,m',tg,G1) ⟨⟨bX hle hreps,hgl⟩,fun _=>⟨hit,by dsimp only;omega⟩,fun h=>(by cases h),⟨by dsimp only;omega,h0,h1⟩,hsk⟩ (by dsimp only;omega) tU rfl sB
     ·rw [if_neg heq] at hit
      repeat' (first | refine jR ?_ | (refine jo ?_;first | refine jV (an F F) ?_ | refine jD F F F ?_ | refine ak F ?_ | refine aN F ?_ | refine jF fun _=>?_ | refine cQ F F F F F F F F F oM fun _ _=>?_) | refine ac F (ar ‹_›) ?_ | (refine ai (am (id:=12) _ (fun _ h=>h) ah ?_);refine jT 13 [0,1,2] (aa 16 7) ?_;(refine jG (aa 16 15) 3 F (aD F F F) ?_);refine jT 10 [4,5] (aa 16 63) ?_;(try (refine Nx.re (d:=47) (v':=Bo true) F (congrArg Value.bool F) ?_));refine jT 6 [8,9,10,12] (aa 16 5951) ?_;(refine jG (aa 16 6015) 6 F (bo F F F F) ?_);(refine jG (aa 16 8063) 11 F (aD F F F) ?_);(refine jA 7 F ?_;(refine ab F F F cx_pr F ?_);refine jS (aa 16 8191) ?_);(refine jA 13 F ?_;(refine ab F F F cx_of F ?_);refine jS (aa 16 16383) ?_);refine jT 1 [14] (aa 16 32767) ?_;(refine jG (aa 16 65535) 15 F (bD F F F) ?_);refine jQ ?_))
      rename_i y z y1 yc
      rw [hjt] at hit
      refine Nx.sealC (b:=y) fun G2 hG2 hsy=>?_
      have hsl : bR G2 (.slice (some ⟨y,0,none⟩) 1 1) 4 ([c1] : List VC).length (aI bx [c1]):=⟨rfl,.inr ⟨y,0,1,rfl,Nat.le_refl _,hsy⟩⟩
      have hrow : aI bx cs ++ [U8 61,S [],I tg,.slice (some ⟨y,0,none⟩) 1 1] = aI bx (cs ++ [⟨61,[],tg,some ⟨y,0,none⟩,1,1⟩]):=(cB bx cs (⟨61,[],tg,some ⟨y,0,none⟩,1,1⟩ : VC)).symm
      have hr1 : V.rep G2 (.nd 61 [] tg [u1]) (⟨61,[],tg,some ⟨y,0,none⟩,1,1⟩ : VC):=cW (ks:=[u1]) dC oM (fun _=>rfl) rfl hsl ⟨c1,[],rfl,fb hG2 hrep,rfl⟩
      have hr2 : V.reps G2 (vs ++ [.nd 61 [] tg [u1]]) (cs ++ [⟨61,[],tg,some ⟨y,0,none⟩,1,1⟩]):=iA hr1 (bX (hle.trans hG2) hreps)
      have hvl : (vs ++ [V.nd 61 [] tg [u1]]).length = vs.length + 1:=by simp
      refine Nx.perm (List.Perm.append_right _ (List.perm_append_comm (l₁:=[_,_,_]) (l₂:=[_,_]))) ?_
      dsimp only [zA,fA]
      rw [hrow]
      exact aX (vs ++ [.nd 61 [] tg [u1]],cs ++ [⟨61,[],tg,some ⟨y,0,none⟩,1,1⟩],some ⟨y1,0,none⟩,yc,sk,sa,scap,q2.drop m3,false,m',tg,G2) ⟨⟨hr2,hgl.trans hG2⟩,fun _=>⟨hit,by dsimp only;omega⟩,fun h=>(by cases h),⟨by dsimp only;omega,h0,h1⟩,hsk⟩ (by dsimp only;omega) tU rfl (by rw [hvl];repeat (first | exact List.Sublist.refl _ | apply List.Sublist.cons_cons | apply List.Sublist.cons))
end Go.E
