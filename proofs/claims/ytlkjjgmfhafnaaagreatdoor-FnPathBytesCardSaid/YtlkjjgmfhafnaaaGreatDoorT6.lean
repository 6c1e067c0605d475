/- Contracts and plain laws that the statement rests on, part 6. Conditions: as each says. -/
import Derived.Test.YtlkjjgmfhafnaaaGreatDoorT5
set_option linter.unusedVariables false
set_option linter.unusedSimpArgs false
namespace Go.E
set_option maxRecDepth 20000
set_option maxHeartbeats 2000000
open Go.Proofs
variable {G : Gh}
theorem abQ {n : Nat} {u : Value} {vs : List bU} {a : Option Addr} {ca : Nat} {nm : adE} {fs : List Fld} {k s : adE} (h : SchR G u vs) (hw : SchW (af vs)) (hr : d8 vs (64 :: k) = some ((a,ca),⟨69,nm,fs⟩)) (hk : d9 (64 :: k) = true) (hkl : k.length ≤ 999) (hs : s.length ≤ 1000) (hn : n ≤ 999) :
  bd adD 159 [Ag [u],S s,S (64 :: k),I (n + 1 : Nat)] G (cD (af vs) (b8 (af vs) (rb (af vs) n) ⟨69,nm,fs⟩ s) (64 :: k)):=by
 have hk0 : bt (64 :: k) (Int.toNat 0) = 64:=a6 64 k
 have hkl2 : (64 :: k).length = k.length + 1:=rfl
 have hvl : vs.length ≤ 8:=by have:=hw.len;unfold af at this;simpa using this
 have href:=dX vs (64 :: k)
 rw [hr] at href
 have cx_rf:=gE (G:=G) (k:=64 :: k) h oM hk oM
 rw [hr] at cx_rf
 have cx_rf : aG adD 160 [u,S (64 :: k)] G (· = Tu [Ag [U8 (69 : Nat),S nm,.slice a fs.length ca],Bo true]):=cx_rf
 have hxm:=eI hr
 have hxt : (⟨69,nm,fs⟩ : Ty) ∈ af vs:=List.mem_map_of_mem hxm
 have hTW:=hw.ty _ hxt
 have hfl:=hTW.len
 dsimp only at hfl
 have hrd : b8 (af vs) (rb (af vs) n) ⟨69,nm,fs⟩ s = match bI s with
   | none=>none
   | some (m,r)=>match bB fs m with
    | none=>none
    | some d=>some (.nd 69 [] d.tag [],r):=by
  unfold b8
  rw [if_neg (by simp)]
  rcases bI s with _ | ⟨m,r⟩
  ·rfl
  ·dsimp only
   rcases bB fs m with _ | d
   ·rfl
   ·dsimp only;rw [if_pos rfl]
 rw [hrd]
 have cx_ng0:=hO (G:=G) (s:=s) oM
 cases hg : bI s with
 | none =>
  rw [hg] at cx_ng0
  have cx_ng : aG adD 106 [S s] G (· = Tu [I 0,S [],Bo false]):=cx_ng0
  clear cx_ng0
  have cx_f0:=gS (G:=G) (x:=((a,ca),⟨69,nm,fs⟩)) (tag:=0) (h.fl _ hxm) (by dsimp only;omega)
  have hd : bB fs 0 = none:=kI hTW
  rw [hd] at cx_f0
  have cx_fld : aG adD 161 [Ag [U8 (69 : Nat),S nm,.slice a fs.length ca],I 0] G (· = Tu [Ag [I 0,S [],S [],S []],Bo false]):=cx_f0
  refine jB [(0,_),(1,_),(2,_),(3,_)] Tryz.func159 Tryz.ntmps159 fun B hok hB hW=>?_
  repeat' (first | refine jR ?_ | (refine jo ?_;first | refine jO fun _=>?_ | refine al F ?_ | refine aQ F ?_ | refine jL fun _=>?_ | refine jC F F F ?_ | refine aK F ?_ | refine ac F F F cx_rf F ?_ | refine ac F F F cx_ng F ?_ | refine ac F F F cx_fld F ?_) | refine aA F F F ?_ | refine ab F F ?_ | refine ad F F ?_)
  all_goals refine jZ (vs:=[_,_,_]) F ⟨F,F,F,trivial⟩ F ⟨Gh.le.refl _,F,?_⟩
  all_goals exact gp F
 | some z =>
  obtain ⟨m,r⟩:=z
  obtain ⟨h1,h2,_⟩:=di hg
  have hl:=ce hg
  rw [hg] at cx_ng0
  have cx_ng : aG adD 106 [S s] G (· = Tu [I m,S r,Bo true]):=cx_ng0
  clear cx_ng0
  have cx_f0:=gS (G:=G) (x:=((a,ca),⟨69,nm,fs⟩)) (tag:=m) (h.fl _ hxm) (by dsimp only;omega)
  dsimp only
  cases hd : bB fs m with
  | none =>
   rw [hd] at cx_f0
   have cx_fld : aG adD 161 [Ag [U8 (69 : Nat),S nm,.slice a fs.length ca],I m] G (· = Tu [Ag [I 0,S [],S [],S []],Bo false]):=cx_f0
   refine jB [(0,_),(1,_),(2,_),(3,_)] Tryz.func159 Tryz.ntmps159 fun B hok hB hW=>?_
   repeat' (first | refine jR ?_ | (refine jo ?_;first | refine jO fun _=>?_ | refine al F ?_ | refine aQ F ?_ | refine jL fun _=>?_ | refine jC F F F ?_ | refine aw F ?_ | refine ac F F F cx_rf F ?_ | refine ac F F F cx_ng F ?_ | refine ac F F F cx_fld F ?_) | refine am F F F ?_ | refine ab F F ?_ | refine ad F F ?_)
   all_goals refine jZ (vs:=[_,_,_]) F ⟨F,F,F,trivial⟩ F ⟨Gh.le.refl _,F,?_⟩
   all_goals exact gp F
  | some d =>
   rw [hd] at cx_f0
   have cx_fld : aG adD 161 [Ag [U8 (69 : Nat),S nm,.slice a fs.length ca],I m] G (· = Tu [Ag [I d.tag,S d.name,S d.kind,S d.stand],Bo true]):=cx_f0
   have hdm : d ∈ fs:=List.mem_of_find?_eq_some hd
   have hdt : d.tag = m:=(i4 hd).1
   refine jB [(0,_),(1,_),(2,_),(3,_)] Tryz.func159 Tryz.ntmps159 fun B hok hB hW=>?_
   repeat' (first | refine jR ?_ | (refine jo ?_;first | refine jO fun _=>?_ | refine al F ?_ | refine aQ F ?_ | refine jL fun _=>?_ | refine jC F F F ?_ | refine aw F ?_ | refine jF fun _=>?_ | refine jV (ao F F) ?_ | refine ac F F F cx_rf F ?_ | refine ac F F F cx_ng F ?_ | refine ac F F F cx_fld F ?_) | refine am F F F ?_ | refine ab F F ?_ | refine ad F F ?_)
   all_goals
    rename_i y1 y8
    refine Nx.sealC (b:=y1) fun G2 hG2 hs1=>?_
    refine Nx.sealC (b:=y8) fun G3 hG3 hsg=>?_
    refine jZ (vs:=[_,_,_]) F ⟨F,F,F,trivial⟩ F ⟨(hG2.trans hG3),F,?_⟩
    rw [← hdt] at hs1
    exact pQ F (.enm (64 :: k) y8 y1 ⟨69,nm,fs⟩ d ⟨href.symm,F⟩ hdm hsg (hs1.mono hG3))
theorem abI {n : Nat} {u : Value} {vs : List bU} {a : Option Addr} {ca : Nat} {nm : adE} {fs : List Fld} {k s : adE} (hR : my n u vs) (h : SchR G u vs) (hw : SchW (af vs)) (hr : d8 vs (64 :: k) = some ((a,ca),⟨85,nm,fs⟩)) (hk : d9 (64 :: k) = true) (hkl : k.length ≤ 999) (hs : s.length ≤ 1000) (hn : n ≤ 999) :
  bd adD 159 [Ag [u],S s,S (64 :: k),I (n + 1 : Nat)] G (cD (af vs) (b8 (af vs) (rb (af vs) n) ⟨85,nm,fs⟩ s) (64 :: k)):=by
 have edn : ((n + 1 : Nat) : Int) - 1 = (n : Nat):=oM
 have hk0 : bt (64 :: k) (Int.toNat 0) = 64:=a6 64 k
 have hkl2 : (64 :: k).length = k.length + 1:=rfl
 have hvl : vs.length ≤ 8:=by have:=hw.len;unfold af at this;simpa using this
 have href:=dX vs (64 :: k)
 rw [hr] at href
 have cx_rf:=gE (G:=G) (k:=64 :: k) h oM hk oM
 rw [hr] at cx_rf
 have cx_rf : aG adD 160 [u,S (64 :: k)] G (· = Tu [Ag [U8 (85 : Nat),S nm,.slice a fs.length ca],Bo true]):=cx_rf
 have hxm:=eI hr
 have hxt : (⟨85,nm,fs⟩ : Ty) ∈ af vs:=List.mem_map_of_mem hxm
 have hTW:=hw.ty _ hxt
 have hfl:=hTW.len
 dsimp only at hfl
 have hrd : b8 (af vs) (rb (af vs) n) ⟨85,nm,fs⟩ s = match bI s with
   | none=>none
   | some (m,r)=>match bB fs m with
    | none=>none
    | some d=>match cx r with
     | none=>none
     | some (p,r')=>(cU (rb (af vs) n) d.kind p).map fun v=>(.nd 85 [] d.tag [v],r'):=by
  unfold b8
  rw [if_neg (by simp)]
  rcases bI s with _ | ⟨m,r⟩
  ·rfl
  ·dsimp only
   rcases bB fs m with _ | d
   ·rfl
   ·dsimp only;rw [if_neg (by simp)]
    all_goals (rcases cx r with _ | ⟨p,r'⟩ <;> rfl)
 rw [hrd]
 have cx_ng0:=hO (G:=G) (s:=s) oM
 cases hg : bI s with
 | none =>
  rw [hg] at cx_ng0
  have cx_ng : aG adD 106 [S s] G (· = Tu [I 0,S [],Bo false]):=cx_ng0
  clear cx_ng0
  have cx_f0:=gS (G:=G) (x:=((a,ca),⟨85,nm,fs⟩)) (tag:=0) (h.fl _ hxm) (by dsimp only;omega)
  have hd : bB fs 0 = none:=kI hTW
  rw [hd] at cx_f0
  have cx_fld : aG adD 161 [Ag [U8 (85 : Nat),S nm,.slice a fs.length ca],I 0] G (· = Tu [Ag [I 0,S [],S [],S []],Bo false]):=cx_f0
  refine jB [(0,_),(1,_),(2,_),(3,_)] Tryz.func159 Tryz.ntmps159 fun B hok hB hW=>?_
  repeat' (first | refine jR ?_ | (refine jo ?_;first | refine jO fun _=>?_ | refine al F ?_ | refine aQ F ?_ | refine jL fun _=>?_ | refine jC F F F ?_ | refine aK F ?_ | refine ac F F F cx_rf F ?_ | refine ac F F F cx_ng F ?_ | refine ac F F F cx_fld F ?_) | refine aA F F F ?_ | refine ab F F ?_ | refine ad F F ?_)
  all_goals refine jZ (vs:=[_,_,_]) F ⟨F,F,F,trivial⟩ F ⟨Gh.le.refl _,F,?_⟩
  all_goals exact gp F
 | some z =>
  obtain ⟨m,r⟩:=z
  obtain ⟨h1,h2,_⟩:=di hg
  have hl:=ce hg
  rw [hg] at cx_ng0
  have cx_ng : aG adD 106 [S s] G (· = Tu [I m,S r,Bo true]):=cx_ng0
  clear cx_ng0
  have cx_f0:=gS (G:=G) (x:=((a,ca),⟨85,nm,fs⟩)) (tag:=m) (h.fl _ hxm) (by dsimp only;omega)
  dsimp only
  cases hd : bB fs m with
  | none =>
   rw [hd] at cx_f0
   have cx_fld : aG adD 161 [Ag [U8 (85 : Nat),S nm,.slice a fs.length ca],I m] G (· = Tu [Ag [I 0,S [],S [],S []],Bo false]):=cx_f0
   refine jB [(0,_),(1,_),(2,_),(3,_)] Tryz.func159 Tryz.ntmps159 fun B hok hB hW=>?_
   repeat' (first | refine jR ?_ | (refine jo ?_;first | refine jO fun _=>?_ | refine al F ?_ | refine aQ F ?_ | refine jL fun _=>?_ | refine jC F F F ?_ | refine aw F ?_ | refine ac F F F cx_rf F ?_ | refine ac F F F cx_ng F ?_ | refine ac F F F cx_fld F ?_) | refine am F F F ?_ | refine ab F F ?_ | refine ad F F ?_)
   all_goals refine jZ (vs:=[_,_,_]) F ⟨F,F,F,trivial⟩ F ⟨Gh.le.refl _,F,?_⟩
   all_goals exact gp F
  | some d =>
   rw [hd] at cx_f0
   have cx_fld : aG adD 161 [Ag [U8 (85 : Nat),S nm,.slice a fs.length ca],I m] G (· = Tu [Ag [I d.tag,S d.name,S d.kind,S d.stand],Bo true]):=cx_f0
   have hdm : d ∈ fs:=List.mem_of_find?_eq_some hd
   have hdt : d.tag = m:=(i4 hd).1
   have hdk : aB (af vs) d.kind = true:=dk hw hxt (by dsimp only;omega) hdm
   have cx_tk0:=o7 (G:=G) (s:=r) oM
   dsimp only
   cases ht : cx r with
   | none =>
    rw [ht] at cx_tk0
    have cx_tk : aG adD 68 [S r] G (· = Tu [S [],S [],Bo false]):=cx_tk0
    refine jB [(0,_),(1,_),(2,_),(3,_)] Tryz.func159 Tryz.ntmps159 fun B hok hB hW=>?_
    repeat' (first | refine jR ?_ | (refine jo ?_;first | refine jO fun _=>?_ | refine al F ?_ | refine aQ F ?_ | refine jL fun _=>?_ | refine jC F F F ?_ | refine aw F ?_ | refine ac F F F cx_rf F ?_ | refine ac F F F cx_ng F ?_ | refine ac F F F cx_fld F ?_ | refine ac F F F cx_tk F ?_) | refine am F F F ?_ | refine ab F F ?_ | refine ad F F ?_)
    all_goals refine jZ (vs:=[_,_,_]) F ⟨F,F,F,trivial⟩ F ⟨Gh.le.refl _,F,?_⟩
    all_goals exact gp F
   | some y =>
    obtain ⟨p,r'⟩:=y
    have hl2:=eB ht
    rw [ht] at cx_tk0
    have cx_tk : aG adD 68 [S r] G (· = Tu [S p,S r',Bo true]):=cx_tk0
    dsimp only
    cases hf : cU (rb (af vs) n) d.kind p with
    | none =>
     have cx_wh0:=o4 (G:=G) hR h hdk oM oM hf
     rw [← edn] at cx_wh0
     refine jB [(0,_),(1,_),(2,_),(3,_)] Tryz.func159 Tryz.ntmps159 fun B hok hB hW=>?_
     repeat' (first | refine jM ?_ | (refine jo ?_;first | refine jO fun _=>?_ | refine al F ?_ | refine aQ F ?_ | refine jL fun _=>?_ | refine jC F F F ?_ | refine aw F ?_ | refine jF fun _=>?_ | refine jV (ao F F) ?_ | refine ac F F F cx_rf F ?_ | refine ac F F F cx_ng F ?_ | refine ac F F F cx_fld F ?_ | refine ac F F F cx_tk F ?_ | (refine aF F F F cx_wh0 F ?_;rintro _ G hle ⟨q1,rfl⟩;skip)) | refine am F F F ?_ | refine ad F F ?_)
     all_goals refine jZ (vs:=[_,_,_]) F ⟨F,F,F,trivial⟩ F ⟨hle,F,?_⟩
     all_goals exact gp F
    | some w =>
     have cx_wh1:=md (G:=G) hR h hdk oM oM hf
     rw [← edn] at cx_wh1
     refine jB [(0,_),(1,_),(2,_),(3,_)] Tryz.func159 Tryz.ntmps159 fun B hok hB hW=>?_
     repeat' (first | refine jM ?_ | (refine jo ?_;first | refine jO fun _=>?_ | refine al F ?_ | refine aQ F ?_ | refine jL fun _=>?_ | refine jC F F F ?_ | refine aw F ?_ | refine jF fun _=>?_ | refine jV (ao F F) ?_ | refine ac F F F cx_rf F ?_ | refine ac F F F cx_ng F ?_ | refine ac F F F cx_fld F ?_ | refine ac F F F cx_tk F ?_ | (refine aF F F F cx_wh1 F ?_;rintro _ G hle ⟨wb,rfl,hrep⟩;skip)) | refine am F F F ?_ | refine ad F F ?_)
     all_goals
      rename_i y1 y2 y8
      refine Nx.sealC (b:=y1) fun G2 hG2 hs1=>?_
      refine Nx.sealC (b:=y2) fun G3 hG3 hs2=>?_
      refine Nx.sealC (b:=y8) fun G4 hG4 hsg=>?_
      refine jZ (vs:=[_,_,_]) F ⟨F,F,F,trivial⟩ F ⟨(((hle.trans hG2).trans hG3).trans hG4),F,?_⟩
      rw [← hdt] at hs1
      exact pQ F (.uni (64 :: k) y8 y1 y2 wb 1 ⟨85,nm,fs⟩ d w (Nat.le_refl _) ⟨href.symm,F⟩ hdm hsg ((hs1.mono hG3).mono hG4) (hs2.mono hG4) (hrep.mono ((hG2.trans hG3).trans hG4)))
theorem abK {n : Nat} {u : Value} {vs : List bU} {a : Option Addr} {ca : Nat} {nm : adE} {fs : List Fld} {k s : adE} (hR : my n u vs) (h : SchR G u vs) (hw : SchW (af vs)) (hr : d8 vs (64 :: k) = some ((a,ca),⟨82,nm,fs⟩)) (hk : d9 (64 :: k) = true) (hkl : k.length ≤ 999) (hs : s.length ≤ 1000) (hn : n ≤ 999) :
  bd adD 159 [Ag [u],S s,S (64 :: k),I (n + 1 : Nat)] G (cD (af vs) (b8 (af vs) (rb (af vs) n) ⟨82,nm,fs⟩ s) (64 :: k)):=by
 have hk0 : bt (64 :: k) (Int.toNat 0) = 64:=a6 64 k
 have hkl2 : (64 :: k).length = k.length + 1:=rfl
 have hvl : vs.length ≤ 8:=by have:=hw.len;unfold af at this;simpa using this
 have cx_rf:=gE (G:=G) (k:=64 :: k) h oM hk oM
 rw [hr] at cx_rf
 have cx_rf : aG adD 160 [u,S (64 :: k)] G (· = Tu [Ag [U8 (82 : Nat),S nm,.slice a fs.length ca],Bo true]):=cx_rf
 have cx_fds:=wR (G:=G) (s:=s) hR h hw hr hk hkl hs hn
 have hrd : b8 (af vs) (rb (af vs) n) ⟨82,nm,fs⟩ s = (bS (af vs) (rb (af vs) n) ⟨82,nm,fs⟩ (s.length + 1) 0 s []).map fun x=>(.nd 82 [] 0 x.1,x.2):=by
  unfold b8;rw [if_pos rfl]
 rw [hrd]
 refine jB [(0,_),(1,_),(2,_),(3,_)] Tryz.func159 Tryz.ntmps159 fun B hok hB hW=>?_
 repeat' (first | refine jR ?_ | (refine jo ?_;first | refine jO fun _=>?_ | refine al F ?_ | refine aQ F ?_ | refine jL fun _=>?_ | refine jC F F F ?_ | refine ac F F F cx_rf F ?_ | (refine aF F F F cx_fds F ?_;rintro _ G hle ⟨q1,r1,ok1,rfl,hyes,hno⟩;skip)) | refine ab F F ?_)
 all_goals refine jZ (vs:=[_,_,_]) F ⟨F,F,F,trivial⟩ F ⟨hle,F,?_⟩
 all_goals (rw [aL];exact ⟨_,_,_,F,hyes,hno⟩)
theorem uD {s k w : adE} (h : s.length ≤ 1048576 ∧ k.length ≤ 1048576 ∧ w.length ≤ 1048576) (hno : cW s k w = none) : bd adD 79 [S s,S k,S w] G (fun v _=>∃ u q,v = Tu [u,.pointer q,Bo false]):=by
 by_cases hk : cz s k = true
 case neg =>
  have hk2 : cz s k = false:=by simpa using hk
  have cx_lk1 : ∀ G,bd adD 83 [S s,S k] G (fun v _=>∃ u,v = Tu [u,Bo false]):=fun G=>by
   refine (fc (G:=G) (s:=s) (k:=k) oM oM).mono ?_
   rintro v G' L' ⟨h1,h2,u,vs,rfl,_⟩
   exact ⟨h1,h2,u,by rw [hk2]⟩
  refine jB [(0,_),(1,_),(2,_)] Tryz.func79 Tryz.ntmps79 fun B hok hB hW=>?_
  repeat' (first | refine jR ?_ | (refine jo ?_;first | refine aK F ?_ | (refine aF F F F (cx_lk1 _) F ?_;rintro _ G hle ⟨u1,rfl⟩;skip)) | refine aA F F F ?_ | refine ab F F ?_)
  all_goals refine jZ (vs:=[_,_,_]) F ⟨F,F,F,trivial⟩ F ⟨hle,F,?_⟩
  all_goals exact ⟨_,_,F⟩
 obtain ⟨ts,hs,hki,hw⟩:=iQ hk
 have hvo : bV ts k w = none:=by unfold cW at hno;rw [hs] at hno;dsimp only at hno;rwa [if_pos hki] at hno
 have cx_lka : ∀ G,bd adD 83 [S s,S k] G (fun v G'=>∃ a c vs,v = Tu [.slice a vs.length c,Bo true] ∧ SchR G' (.slice a vs.length c) vs ∧ af vs = ts):=fun G=>by
  refine (fc (G:=G) (s:=s) (k:=k) oM oM).mono ?_
  rintro v G' L' ⟨h1,h2,u,vs,rfl,h4,_,h6⟩
  obtain ⟨_,⟨rfl,h0⟩ | ⟨b,o,cap,rfl,_,_⟩⟩:=h4.sl
  ·exact ⟨h1,h2,none,0,vs,by rw [hk,h0],by rw [h0];exact h4,h6 ts hs hki⟩
  ·exact ⟨h1,h2,_,cap,vs,by rw [hk],h4,h6 ts hs hki⟩
 by_cases hl : w.length ≤ 400
 case neg =>
  refine jB [(0,_),(1,_),(2,_)] Tryz.func79 Tryz.ntmps79 fun B hok hB hW=>?_
  repeat' (first | refine jR ?_ | (refine jo ?_;first | refine aw F ?_ | (refine aF F F F (cx_lka _) F ?_;rintro _ G hle ⟨av1,cv1,vs1,rfl,hR1,hT1⟩;skip)) | refine am F F F ?_ | refine ab F (aD oM) ?_)
  all_goals refine jZ (vs:=[_,_,_]) F ⟨F,F,F,trivial⟩ F ⟨hle,F,?_⟩
  all_goals exact ⟨_,_,F⟩
 refine jB [(0,_),(1,_),(2,_)] Tryz.func79 Tryz.ntmps79 fun B hok hB hW=>?_
 repeat' (first | refine jR ?_ | (refine jo ?_;first | refine aw F ?_ | refine jV (ao F F) ?_ | (refine aF F F F (cx_lka _) F ?_;rintro _ G hle ⟨av1,cv1,vs1,rfl,hR1,hT1⟩;skip)) | refine am F F F ?_ | refine ad F (aE oM) ?_)
 have hR:=gW (u:=.slice av1 vs1.length cv1) (vs:=vs1) (by rw [hT1];exact hw) 12 oM G k w hR1 (by rw [hT1];exact hki) oM
 obtain ⟨f,hf⟩ : ∃ f,f = rd (af vs1) 12 k w:=⟨_,rfl⟩
 rw [← hf] at hR
 have cx_rd:=hR
 clear hR
 repeat' (first | refine jR ?_ | (refine jo ?_;first | refine aK F ?_ | refine aw F ?_ | (refine aF F F F cx_rd F ?_;rintro _ G hle ⟨q1,r1,ok1,rfl,hyes,hno⟩;skip)) | refine oQ F F (fun _=>?_) (fun _=>?_))
 all_goals rename_i hok
 ·have hr : decide (r1 = []) = false:=decide_eq_false fun h=>by
   obtain ⟨v,b,_,h2,_⟩:=hyes hok
   unfold bV at hvo
   rw [if_pos hl,← hT1,← hf,h2,h] at hvo
   cases hvo
  refine jZ (vs:=[_,_,_]) F ⟨F,F,F,trivial⟩ F ⟨(Gh.le.trans aS hle),F,?_⟩
  exact ⟨_,_,by rw [hr];rfl⟩
 ·refine jZ (vs:=[_,_,_]) F ⟨F,F,F,trivial⟩ F ⟨(Gh.le.trans aS hle),F,?_⟩
  exact ⟨_,_,F⟩
theorem z5 {s k w : adE} {v : V} {ts : List Ty} (h : s.length ≤ 1048576 ∧ k.length ≤ 1048576 ∧ w.length ≤ 1048576) (hs : aP s = some ts) (hki : aB ts k = true) (hvo : bV ts k w = some v) :
  bd adD 79 [S s,S k,S w] G (fun r G'=>∃ u b,r = Tu [u,Pt b 0,Bo true] ∧ RepR G' ts v k b):=by
 have hw:=b6 hs
 have hk : cz s k = true:=by unfold cz;rw [hs];exact hki
 have hl : w.length ≤ 400:=by
  by_cases hl : w.length ≤ 400
  ·exact hl
  ·unfold bV at hvo;rw [if_neg hl] at hvo;cases hvo
 have h12 : rd ts 12 k w = some (v,[]):=by
  unfold bV at hvo
  rw [if_pos hl] at hvo
  split at hvo
  ·rename_i v' hv;rw [hv];exact congrArg (fun x=>some (x,[])) (Option.some.inj hvo)
  ·cases hvo
 have cx_lka : ∀ G,bd adD 83 [S s,S k] G (fun v G'=>∃ a c vs,v = Tu [.slice a vs.length c,Bo true] ∧ SchR G' (.slice a vs.length c) vs ∧ af vs = ts):=fun G=>by
  refine (fc (G:=G) (s:=s) (k:=k) oM oM).mono ?_
  rintro v G' L' ⟨h1,h2,u,vs,rfl,h4,_,h6⟩
  obtain ⟨_,⟨rfl,h0⟩ | ⟨b,o,cap,rfl,_,_⟩⟩:=h4.sl
  ·exact ⟨h1,h2,none,0,vs,by rw [hk,h0],by rw [h0];exact h4,h6 ts hs hki⟩
  ·exact ⟨h1,h2,_,cap,vs,by rw [hk],h4,h6 ts hs hki⟩
 refine jB [(0,_),(1,_),(2,_)] Tryz.func79 Tryz.ntmps79 fun B hok hB hW=>?_
 repeat' (first | refine jR ?_ | (refine jo ?_;first | refine aw F ?_ | refine jV (ao F F) ?_ | (refine aF F F F (cx_lka _) F ?_;rintro _ G hle ⟨av1,cv1,vs1,rfl,hR1,hT1⟩;skip)) | refine am F F F ?_ | refine ad F (aE oM) ?_)
 subst hT1
 have cx_rd : bd adD 114 [Ag [.slice av1 vs1.length cv1],S w,S k,I (12 : Nat)] G (fun r G'=>∃ b,r = Tu [Pt b 0,S [],Bo true] ∧ RepR G' (af vs1) v k b):=by
  refine (gW (u:=.slice av1 vs1.length cv1) (vs:=vs1) hw 12 oM G k w hR1 hki oM).mono ?_
  rintro r G' L' ⟨h1,h2,q,rest,ok,rfl,h3,h4⟩
  cases ok with
  | false=>rw [h12] at h4;cases h4 rfl
  | true =>
   obtain ⟨v',b,rfl,h5,h6⟩:=h3 rfl
   rw [h12] at h5
   simp only [Option.some.injEq,Prod.mk.injEq] at h5
   obtain ⟨rfl,rfl⟩:=h5
   exact ⟨h1,h2,b,F,h6⟩
 refine jo ?_
 refine aF F F F cx_rd F ?_
 rintro _ G2 hle2 ⟨b,rfl,hrep⟩
 repeat' (first | refine jR ?_ | (refine jo ?_;refine aK F ?_) | refine aA F F F ?_)
 refine jZ (vs:=[_,_,_]) F ⟨F,F,F,trivial⟩ F ⟨(Gh.le.trans hle hle2),F,?_⟩
 exact ⟨_,b,F,hrep⟩
theorem ut {b : Nat} {l : adE} (hm : 0 < l.length ∧ l.length ≤ 1000000000) : cM adD 142 [Pt b 0,S l] G [.blk b (.cells (List.toArray [.pointer none,aN]) eH (0,0))]
  (fun r L'=>∃ b2 c2,r = Tu [I l.length,.nilIface] ∧ L' = [.acc (.slice (some ⟨b2,0,none⟩) l.length (c2 + 1)) ia 1 l.length (bM l),.blk b (.cells (List.toArray [Pt b 0,.slice (some ⟨b2,0,none⟩) l.length (c2 + 1)]) eH (0,0))]):=by
 refine jH [(0,_),(1,_)] Tryz.func142 Tryz.ntmps142 fun B hB hW=>?_
 repeat' (first | refine jR ?_ | (refine jo ?_;first | refine al F ?_ | refine abT F F F oM fun _ _=>?_ | refine jD F F F ?_ | (refine ai F F F yE F ?_;rintro _ _ rfl;dsimp only [zA,fA])))
 exact aR (vs:=[_,_]) F ⟨F,F,trivial⟩ F (List.Sublist.refl _) ⟨F,_,_,F,F⟩
theorem aab {b : Nat} : cM adD 143 [Pt b 0] G [.blk b (.cells (List.toArray [.pointer none,aN]) eH (0,0))] (fun r L'=>r = S [] ∧ L' = []):=by
 refine jH [(0,_)] Tryz.func143 Tryz.ntmps143 fun B hB hW=>?_
 repeat' (first | refine jR ?_ | (refine ak (ar (id:=1) _ (fun _ h=>h) aj ?_);refine jT 6 [0,1,2,5,6,7] (aa 12 231) ?_;(refine jG (aa 12 239) 3 F (aC F F F) ?_);(refine jG (aa 12 255) 4 F (zl F) ?_);(refine jG (aa 12 511) 8 F (aC F F F) ?_);(refine jG (aa 12 1023) 9 F (ag F) ?_);(refine jG (aa 12 2047) 10 F (zg F F) ?_);refine jT 0 [11] (aa 12 4095) ?_;refine jQ ?_))
 refine jZ (vs:=[_]) F ⟨F,trivial⟩ F ⟨F,F,?_⟩
 rfl
def nA (b : Nat) (q : Option (Nat × Nat)) (l : adE) : List Own:=match q with
 | none=>[.blk b (.cells (List.toArray [.pointer none,aN]) eH (0,0))]
 | some (b2,c2)=>[.acc (.slice (some ⟨b2,0,none⟩) l.length (c2 + 1)) ia 1 l.length (bM l),.blk b (.cells (List.toArray [Pt b 0,.slice (some ⟨b2,0,none⟩) l.length (c2 + 1)]) eH (0,0))]
theorem uL {b b2 c2 : Nat} {l m : adE} {L : List Own} : (Own.acc (.slice (some ⟨b2,0,none⟩) (l.length + m.length) (c2 + 1)) ia 1 (l.length + m.length) (bM l ++ bM m) :: .blk b (.cells (List.toArray [Pt b 0,.slice (some ⟨b2,0,none⟩) (l.length + m.length) (c2 + 1)]) eH (0,0)) :: L) =
  Own.acc (.slice (some ⟨b2,0,none⟩) (l ++ m).length (c2 + 1)) ia 1 (l ++ m).length (bM (l ++ m)) :: .blk b (.cells (List.toArray [Pt b 0,.slice (some ⟨b2,0,none⟩) (l ++ m).length (c2 + 1)]) eH (0,0)) :: L:=by
 simp [bM]
theorem jq {w : Nat} {x : adE} {t : Int} {a : Option Addr} {k : Nat} (hw : tZ w x t []) (h : w = 110 ∨ w = 116 ∨ w = 102 ∨ w = 69) (hx : x.length ≤ 100000) : aG adD 100 [Ag [U8 (w : Nat),S x,I t,.slice a ([] : List V).length k]] G (· = S (V.nd w x t []).bys):=by
 have hty:=qh hw
 unfold tZ at hw
 rcases h with rfl | rfl | rfl | rfl
 ·simp only [Nat.reduceEqDiff,false_and,or_false,true_and] at hw
  obtain ⟨rfl,m,hm0,hm1,hx1,hnum0⟩:=hw
  have cx_pnB:=iG (G:=G) (s:=x) (top:=999999) oM
  refine jE [(0,_)] Tryz.func100 Tryz.ntmps100 fun B hB=>?_
  repeat' (first | refine jR ?_ | (refine jo ?_;first | refine jO fun _=>?_ | refine al F ?_ | (refine dn F F F (dS oM) F ?_;rintro _ ⟨n,rfl,hnum⟩)) | refine ab F F ?_)
  obtain rfl:=hnum _ hnum0
  repeat' (first | refine jR ?_ | (refine jo ?_;refine ac F F F (i5 oM) F ?_))
  refine jY (vs:=[_]) ?_
  rw [aH,V.bys];simp [fR,hnum0]
 ·refine jE [(0,_)] Tryz.func100 Tryz.ntmps100 fun B hB=>?_
  repeat' (first | refine jR ?_ | (refine jo ?_;first | refine jO fun _=>?_ | refine al F ?_ | refine ac F F F (ux oM) F ?_) | refine ab F F ?_ | refine ad F F ?_)
  refine jY (vs:=[_]) ?_
  rw [aH,V.bys];rfl
 ·simp only [Nat.reduceEqDiff,false_and,or_false,true_and,false_or] at hw
  obtain ⟨rfl,rfl | rfl⟩:=hw
  all_goals
   refine jE [(0,_)] Tryz.func100 Tryz.ntmps100 fun B hB=>?_
   repeat' (first | refine jR ?_ | (refine jo ?_;first | refine jO fun _=>?_ | refine al F ?_) | refine ab F F ?_ | refine ad F F ?_)
   refine jY (vs:=[_]) ?_
   rw [aH,V.bys];rfl
 ·have h7 : (bL t).length ≤ 3:=cL oM
  refine jE [(0,_)] Tryz.func100 Tryz.ntmps100 fun B hB=>?_
  repeat' (first | refine jR ?_ | (refine jo ?_;first | refine jO fun _=>?_ | refine al F ?_ | refine ac F F F (i5 oM) F ?_) | refine ab F F ?_ | refine ad F F ?_)
  refine jY (vs:=[_]) ?_
  rw [aH,V.bys];rfl
theorem vG {a : Option Addr} {k : Nat} : aG adD 100 [Ag [U8 (63 : Nat),S [],I 0,.slice a ([] : List V).length k]] G (· = S (V.nd 63 [] 0 []).bys):=by
 refine jE [(0,_)] Tryz.func100 Tryz.ntmps100 fun B hB=>?_
 repeat' (first | refine jR ?_ | (refine jo ?_;first | refine jO fun _=>?_ | refine al F ?_ | refine jV (ag F) ?_) | refine ab F F ?_ | refine ad F F ?_)
 refine jY (vs:=[_]) ?_
 rw [aH,V.bys];rfl
theorem wW {w : Nat} {t : Int} {u : V} {b o k : Nat} {d : VC} (h : w = 63 ∨ w = 85 ∨ w = 61) (ht : 0 ≤ t ∧ t ≤ 200) (cx_bys : aG adD 100 [Ag (bG d)] G (· = S u.bys)) (hbl : u.bys.length ≤ 100000) (hs : cH G b o (bG d)) :
  aG adD 100 [Ag [U8 (w : Nat),S [],I t,.slice (some ⟨b,o,none⟩) 1 k]] G (· = S (V.nd w [] t [u]).bys):=by
 have hn3:=cL (n:=t) oM
 have hn4:=cL (n:=(u.bys.length : Nat)) oM
 have e1 : (V.nd w [] t [u]).bys = fR w [] t 1 u.bys:=by rw [V.bys];simp [V.byss]
 rw [e1]
 rcases h with rfl | rfl | rfl
 all_goals
  refine jE [(0,_)] Tryz.func100 Tryz.ntmps100 fun B hB=>?_
  repeat' (first | refine jX ?_ | (refine jo ?_;first | refine jO fun _=>?_ | refine al F ?_ | refine jV (wl F F aS F F F) ?_ | refine jV (ag F) ?_ | refine jV (aT F F oM) ?_ | refine ac F F F cx_bys F ?_) | refine ab F F ?_ | refine ad F F ?_ | (refine ak (ar (id:=28) _ (fun _ h=>h) aj ?_);refine jT 9 [0,3] (aa 11 9) ?_;(refine jG (aa 11 11) 1 F (aC F F F) ?_);(refine jG (aa 11 27) 4 F (aC F F F) ?_);(refine jG (aa 11 59) 5 F (aT F F oM) ?_);(refine jG (aa 11 123) 6 F (wl F F aS F F F) ?_);refine jA 2 F ?_;(refine ac F F F (i5 oM) F ?_);refine jS (aa 11 127) ?_;refine jA 7 F ?_;(refine ac F F F cx_bys F ?_);refine jS (aa 11 255) ?_;refine jA 8 F ?_;(refine ac F F F (ux oM) F ?_);refine jS (aa 11 511) ?_;refine jW 0 [9,10] (aa 11 2047) ?_;refine jQ ?_))
  refine jY (vs:=[_]) ?_
  rw [aH];rfl
theorem wX {ks : List V} {cs : List VC} {a : Option Addr} {k : Nat} (hk : ks.length ≤ 100000) (hcl : cs.length = ks.length) (hsl : bq G (.slice a ks.length k) 4 cs.length (ax bG cs)) (hfl : (V.byss ks).flatten.length ≤ 100000)
  (ih : ∀ i,i < ks.length → aG adD 100 [Ag (bG (ae cs i))] G (· = S (ae ks i).bys) ∧ (ae ks i).bys.length ≤ 100000) :
  aG adD 100 [Ag [U8 (91 : Nat),S [],I 0,.slice a ks.length k]] G (· = S (V.nd 91 [] 0 ks).bys):=by
 have hkp:=f3 ks.length
 have hk3:=cL (n:=ks.length) oM
 have hnp : 0 < (bL ks.length).length ∧ (bL ks.length).length ≤ 1000000000:=oM
 refine jE [(0,_)] Tryz.func100 Tryz.ntmps100 fun B hB=>?_
 repeat' (first | refine jR ?_ | (refine jo ?_;first | refine jO fun _=>?_ | refine al F ?_ | refine jL fun _=>?_ | refine jV (ag F) ?_ | refine ac F F F (i5 oM) F ?_ | (refine ai F F F (ut oM) F ?_;rintro _ _ ⟨b3,c3,rfl,rfl⟩;dsimp only [zA,fA])) | refine ab F F ?_ | refine ad F F ?_)
 rename_i bv bb
 refine aU (ι:=Nat × Nat × Nat × adE) (fun q=>q.1 ≤ ks.length ∧ q.2.2.2 = bL (ks.length : Nat) ++ ((V.byss ks).take q.1).flatten) (fun q=>[(5,Pt bb 0),(41,.slice a ks.length k),(42,I ks.length),(43,I q.1)]) (fun _=>G) (fun q=>[.acc (.slice (some ⟨q.2.1,0,none⟩) q.2.2.2.length (q.2.2.1 + 1)) ia 1 q.2.2.2.length (bM q.2.2.2),.blk bb (.cells (List.toArray [Pt bb 0,.slice (some ⟨q.2.1,0,none⟩) q.2.2.2.length (q.2.2.1 + 1)]) eH (0,0)),.blk bv (.cells (List.toArray [U8 (91 : Nat),S [],I 0,.slice a ks.length k]) dI (0,0))]) (fun q=>ks.length - q.1) (0,b3,c3,bL (ks.length : Nat)) ?_ tU F aZ (fun q Hq=>?_)
 ·exact ⟨Nat.zero_le _,by simp⟩
 obtain ⟨i,b2,c2,l⟩:=q
 dsimp only at Hq ⊢
 obtain ⟨hi0,hl⟩:=Hq
 have hj1:=kJ ks i
 have hll : l.length ≤ 200000:=by rw [hl,List.length_append];omega
 by_cases hi : i < ks.length
 ·obtain ⟨cx_bys,hbl⟩:=ih i hi
  obtain ⟨bf,of,cf,e,hs⟩:=hsl.expl oM
  simp only [Value.slice.injEq] at e
  obtain ⟨rfl,-,rfl⟩:=e
  have hm9 : l.length + (ae ks i).bys.length ≤ 1000000000:=oM
  repeat' (first | refine jM ?_ | (refine jo ?_;first | (refine jV (dH F F aS ?_) ?_;focus omega) | refine aQ F ?_ | refine jL fun _=>?_ | refine jV (aq F F oM) ?_ | refine jC F F F ?_ | (refine mj F F F (pX (by (repeat (assumption));done)) rfl ?_;rintro _ _ ⟨b3,c3,rfl,rfl⟩;dsimp only [zA,fA]) | refine ac F F F cx_bys F ?_) | refine ab F (aD oM) ?_)
  rw [uL]
  exact a7 (i + 1,_,_,l ++ (ae ks i).bys) ⟨by dsimp only;omega,by dsimp only;rw [hl,kK hi,List.append_assoc]⟩ (by dsimp only;omega) tU rfl sB
 ·have hin : i = ks.length:=oM
  subst hin
  rw [← iI,List.take_length] at hl
  repeat' (first | refine jR ?_ | (refine jo ?_;(refine mj F F F (tl oM) F ?_;rintro _ _ ⟨rfl,rfl⟩;dsimp only [zA,fA])) | refine ad F (aE oM) ?_)
  refine jY (vs:=[_]) ?_
  rw [aH,V.bys,hl,iI];rfl
theorem wV {ks : List V} {cs : List VC} {a : Option Addr} {k : Nat} (hk : ks.length ≤ 100000) (hcl : cs.length = ks.length) (hsl : bq G (.slice a ks.length k) 4 cs.length (ax bG cs)) (hfl : (V.byss ks).flatten.length ≤ 100000)
  (ih : ∀ i,i < ks.length → aG adD 100 [Ag (bG (ae cs i))] G (· = S (ae ks i).bys) ∧ 0 < (ae ks i).bys.length ∧ (ae ks i).bys.length ≤ 100000) :
  aG adD 100 [Ag [U8 (82 : Nat),S [],I 0,.slice a ks.length k]] G (· = S (V.nd 82 [] 0 ks).bys):=by
 refine jE [(0,_)] Tryz.func100 Tryz.ntmps100 fun B hB=>?_
 repeat' (first | refine jR ?_ | (refine jo ?_;first | refine jO fun _=>?_ | refine al F ?_ | refine jL fun _=>?_ | refine jV (ag F) ?_) | refine ad F F ?_)
 rename_i bv bb
 refine aU (ι:=Nat × Option (Nat × Nat) × adE) (fun q=>q.1 ≤ ks.length ∧ q.2.2 = ((V.byss ks).take q.1).flatten ∧ (q.2.1 = none → q.2.2 = [])) (fun q=>[(8,Pt bb 0),(83,.slice a ks.length k),(84,I ks.length),(85,I q.1)]) (fun _=>G) (fun q=>nA bb q.2.1 q.2.2 ++ [.blk bv (.cells (List.toArray [U8 (82 : Nat),S [],I 0,.slice a ks.length k]) dI (0,0))]) (fun q=>ks.length - q.1) (0,none,[]) ?_ tU F (by dsimp only [nA];repeat (exact List.Sublist.refl _)) (fun q Hq=>?_)
 ·exact ⟨Nat.zero_le _,by simp,fun _=>rfl⟩
 obtain ⟨i,q,l⟩:=q
 dsimp only at Hq ⊢
 obtain ⟨hi0,hl,hl0⟩:=Hq
 have hj1:=kJ ks i
 have hll : l.length ≤ 200000:=by rw [hl];omega
 by_cases hi : i < ks.length
 ·obtain ⟨cx_bys,hbl⟩:=ih i hi
  obtain ⟨bf,of,cf,e,hs⟩:=hsl.expl oM
  simp only [Value.slice.injEq] at e
  obtain ⟨rfl,-,rfl⟩:=e
  have hm9 : l.length + (ae ks i).bys.length ≤ 1000000000:=oM
  have hbl0 : 0 < (ae ks i).bys.length ∧ (ae ks i).bys.length ≤ 1000000000:=oM
  have hfn:=kK hi
  rw [← hl] at hfn
  cases q with
  | none =>
   obtain rfl:=hl0 rfl
   simp only [nA,List.cons_append,List.nil_append]
   repeat' (first | refine jM ?_ | (refine jo ?_;first | (refine jV (dH F F aS ?_) ?_;focus omega) | refine aQ F ?_ | refine jL fun _=>?_ | refine jV (aq F F oM) ?_ | refine jC F F F ?_ | (refine ai F F F (ut oM) F ?_;rintro _ _ ⟨b3,c3,rfl,rfl⟩;dsimp only [zA,fA]) | refine ac F F F cx_bys F ?_) | refine ab F (aD oM) ?_)
   exact a7 (i + 1,some (_,_),(ae ks i).bys) ⟨by dsimp only;omega,by dsimp only;rw [hfn];rfl,fun h=>(by cases h)⟩ (by dsimp only;omega) tU rfl (by dsimp only [nA];repeat (first | exact List.Sublist.refl _ | apply List.Sublist.cons_cons | apply List.Sublist.cons))
  | some q =>
   obtain ⟨b2,c2⟩:=q
   simp only [nA,List.cons_append,List.nil_append]
   repeat' (first | refine jM ?_ | (refine jo ?_;first | (refine jV (dH F F aS ?_) ?_;focus omega) | refine aQ F ?_ | refine jL fun _=>?_ | refine jV (aq F F oM) ?_ | refine jC F F F ?_ | (refine mj F F F (pX (by (repeat (assumption));done)) rfl ?_;rintro _ _ ⟨b3,c3,rfl,rfl⟩;dsimp only [zA,fA]) | refine ac F F F cx_bys F ?_) | refine ab F (aD oM) ?_)
   rw [uL]
   exact a7 (i + 1,some (_,_),l ++ (ae ks i).bys) ⟨by dsimp only;omega,by dsimp only;rw [hfn],fun h=>(by cases h)⟩ (by dsimp only;omega) tU rfl (by dsimp only [nA];repeat (first | exact List.Sublist.refl _ | apply List.Sublist.cons_cons | apply List.Sublist.cons))
 ·have hin : i = ks.length:=oM
  subst hin
  rw [← iI,List.take_length] at hl
  have e2 : (V.nd 82 [] 0 ks).bys = l ++ [0]:=by rw [V.bys,hl];rfl
  rw [e2]
  cases q with
  | none =>
   obtain rfl:=hl0 rfl
   simp only [nA,List.cons_append,List.nil_append]
   repeat' (first | refine jX ?_ | (refine jo ?_;(refine ai F F F aab F ?_;rintro _ _ ⟨rfl,rfl⟩;dsimp only [zA,fA])) | refine ad F (aE oM) ?_)
   refine jY (vs:=[_]) ?_
   rw [aH];rfl
  | some q =>
   obtain ⟨b2,c2⟩:=q
   simp only [nA,List.cons_append,List.nil_append]
   repeat' (first | refine jX ?_ | (refine jo ?_;(refine mj F F F (tl oM) F ?_;rintro _ _ ⟨rfl,rfl⟩;dsimp only [zA,fA])) | refine ad F (aE oM) ?_)
   refine jY (vs:=[_]) ?_
   rw [aH]
theorem acR : ∀ (n : Nat) {v : V} {c : VC},v.tot ≤ n → v.tot ≤ 100000 → v.wf → V.rep G v c → aG adD 100 [Ag (bG c)] G (· = S v.bys):=by
 intro n
 induction n with
 | zero=>intro v c h1 _ _ _;have:=iw v;omega
 | succ n ih =>
  intro v c h1 h2 hwf h
  obtain ⟨w,x,t,ks⟩:=v
  rw [V.wf] at hwf
  obtain ⟨hwf,hwk⟩:=hwf
  have hty:=qh hwf
  rw [br] at h1 h2
  obtain ⟨a,k,cs,rfl,hw,ht,h61,hcl,hsl,hks⟩:=fL h
  have hkl:=dq ks
  have hfl:=i6 ks hwk oM
  have hK : ∀ i,i < ks.length → aG adD 100 [Ag (bG (ae cs i))] G (· = S (ae ks i).bys) ∧ 0 < (ae ks i).bys.length ∧ (ae ks i).bys.length ≤ 100000:=fun i hi=>by
   have hti:=eM hi
   have hwi:=rQ hwk hi
   have hbl:=j0 _ hwi oM
   exact ⟨ih oM oM hwi (gJ hks i hi),oM,oM⟩
  have h1K : ks.length = 1 → (w = 63 ∨ w = 85 ∨ w = 61) → x = [] → aG adD 100 [Ag (bG ⟨w,x,t,a,ks.length,k⟩)] G (· = S (V.nd w x t ks).bys):=fun hk1 hw3 hx=>by
   obtain ⟨hk0,_,hk0l⟩:=hK 0 oM
   obtain ⟨bf,of,cf,e,hs⟩:=hsl.expl oM
   simp only [Value.slice.injEq] at e
   obtain ⟨rfl,-,rfl⟩:=e
   obtain ⟨u,rfl⟩:=List.length_eq_one_iff.1 hk1
   obtain ⟨d,rfl⟩:=List.length_eq_one_iff.1 (show cs.length = 1 by rw [hcl];rfl)
   subst hx
   exact wW hw3 hty hk0 hk0l hs
  rcases hwf with h7 | h7 | h7 | ⟨rfl,rfl,rfl,hk20,hk61⟩ | ⟨rfl,rfl,rfl,hk1,hk61⟩ | h7 | ⟨rfl,rfl,_,_,hk1,_⟩ | ⟨rfl,rfl,_,_,hk1,_⟩ | ⟨rfl,rfl,rfl,hpw,hka⟩
  ·obtain ⟨rfl,rfl,h8⟩:=h7
   exact jq (.inl ⟨F,F,h8⟩) (.inl F) (by dsimp only;omega)
  ·obtain ⟨rfl,rfl,h8⟩:=h7
   exact jq (.inr (.inl ⟨F,F,h8⟩)) (.inr (.inl F)) (by dsimp only;omega)
  ·obtain ⟨rfl,rfl,h8⟩:=h7
   exact jq (.inr (.inr (.inl ⟨F,F,h8⟩))) (.inr (.inr (.inl F))) (by dsimp only;omega)
  ·exact wX oM hcl hsl oM fun i hi=>⟨(hK i hi).1,(hK i hi).2.2⟩
  ·by_cases hk0 : ks.length = 0
   ·obtain rfl:=List.eq_nil_of_length_eq_zero hk0
    exact vG
   ·exact h1K oM (.inl F) F
  ·obtain ⟨rfl,rfl,h8,h9,rfl⟩:=h7
   exact jq (.inr (.inr (.inr (.inr (.inr (.inl ⟨F,F,h8,h9,F⟩)))))) (.inr (.inr (.inr F))) (by simp)
  ·exact h1K hk1 (.inr (.inl F)) F
  ·exact h1K hk1 (.inr (.inr F)) F
  ·exact wV oM hcl hsl oM fun i hi=>⟨(hK i hi).1,(hK i hi).2.1,(hK i hi).2.2⟩
theorem uC {s : adE} (h : s.length ≤ 999999) : aG adD 87 [S s] G (· = S (bL s.length ++ s)):=by
 have hl:=cL (n:=s.length) oM
 refine jE [(0,_)] Tryz.func87 Tryz.ntmps87 fun B hB=>?_
 repeat' (first | refine jM ?_ | (refine jo ?_;refine ac F F F (lv oM) F ?_))
 refine jY (vs:=[_]) ?_
 rfl
theorem aam {x : adE} {t : Int} {ks : List V} (h : V.wf (.nd 110 x t ks)) : ∃ m : Int,0 ≤ m ∧ m ≤ 999999 ∧ aM x 999999 = some m:=by
 rw [V.wf] at h
 have h1:=h.1
 unfold tZ at h1
 simp only [Nat.reduceEqDiff,false_and,or_false,true_and] at h1
 obtain ⟨_,_,m,h2,h3,_,h4⟩:=h1
 exact ⟨m,h2,h3,h4⟩
theorem k9 {w : Nat} {x : adE} {t : Int} {ks : List V} (h : V.wf (.nd w x t ks)) : V.wfs ks:=by rw [V.wf] at h;exact h.2
theorem xg {b cc : Nat} {v : Value} (h0 : 1 ≤ cc) (h : cH G b 0 [v]) : bq G (.slice (some ⟨b,0,none⟩) 1 cc) 1 1 [v]:=⟨rfl,.inr ⟨b,0,cc,rfl,h0,h⟩⟩
theorem yN {b tc : Nat} {v : Value} (h : cH G b 0 [v]) : bq G (.slice (some ⟨b,0,none⟩) 1 (tc + 1)) 1 1 [v]:=⟨rfl,.inr ⟨b,0,tc + 1,rfl,oM,h⟩⟩
theorem wY {r tx : adE} {b : Nat} {tg : List Int} {bs : List Nat} {KS : List V} {a a2 : Option Addr} {c c2 m : Nat} (hm : m = KS.length) (hm9 : m ≤ 100000) (htx : tx = [82] ∨ tx = [85]) (h2 : cH G b 0 [S (64 :: r),S tx,.slice a m c,.slice a2 m c2])
  (h3 : bq G (.slice a m c) 1 m (ax eb tg)) (h4 : bq G (.slice a2 m c2) 1 m (ax eR bs)) (htl : tg.length = m) (hbl : bs.length = m) (hfl : (V.byss KS).flatten.length ≤ 100000)
  (hk : ∀ i,i < m → ∃ u,ae KS i = V.nd 61 [] (ae tg i) [u] ∧ aG adD 48 [Pt (ae bs i) 0] G (· = S u.bys) ∧ u.bys.length ≤ 100000 ∧ 0 ≤ ae tg i ∧ ae tg i ≤ 999999) :
  aG adD 48 [Pt b 0] G (· = S ((V.byss KS).flatten ++ if tx = [82] then [0] else [])):=by
 refine jE [(0,_)] Tryz.func48 Tryz.ntmps48 fun B hB=>?_
 repeat' (first | refine jX ?_ | (refine jo ?_;refine jV (an F F aS F F) ?_) | refine ad F F ?_)
 refine aU (ι:=Nat) (fun i=>i ≤ m) (fun i=>[(0,Pt b 0),(7,S (((V.byss KS).take i).flatten)),(8,I i)]) (fun _=>G) (fun i=>[]) (fun i=>m - i) 0 ?_ tU F aZ (fun i Hi=>?_)
 ·exact Nat.zero_le _
 have hj1:=kJ KS i
 by_cases hi : i < m
 ·obtain ⟨u,hu1,cx_bys,hu2,hu3⟩:=hk i hi
  have hn3:=cL hu3.2
  have hn4:=cL (n:=(u.bys.length : Nat)) oM
  have hfn:=kK (ks:=KS) (i:=i) oM
  have hub : (V.nd 61 [] (ae tg i) [u]).bys = bL (ae tg i) ++ (bL u.bys.length ++ u.bys):=by rw [V.bys];simp [V.byss,fR]
  rw [hu1,hub] at hfn
  have hxt : ae tg i = ae tg i:=rfl
  have hxi : ae bs i = ae bs i:=rfl
  obtain ⟨tgb,to,tc,e,hs1⟩:=h3.expl oM
  simp only [Value.slice.injEq] at e
  obtain ⟨rfl,-,rfl⟩:=e
  obtain ⟨kb,ko,kc,e,hs2⟩:=h4.expl oM
  simp only [Value.slice.injEq] at e
  obtain ⟨rfl,-,rfl⟩:=e
  repeat' (first | refine jX ?_ | (refine jo ?_;first | refine jV (an F F aS F F) ?_ | (refine jV (cZ F F aS ?_ aS F) ?_;focus omega) | refine jV (ag F) ?_ | refine jV (aq F F oM) ?_ | refine ac F F F (lv oM) F ?_ | refine ac F F F (uC oM) F ?_ | refine ac F F F cx_bys F ?_) | refine ab F (aD oM) ?_)
  refine Nx.re (d:=7) (v':=S (((V.byss KS).take (i + 1)).flatten)) F (congrArg (fun l=>S l) ?_) ?_
  ·rw [hfn];simp
  exact a7 (i + 1) oM oM tU F aZ
 ·have hin : i = KS.length:=oM
  subst hin
  have hfe : (V.byss KS).take KS.length = V.byss KS:=by rw [← iI,List.take_length]
  rw [hfe]
  rcases htx with rfl | rfl
  all_goals
   repeat' (first | refine jX ?_ | (refine jo ?_;first | refine jV (an F F aS F F) ?_ | refine jF fun _=>?_ | refine jV (dU F F (by (repeat (first | exact BL.nil | apply BL.lit rfl));done)) ?_ | refine jV (ag F) ?_) | refine ab F F ?_ | (refine ad F (by first | rfl | (refine decide_eq_false ?_;(omega))) ?_))
   refine jY (vs:=[_]) ?_
   rw [aH];first | rfl | (simp;done)
theorem th {ts : List Ty} (hw : SchW ts) {v : V} {k : adE} {b : Nat} (h : RepR G ts v k b) : v.wf → v.tot ≤ 100000 → aG adD 48 [Pt b 0] G (· = S v.bys):=by
 induction h with
 | leaf w x k tx b h1 h2 =>
  intro hwf ht
  rw [br] at ht
  rcases h2 with ⟨rfl,rfl,rfl,_⟩ | ⟨rfl,rfl,rfl⟩ | ⟨rfl,rfl,rfl,rfl | rfl⟩
  ·obtain ⟨m,hm0,hm1,hnum0⟩:=aam hwf
   refine jE [(0,_)] Tryz.func48 Tryz.ntmps48 fun B hB=>?_
   repeat' (first | refine jX ?_ | (refine jo ?_;first | refine jV (an F F aS F F) ?_ | (refine dn F F F (gt oM) F ?_;rintro _ ⟨n,rfl,hnum⟩)) | refine ab F F ?_)
   obtain rfl:=hnum _ hnum0
   repeat' (first | refine jR ?_ | (refine jo ?_;refine ac F F F (lv oM) F ?_))
   refine jY (vs:=[_]) ?_
   rw [aH,V.bys];simp [fR,hnum0]
  ·have htl : (39 :: (x ++ [39])).length = x.length + 2:=by simp
   have hdt : ∀ n : Nat,n = x.length → ((39 :: (x ++ [39])).take (1 + n)).drop 1 = x:=fun n hn=>by rw [hn,Nat.add_comm,List.take_succ_cons,List.drop_succ_cons,List.drop_zero,List.take_left]
   generalize 39 :: (x ++ [39]) = tx at *
   refine jE [(0,_)] Tryz.func48 Tryz.ntmps48 fun B hB=>?_
   repeat' (first | refine jX ?_ | (refine jo ?_;refine jV (an F F aS F F) ?_) | refine ab F F ?_ | refine ad F F ?_ | (refine ak (ar (id:=6) _ (fun _ h=>h) aj ?_);refine jT 7 [0,1,2,4,5,6] (aa 13 119) ?_;(refine jG (aa 13 127) 3 F (an F F aS F F) ?_);(refine jG (aa 13 255) 7 F (an F F aS F F) ?_);refine jW 2 [8,9,10] (aa 13 2047) ?_;refine jA 11 F ?_;((refine ac F F F (uC ?_) F ?_;(focus ((simp;omega);done))));refine jS (aa 13 4095) ?_;refine jT 0 [12] (aa 13 8191) ?_;refine jQ ?_))
   refine jY (vs:=[_]) ?_
   have e3 : (tx.take (((tx.length : Nat) : Int) - 1).toNat).drop (Int.toNat 1) = x:=by
    rw [show (((tx.length : Nat) : Int) - 1).toNat = 1 + x.length by omega];exact hdt _ F
   rw [aH,e3,V.bys];rfl
  ·refine jE [(0,_)] Tryz.func48 Tryz.ntmps48 fun B hB=>?_
   repeat' (first | refine jX ?_ | (refine jo ?_;first | refine jV (an F F aS F F) ?_ | refine jF fun _=>?_ | refine jV (dU F F (by (repeat (first | exact BL.nil | apply BL.cons));done)) ?_) | refine ab F F ?_ | refine ad F F ?_)
   refine jY (vs:=[_]) ?_
   rw [aH,V.bys];rfl
  ·refine jE [(0,_)] Tryz.func48 Tryz.ntmps48 fun B hB=>?_
   repeat' (first | refine jX ?_ | (refine jo ?_;first | refine jV (an F F aS F F) ?_ | refine jF fun _=>?_ | refine jV (dU F F (by (repeat (first | exact BL.nil | apply BL.cons));done)) ?_) | refine ab F F ?_ | refine ad F F ?_)
   refine jY (vs:=[_]) ?_
   rw [aH,V.bys];rfl
 | lst k b ks bs a c h1 h2 h3 hk ih =>
  intro hwf ht
  rw [br] at ht
  have hwk:=k9 hwf
  have hkl:=dq ks
  have hk3:=cL (n:=ks.length) oM
  have hfl:=i6 ks hwk oM
  refine jE [(0,_)] Tryz.func48 Tryz.ntmps48 fun B hB=>?_
  repeat' (first | refine jX ?_ | (refine jo ?_;first | refine jV (an F F aS F F) ?_ | refine jV (ag F) ?_ | refine ac F F F (lv oM) F ?_) | refine ab F F ?_ | refine ad F F ?_)
  refine Nx.re (d:=5) (v':=S (bL ks.length ++ ((V.byss ks).take 0).flatten)) F (congrArg (fun l=>S l) (by simp)) ?_
  refine aU (ι:=Nat) (fun i=>i ≤ ks.length) (fun i=>[(0,Pt b 0),(5,S (bL ks.length ++ ((V.byss ks).take i).flatten)),(6,I i)]) (fun _=>G) (fun i=>[]) (fun i=>ks.length - i) 0 ?_ tU F aZ (fun i Hi=>?_)
  ·exact Nat.zero_le _
  have hj1:=kJ ks i
  by_cases hi : i < ks.length
  ·have hti:=eM hi
   have hwi:=rQ hwk hi
   have cx_bys:=ih i hi hwi oM
   have hbl:=j0 _ hwi oM
   have hxi : ae bs i = ae bs i:=rfl
   obtain ⟨kb,ko,kc,e,hs⟩:=h2.expl oM
   simp only [Value.slice.injEq] at e
   obtain ⟨rfl,-,rfl⟩:=e
   repeat' (first | refine jX ?_ | (refine jo ?_;first | refine jV (an F F aS F F) ?_ | (refine jV (cZ F F aS ?_ aS F) ?_;focus omega) | refine jV (ag F) ?_ | refine jV (aq F F oM) ?_ | refine ac F F F cx_bys F ?_) | refine ab F (aD oM) ?_)
   refine Nx.re (d:=5) (v':=S (bL ks.length ++ ((V.byss ks).take (i + 1)).flatten)) F (congrArg (fun l=>S l) (by rw [kK hi];simp)) ?_
   exact a7 (i + 1) oM oM tU F aZ
  ·have hin : i = ks.length:=oM
   subst hin
   repeat' (first | refine jR ?_ | (refine jo ?_;first | refine jV (an F F aS F F) ?_ | refine jV (ag F) ?_) | refine ad F (aE oM) ?_)
   refine jY (vs:=[_]) ?_
   rw [aH,V.bys,← iI,List.take_length];rfl
 | non k b h1 =>
  intro _ _
  refine jE [(0,_)] Tryz.func48 Tryz.ntmps48 fun B hB=>?_
  repeat' (first | refine jX ?_ | (refine jo ?_;first | refine jV (an F F aS F F) ?_ | refine jF fun _=>?_ | refine jV (dU F F (by (repeat (first | exact BL.nil | apply BL.lit rfl));done)) ?_ | refine jV (ag F) ?_) | refine ab F F ?_ | refine ad F F ?_)
  refine jY (vs:=[_]) ?_
  rfl
 | opt k b kb b' cc v h0 h1 h2 h3 ih =>
  intro hwf ht
  simp only [br,V.tots] at ht
  have hwv:=(k9 hwf).1
  have cx_bys:=ih hwv oM
  have hbl:=j0 _ hwv oM
  refine jE [(0,_)] Tryz.func48 Tryz.ntmps48 fun B hB=>?_
  repeat' (first | refine jX ?_ | (refine jo ?_;first | refine jV (an F F aS F F) ?_ | refine jV (ag F) ?_) | refine ab F F ?_ | refine ad F F ?_ | (refine ak (ar (id:=19) _ (fun _ h=>h) aj ?_);refine jT 8 [2,3,4] (aa 11 28) ?_;(refine jG (aa 11 60) 5 F (an F F aS F F) ?_);(refine jG (aa 11 124) 6 F (aT F F oM) ?_);(refine jG (aa 11 252) 7 F (an F F aS F F) ?_);refine cX [0,8] kR dC ⟨?_,?_,trivial⟩;(focus (refine bE F F ?_;(refine jF fun _=>?_);refine jS (aa 11 253) ?_;((refine jG (aa 11 255) 1 F (dU F F (by (repeat (first | exact BL.nil | apply BL.lit rfl));done)) ?_));refine jA 8 F ?_;(refine ac F F F cx_bys F ?_);refine jS (aa 11 511) ?_;refine jW 0 [9,10] (aa 11 2047) ?_;refine jQ ?_));rotate_left 1;(focus (refine bE F F ?_;(refine ac F F F cx_bys F ?_);refine jS (aa 11 508) ?_;refine jA 0 F ?_;(refine jF fun _=>?_);refine jS (aa 11 509) ?_;((refine jG (aa 11 511) 1 F (dU F F (by (repeat (first | exact BL.nil | apply BL.lit rfl));done)) ?_));refine jW 0 [9,10] (aa 11 2047) ?_;refine jQ ?_));rotate_left 1))
  all_goals refine jY (vs:=[_]) ?_
  all_goals (rw [aH,V.bys];simp [fR,V.byss];rfl)
 | recd k b t fs bs a a2 c c2 h0 h1 h2 h3 h4 h5 hk ih =>
  intro hwf ht
  obtain ⟨r,rfl⟩:=dv h0.1
  rw [br] at ht
  have hwk:=k9 hwf
  have hml : (fs.map (fun p : Fld × V=>V.nd 61 [] p.1.tag [p.2])).length = fs.length:=by simp
  have hnt : ∀ i,i < fs.length → ae (fs.map (fun p : Fld × V=>V.nd 61 [] p.1.tag [p.2])) i = V.nd 61 [] (ae fs i).1.tag [(ae fs i).2]:=fun i hi=>by rw [aI (by simpa using hi),aI hi];simp
  generalize hKS : fs.map (fun p : Fld × V=>V.nd 61 [] p.1.tag [p.2]) = KS at *
  have hfl:=i6 KS hwk oM
  refine (wY (tx:=[82]) (KS:=KS) hml.symm (by have:=dq KS;omega) (.inl rfl) h1 h2 h3 (by simp) h4 oM fun i hi=>?_).mono fun v _ _ hv=>?_
  ·have hti:=eM (ks:=KS) (i:=i) oM
   have hwi:=rQ hwk (i:=i) oM
   rw [hnt i hi] at hti hwi
   simp only [br,V.tots] at hti
   have hwv:=(k9 hwi).1
   have hbl:=j0 _ hwv oM
   have htn : ae (fs.map fun p : Fld × V=>p.1.tag) i = (ae fs i).1.tag:=by rw [aI (by simpa using hi),aI hi];simp
   exact ⟨(ae fs i).2,by rw [hnt i hi,htn],ih i hi hwv oM,oM,by rw [htn];exact (gy hw h0.1 (h5 i hi)).symm⟩
  ·obtain ⟨g1,g2,hv⟩:=hv;exact ⟨g1,g2,by rw [hv,V.bys];rfl⟩
 | enm k b tgb t d h0 h1 h2 h3 =>
  intro _ _
  obtain ⟨r,rfl⟩:=dv h0.1
  have htg:=gy hw h0.1 h1
  have hn3:=cL (n:=d.tag) oM
  refine jE [(0,_)] Tryz.func48 Tryz.ntmps48 fun B hB=>?_
  repeat' (first | refine jX ?_ | (refine jo ?_;refine jV (an F F aS F F) ?_) | refine ad F F ?_)
  refine Nx.re (d:=7) (v':=S ((bL d.tag).take (0 * (bL d.tag).length))) F (congrArg (fun l=>S l) (by simp)) ?_
  refine aU (ι:=Nat) (fun i=>i ≤ 1) (fun i=>[(0,Pt b 0),(7,S ((bL d.tag).take (i * (bL d.tag).length))),(8,I i)]) (fun _=>G) (fun i=>[]) (fun i=>1 - i) 0 ?_ tU F aZ (fun i Hi=>?_)
  ·exact Nat.zero_le _
  have hi2 : i = 0 ∨ i = 1:=oM
  rcases hi2 with rfl | rfl
  ·rw [Nat.zero_mul,List.take_zero]
   repeat' (first | refine jX ?_ | (refine jo ?_;first | refine jV (an F F aS F F) ?_ | refine jV (ag F) ?_ | refine jV (aq F F oM) ?_ | refine ac F F F (lv oM) F ?_) | refine ab F F ?_ | refine ad F F ?_)
   refine Nx.re (d:=7) (v':=S ((bL d.tag).take (1 * (bL d.tag).length))) F (congrArg (fun l=>S l) (by simp)) ?_
   exact a7 1 oM oM tU F aZ
  ·rw [Nat.one_mul,List.take_length]
   repeat' (first | refine jR ?_ | (refine jo ?_;first | refine jV (an F F aS F F) ?_ | refine jV (ag F) ?_) | refine ad F F ?_)
   refine jY (vs:=[_]) ?_
   rw [aH,V.bys];rfl
 | uni k b tgb kb b' cc t d v hcc h0 h1 h2 h3 h4 hk ih =>
  intro hwf ht
  obtain ⟨r,rfl⟩:=dv h0.1
  have htg:=gy hw h0.1 h1
  simp only [br,V.tots] at ht
  have hwv:=(k9 hwf).1
  have hbl:=j0 _ hwv oM
  have hn3:=cL (n:=d.tag) oM
  have hn4:=cL (n:=(v.bys.length : Nat)) oM
  have hub : (V.nd 61 [] d.tag [v]).bys = bL d.tag ++ (bL v.bys.length ++ v.bys):=by rw [V.bys];simp [V.byss,fR]
  refine (wY (tx:=[85]) (KS:=[V.nd 61 [] d.tag [v]]) (tg:=[d.tag]) (bs:=[b']) F (by simp) (.inr F) h2 (yN h3) (xg hcc h4) F F ?_ fun i hi=>?_).mono fun u _ _ hu=>?_
  ·simp only [V.byss,List.flatten_cons,List.flatten_nil,List.append_nil,hub,List.length_append];omega
  ·have : i = 0:=by have h9 : i < 1:=hi;omega
   subst this
   exact ⟨v,F,ih hwv oM,oM,htg.symm⟩
  ·obtain ⟨g1,g2,hu⟩:=hu;exact ⟨g1,g2,by rw [hu,V.bys];simp [V.byss,fR,hub]⟩
def dN (s k w : adE) : Option adE:=match cW s k w with
 | some u=>if u.bys.length ≤ 600 then some u.bys else none
 | none=>none
theorem vI {s k w b : adE} (h : dN s k w = some b) : b.length ≤ 600:=by
 unfold dN at h
 split at h
 ·split at h
  ·simp only [Option.some.injEq] at h;subst h;assumption
  ·cases h
 ·cases h
theorem eU {s k w : adE} {u : V} (hg : cW s k w = some u) : ∃ ts,aP s = some ts ∧ aB ts k = true ∧ bV ts k w = some u ∧ u.tot ≤ 40000 ∧ u.wf:=by
 obtain ⟨ts,hs,hki,hvo⟩ : ∃ ts,aP s = some ts ∧ aB ts k = true ∧ bV ts k w = some u:=by
  unfold cW at hg
  cases hs : aP s with
  | none=>rw [hs] at hg;cases hg
  | some ts =>
   rw [hs] at hg
   dsimp only at hg
   by_cases hk : aB ts k = true
   ·rw [if_pos hk] at hg;exact ⟨ts,F,hk,hg⟩
   ·rw [if_neg hk] at hg;cases hg
 refine ⟨ts,hs,hki,hvo,?_,(ou hvo).1⟩
 unfold bV at hvo
 split at hvo
 ·split at hvo
  ·rename_i v hv
   obtain rfl:=Option.some.inj hvo
   have:=iW _ _ _ _ hv
   dsimp only at this;omega
  ·cases hvo
 ·cases hvo
theorem rC {c : VC} {b : adE} (cx_bys : aG adD 100 [Ag (bG c)] G (· = S b)) : aG adD 57 [Ag (bG c)] G (· = Tu [S (if b.length ≤ 600 then b else []),Bo (decide (b.length ≤ 600))]):=by
 simp only [bG,VC.sl] at *
 by_cases h6 : b.length ≤ 600
 ·rw [if_pos h6,decide_eq_true h6]
  refine jE [(0,_)] Tryz.func57 Tryz.ntmps57 fun B hB=>?_
  repeat' (first | refine jR ?_ | (refine jo ?_;first | refine jO fun _=>?_ | refine aQ F ?_ | refine ac F F F cx_bys F ?_) | refine ad F (aE oM) ?_)
  all_goals refine jY (vs:=[_,_]) ?_
  all_goals rfl
 ·rw [if_neg h6,decide_eq_false h6]
  refine jE [(0,_)] Tryz.func57 Tryz.ntmps57 fun B hB=>?_
  repeat' (first | refine jR ?_ | (refine jo ?_;first | refine jO fun _=>?_ | refine aQ F ?_ | refine ac F F F cx_bys F ?_) | refine ab F (aD oM) ?_)
  all_goals refine jY (vs:=[_,_]) ?_
  all_goals rfl
theorem k7 {s k w : adE} (h : s.length ≤ 1048576 ∧ k.length ≤ 1048576 ∧ w.length ≤ 1048576) : aG adD 21 [S s,S k,S w] G (· = Tu [S ((dN s k w).getD []),Bo (dN s k w).isSome]):=by
 unfold dN
 cases hg : cW s k w with
 | none =>
  have cx_gi0:=s9 (G:=G) h hg
  refine jB (Post:=fun v G' L'=>G' = G ∧ L' = [] ∧ _) [(0,_),(1,_),(2,_)] Tryz.func21 Tryz.ntmps21 fun B hok hB hW=>?_
  repeat' (first | refine jR ?_ | (refine jo ?_;first | refine jL fun _=>?_ | refine jC F F F ?_ | (refine aF F F F cx_gi0 F ?_;rintro _ G hle ⟨p1,a1,b1,c1,rfl⟩;skip)) | refine ab F F ?_)
  all_goals refine Nx.base hok hB ?_
  all_goals refine jY (vs:=[_,_]) ?_
  all_goals rfl
 | some u =>
  obtain ⟨ts,hs,hki,hvo,hto,hwf⟩:=eU hg
  have cx_gi1:=s8 (G:=G) h hs hki hvo
  dsimp only
  have cy_bys : ∀ {G : Gh} {c : VC},V.rep G u c → aG adD 100 [Ag (bG c)] G (· = S u.bys):=fun h=>acR u.tot (Nat.le_refl _) oM hwf h
  generalize u.bys = ub at *
  by_cases h6 : ub.length ≤ 600
  ·rw [if_pos h6]
   refine jB (Post:=fun v G' L'=>G' = G ∧ L' = [] ∧ _) [(0,_),(1,_),(2,_)] Tryz.func21 Tryz.ntmps21 fun B hok hB hW=>?_
   repeat' (first | refine jR ?_ | (refine jo ?_;first | refine jL fun _=>?_ | refine jC F F F ?_ | refine aQ F ?_ | (refine aF F F F cx_gi1 F ?_;rintro _ G hle ⟨bg,qg,cv,rfl,hTg,hRg,hrv⟩;skip)) | refine ad F F ?_)
   have cx_tb:=rC (G:=G) (cy_bys hrv)
   rw [if_pos h6,decide_eq_true h6] at cx_tb
   repeat' (first | refine jR ?_ | (refine jo ?_;refine ac F F F cx_tb F ?_))
   all_goals refine Nx.base hok hB ?_
   all_goals refine jY (vs:=[_,_]) ?_
   all_goals rfl
  ·rw [if_neg h6]
   refine jB (Post:=fun v G' L'=>G' = G ∧ L' = [] ∧ _) [(0,_),(1,_),(2,_)] Tryz.func21 Tryz.ntmps21 fun B hok hB hW=>?_
   repeat' (first | refine jR ?_ | (refine jo ?_;first | refine jL fun _=>?_ | refine jC F F F ?_ | refine aQ F ?_ | (refine aF F F F cx_gi1 F ?_;rintro _ G hle ⟨bg,qg,cv,rfl,hTg,hRg,hrv⟩;skip)) | refine ad F F ?_)
   have cx_tb:=rC (G:=G) (cy_bys hrv)
   rw [if_neg h6,decide_eq_false h6] at cx_tb
   repeat' (first | refine jR ?_ | (refine jo ?_;refine ac F F F cx_tb F ?_))
   all_goals refine Nx.base hok hB ?_
   all_goals refine jY (vs:=[_,_]) ?_
   all_goals rfl
theorem tB {s k w : adE} (h : s.length ≤ 1048576 ∧ k.length ≤ 1048576 ∧ w.length ≤ 1048576) (hg : cW s k w = none) : aG adD 43 [S s,S k,S w] G (· = Tu [S [],Bo false]):=by
 have cx_l40:=uD (G:=G) h hg
 refine jB (Post:=fun v G' L'=>G' = G ∧ L' = [] ∧ _) [(0,_),(1,_),(2,_)] Tryz.func43 Tryz.ntmps43 fun B hok hB hW=>?_
 repeat' (first | refine jR ?_ | (refine jo ?_;first | refine aK F ?_ | (refine aF F F F cx_l40 F ?_;rintro _ G hle ⟨uu,q1,rfl⟩;skip)) | refine aA F F F ?_ | refine ab F F ?_)
 all_goals refine Nx.base hok hB ?_
 all_goals refine jY (vs:=[_,_]) ?_
 all_goals rfl
theorem tA {s k w : adE} {ub : adE} (cx_l4 : bd adD 79 [S s,S k,S w] G (fun r G'=>∃ u b,r = Tu [u,Pt b 0,Bo true] ∧ aG adD 48 [Pt b 0] G' (· = S ub))) : aG adD 43 [S s,S k,S w] G (· = Tu [S (if ub.length ≤ 600 then ub else []),Bo (decide (ub.length ≤ 600))]):=by
 by_cases h6 : ub.length ≤ 600
 ·rw [if_pos h6,decide_eq_true h6]
  refine jB (Post:=fun v G' L'=>G' = G ∧ L' = [] ∧ _) [(0,_),(1,_),(2,_)] Tryz.func43 Tryz.ntmps43 fun B hok hB hW=>?_
  repeat' (first | refine jR ?_ | (refine jo ?_;first | refine aw F ?_ | (refine aF F F F cx_l4 F ?_;rintro _ G hle ⟨uu,q1,rfl,hyes⟩;skip) | refine ac F F F hyes F ?_) | refine am F F F ?_ | refine ad F (aE oM) ?_)
  all_goals refine Nx.base hok hB ?_
  all_goals refine jZ (vs:=[_,_]) F ⟨F,F,trivial⟩ F ⟨F,F,?_⟩
  all_goals rfl
 ·rw [if_neg h6,decide_eq_false h6]
  refine jB (Post:=fun v G' L'=>G' = G ∧ L' = [] ∧ _) [(0,_),(1,_),(2,_)] Tryz.func43 Tryz.ntmps43 fun B hok hB hW=>?_
  repeat' (first | refine jR ?_ | (refine jo ?_;first | refine aw F ?_ | (refine aF F F F cx_l4 F ?_;rintro _ G hle ⟨uu,q1,rfl,hyes⟩;skip) | refine ac F F F hyes F ?_) | refine am F F F ?_ | refine ab F (aD oM) ?_)
  all_goals refine Nx.base hok hB ?_
  all_goals refine jZ (vs:=[_,_]) F ⟨F,F,trivial⟩ F ⟨F,F,?_⟩
  all_goals rfl
theorem tV {s k w : adE} (h : s.length ≤ 1048576 ∧ k.length ≤ 1048576 ∧ w.length ≤ 1048576) : aG adD 43 [S s,S k,S w] G (· = Tu [S ((dN s k w).getD []),Bo (dN s k w).isSome]):=by
 unfold dN
 cases hg : cW s k w with
 | none=>exact tB h hg
 | some u =>
  obtain ⟨ts,hs,hki,hvo,hto,hwf⟩:=eU hg
  have h1:=tA (ub:=u.bys) ((z5 (G:=G) h hs hki hvo).mono (by
   rintro r G' L' ⟨g1,g2,v,b,g3,g4⟩
   exact ⟨g1,g2,v,b,g3,th (b6 hs) g4 hwf oM⟩))
  dsimp only
  split
  ·rename_i h6;rw [if_pos h6,decide_eq_true h6] at h1;exact h1
  ·rename_i h6;rw [if_neg h6,decide_eq_false h6] at h1;exact h1
def k5 (s k b : adE) : Option V:=match aP s with
 | some ts=>if aB ts k = true ∧ b.length ≤ 600 then (match cU (rb ts 12) k b with
  | some v=>if v.out.length ≤ 400 then some v else none
  | none=>none) else none
 | none=>none
def iD (s k b : adE) : Option V:=match aP s with
 | some ts=>if aB ts k = true ∧ b.length ≤ 600 then (match cU (rb ts 13) k b with
  | some v=>if v.out.length ≤ 400 ∧ v.deep ≤ 12 then some v else none
  | none=>none) else none
 | none=>none
def dM (s k b : adE) : Option V:=match aP s with
 | some ts=>if aB ts k = true ∧ b.length ≤ 600 then km ts k b else none
 | none=>none
theorem qx {s k b : adE} {v : V} (h : k5 s k b = some v) : ∃ ts,aP s = some ts ∧ aB ts k = true ∧ b.length ≤ 600 ∧ cU (rb ts 12) k b = some v ∧ v.out.length ≤ 400:=by
 unfold k5 at h
 split at h
 ·rename_i ts hs
  split at h
  ·rename_i hk
   split at h
   ·rename_i u hu
    split at h
    ·cases h;exact ⟨ts,hs,hk.1,hk.2,hu,by assumption⟩
    ·cases h
   ·cases h
  ·cases h
 ·cases h
theorem qy {s k b : adE} {v : V} (h : iD s k b = some v) : ∃ ts,aP s = some ts ∧ aB ts k = true ∧ b.length ≤ 600 ∧ cU (rb ts 13) k b = some v ∧ v.out.length ≤ 400 ∧ v.deep ≤ 12:=by
 unfold iD at h
 split at h
 ·rename_i ts hs
  split at h
  ·rename_i hk
   split at h
   ·rename_i u hu
    split at h
    ·rename_i hc
     cases h;exact ⟨ts,hs,hk.1,hk.2,hu,hc.1,hc.2⟩
    ·cases h
   ·cases h
  ·cases h
 ·cases h
theorem hC {s k b : adE} {v : V} (h : dM s k b = some v) : ∃ ts,aP s = some ts ∧ aB ts k = true ∧ b.length ≤ 600 ∧ OfK ts k v ∧ v.deep ≤ 12 ∧ v.out.length ≤ 400 ∧ v.bys = b:=by
 unfold dM at h
 split at h
 ·rename_i ts hs
  split at h
  ·rename_i hk
   obtain ⟨h1,h2,h3,h4⟩:=(pW (b6 hs) oM).1 h
   exact ⟨ts,hs,hk.1,hk.2,h1,h2,h3,h4⟩
  ·cases h
 ·cases h
theorem pP {s k b : adE} {v : V} (h : k5 s k b = some v) : dM s k b = if v.bys = b then some v else none:=by
 obtain ⟨ts,hs,hk,hb,hr,ho⟩:=qx h
 have hr2:=cS hr
 unfold dM km
 rw [hs]
 dsimp only
 rw [if_pos ⟨hk,hb⟩,hr2]
 dsimp only
 by_cases h1 : v.bys = b
 ·rw [if_pos h1,if_pos ⟨h1,ho⟩]
 ·rw [if_neg h1,if_neg fun h=>h1 h.1]
theorem ze {s k b : adE} (h : k5 s k b = none) : dM s k b = none:=by
 cases hc : dM s k b with
 | none=>rfl
 | some v =>
  obtain ⟨ts,hs,hk,hb,h1,h2,h3,rfl⟩:=hC hc
  have:=py (b6 hs) 12 h1 h2 oM []
  rw [List.append_nil] at this
  unfold k5 at h
  rw [hs] at h
  dsimp only at h
  rw [if_pos ⟨hk,hb⟩,gK this] at h
  dsimp only at h
  rw [if_pos h3] at h
  cases h
theorem vm {s k b : adE} {v : V} (h : iD s k b = some v) : dM s k b = if v.bys = b then some v else none:=by
 obtain ⟨ts,hs,hk,hb,hr,ho,hd⟩:=qy h
 have hr2:=cS hr
 unfold dM
 rw [hs]
 dsimp only
 rw [if_pos ⟨hk,hb⟩]
 by_cases h1 : v.bys = b
 ·rw [if_pos h1]
  exact (sV (b6 hs) oM).2 ⟨hr2,hd,ho,h1⟩
 ·rw [if_neg h1]
  cases hc : km ts k b with
  | none=>rfl
  | some u =>
   obtain ⟨g1,g2,g3,g4⟩:=(sV (b6 hs) oM).1 hc
   rw [hr2] at g1
   simp only [Option.some.injEq,Prod.mk.injEq,and_true] at g1
   subst g1
   exact absurd g4 h1
theorem mc {s k b : adE} {v : V} (h : dM s k b = some v) : iD s k b = some v:=by
 obtain ⟨ts,hs,hk,hb,h1,h2,h3,rfl⟩:=hC h
 have:=py (b6 hs) 13 h1 oM oM []
 rw [List.append_nil] at this
 unfold iD
 rw [hs]
 dsimp only
 rw [if_pos ⟨hk,hb⟩,gK this]
 dsimp only
 rw [if_pos ⟨h3,h2⟩]
theorem zf {s k b : adE} (h : iD s k b = none) : dM s k b = none:=by
 cases hc : dM s k b with
 | none=>rfl
 | some v=>rw [mc hc] at h;cases h
theorem oH {s k : adE} {v : V} {ts : List Ty} (hs : aP s = some ts) (hk : aB ts k = true) (h : OfK ts k v) (hd : v.deep ≤ 12) (ho : v.out.length ≤ 400) : cW s k v.out = some v:=by
 unfold cW
 rw [hs]
 dsimp only
 rw [if_pos hk]
 exact iu (b6 hs) h ho hd
theorem oi {s k : adE} {v : V} {ts : List Ty} (hs : aP s = some ts) (hk : aB ts k = true) (h : OfK ts k v) (hd : v.deep ≤ 12) (ho : v.out.length ≤ 400) : dN s k v.out = if v.bys.length ≤ 600 then some v.bys else none:=by
 unfold dN
 rw [oH hs hk h hd ho]
theorem j6 {x : adE} : ∀ {xs : List adE} {ps : List Int},cj xs = some ps → cj (xs ++ [x]) = (aM x 999999).map fun n=>ps ++ [n]
 | [],ps,h=>by
  simp only [cj,Option.some.injEq] at h;subst h
  simp only [List.nil_append,cj]
  cases aM x 999999 <;> rfl
 | y :: ys,ps,h=>by
  unfold cj at h
  cases hn : aM y 999999 with
  | none=>rw [hn] at h;cases h
  | some n =>
   rw [hn] at h
   dsimp only at h
   cases hs : cj ys with
   | none=>rw [hs] at h;cases h
   | some q =>
    rw [hs] at h
    simp only [Option.map_some,Option.some.injEq] at h
    subst h
    rw [List.cons_append]
    unfold cj
    rw [hn]
    dsimp only
    rw [j6 hs]
    cases aM x 999999 <;> rfl
theorem pg {x : adE} {ys : List adE} (h : aM x 999999 = none) : ∀ {xs : List adE},cj (xs ++ x :: ys) = none
 | []=>by simp only [List.nil_append,cj,h]
 | y :: xs=>by
  rw [List.cons_append]
  unfold cj
  cases aM y 999999 with
  | none=>rfl
  | some n=>dsimp only;rw [pg h];rfl
abbrev ab6 : TypeId:=3
def w7 (s : adE) (v : Value) (G : Gh) : Prop:=∃ a c n,v = Tu [.slice a n c,Bo (cJ s).isSome] ∧ ∀ p,cJ s = some p → n = p.length ∧ bq G (.slice a n c) 1 p.length (ax eb p)
theorem m4 {s : adE} (h : s ≠ []) : cJ s = match cj (aY 47 s) with
  | some p=>if p.length ≤ 8 then some p else none
  | none=>none:=by
 unfold cJ;rw [if_neg h]
 all_goals (cases cj (aY 47 s) <;> rfl)
theorem pG {s : adE} (h : s ≠ []) {i : Nat} (hi : i < (aY 47 s).length) (hn : aM (ae (aY 47 s) i) 999999 = none) : cJ s = none:=by
 rw [m4 h]
 have e : aY 47 s = (aY 47 s).take i ++ ae (aY 47 s) i :: (aY 47 s).drop (i + 1):=by
  rw [aI hi,List.getElem_cons_drop,List.take_append_drop]
 rw [e,pg hn]
theorem sX {s : adE} (h : s.length ≤ 1048576) : bd adD 47 [S s] G (w7 s):=by
 by_cases h0 : s = []
 ·subst h0
  refine jB [(0,_)] Tryz.func47 Tryz.ntmps47 fun B hok hB hW=>?_
  repeat' (first | refine jR ?_ | (refine jo ?_;refine jF fun _=>?_) | refine ab F F ?_)
  rename_i x
  refine Nx.blkAcc (m:=0) (sz:=1) .here F ?_
  refine Nx.sealS (v:=.slice (some ⟨x,0,none⟩) 0 0) fun G2 hG2 hsl=>?_
  refine jZ (vs:=[_,_]) F ⟨F,F,trivial⟩ F ⟨hG2,F,?_⟩
  exact ⟨_,_,_,F,fun p hp=>by
   obtain rfl : p = []:=by unfold cJ at hp;simpa using hp.symm
   exact ⟨F,hsl⟩⟩
 have cx_cutS : bd adD 82 [S s,U8 47] G (fun v G'=>bq G' v 1 (aY 47 s).length (ax bY (aY 47 s))):=ml (k:=47) oM
 have hcl:=g8 (k:=47) (s:=s)
 have hbad:=fun {i : Nat}=>pG h0 (i:=i)
 have hpo:=m4 h0
 have hxl : ∀ i,i < (aY 47 s).length → (ae (aY 47 s) i).length ≤ 100000000:=fun i hi=>by
  have:=c6 (bh hi)
  omega
 generalize aY 47 s = xs at *
 refine jB [(0,_)] Tryz.func47 Tryz.ntmps47 fun B hok hB hW=>?_
 repeat' (first | refine jR ?_ | (refine jo ?_;first | refine jF fun _=>?_ | (refine aF F F F cx_cutS F ?_;rintro _ G hle hcut;skip)) | refine ad F (aE ‹_›) ?_)
 rename_i x _
 obtain ⟨la,lc,rfl⟩:=hcut.sl
 refine Nx.blkAcc (m:=0) (sz:=1) .here F ?_
 refine aU (ι:=List Int × Option Addr × Nat × Nat) (fun j=>(j.1.length = j.2.2.2 ∧ j.2.2.2 ≤ xs.length) ∧ cj (xs.take j.2.2.2) = some j.1) (fun j=>[(4,.slice j.2.1 j.1.length j.2.2.1),(5,.slice la xs.length lc),(6,I j.2.2.2)]) (fun _=>G) (fun j=>[.acc (.slice j.2.1 j.1.length j.2.2.1) ab6 1 j.1.length (ax eb j.1)]) (fun j=>xs.length - j.2.2.2) ([],some ⟨x,0,none⟩,0,0) ?_ tU F aZ (fun j Hj=>?_)
 ·exact ⟨⟨F,Nat.zero_le _⟩,F⟩
 obtain ⟨ps,a,c,i⟩:=j
 dsimp only at Hj ⊢
 obtain ⟨⟨hpl,hi0⟩,hst⟩:=Hj
 by_cases hi : i < xs.length
 ·obtain ⟨bl,ol,cl,e,hsx⟩:=hcut.expl oM
  simp only [Value.slice.injEq] at e
  obtain ⟨rfl,-,rfl⟩:=e
  have hxl1:=hxl i hi
  cases hn : aM (ae xs i) 999999 with
  | none =>
   have hno:=hbad hi hn
   have hns : (!(aM (ae xs i) 999999).isSome) = true:=by rw [hn];rfl
   repeat' (first | refine jR ?_ | (refine jo ?_;first | refine jV (ag F) ?_ | refine jV (aq F F oM) ?_ | (refine jV (ew F F aS ?_) ?_;focus omega) | (refine dn F F F (gt oM) F ?_;rintro _ ⟨n,rfl,hnum⟩)) | (refine ab F (by first | assumption | (refine decide_eq_true ?_;(omega))) ?_))
   all_goals refine jZ (vs:=[_,_]) F ⟨F,F,trivial⟩ F ⟨hle,F,?_⟩
   all_goals exact ⟨_,_,_,by rw [hno];rfl,fun p hp=>by rw [hno] at hp;cases hp⟩
  | some m =>
   have hns : (!(aM (ae xs i) 999999).isSome) = false:=by rw [hn];rfl
   repeat' (first | refine jM ?_ | (refine jo ?_;first | refine jF fun _=>?_ | refine jV (ag F) ?_ | refine jV (aq F F oM) ?_ | (refine jV (ew F F aS ?_) ?_;focus omega) | refine ci F F F F F F F F F oM fun _ _=>?_ | (refine dn F F F (gt oM) F ?_;rintro _ ⟨n,rfl,hnum⟩)) | refine ab F (aD oM) ?_ | refine ad F ‹_› ?_)
   rename_i y1 yc
   have hmn:=hnum m hn
   subst hmn
   have hst2 : cj (xs.take (i + 1)) = some (ps ++ [n]):=by rw [cr hi,j6 hst,hn];rfl
   have hl1 : (ps ++ [n]).length = ps.length + 1:=by simp
   rw [show ax eb ps ++ [I n] = ax eb (ps ++ [n]) from (b5 eb ps n).symm]
   exact a7 (ps ++ [n],some ⟨y1,0,none⟩,yc,i + 1) ⟨⟨by dsimp only;omega,by dsimp only;omega⟩,hst2⟩ (by dsimp only;omega) (by rw [hl1];repeat (first | exact trivial | refine ⟨F,?_⟩)) F (by rw [hl1];repeat (first | exact List.nil_sublist _ | apply List.Sublist.cons_cons))
 ·rw [List.take_of_length_le oM] at hst
  rw [hst] at hpo
  dsimp only at hpo
  repeat' (first | refine jR ?_ | (refine jo ?_;refine jV (ag F) ?_) | refine ad F (aE oM) ?_)
  refine Nx.sealS (v:=.slice a ps.length c) fun G2 hG2 hsl=>?_
  refine jZ (vs:=[_,_]) F ⟨F,F,trivial⟩ F ⟨hle.trans hG2,F,?_⟩
  have e8 : decide (((xs.length : Nat) : Int) ≤ 8) = (cJ s).isSome:=by
   rw [hpo]
   by_cases h8 : ps.length ≤ 8
   ·rw [if_pos h8];exact decide_eq_true oM
   ·rw [if_neg h8];exact decide_eq_false oM
  refine ⟨_,_,_,by rw [e8];rfl,fun p hp=>?_⟩
  rw [hpo] at hp
  split at hp
  ·simp only [Option.some.injEq] at hp;subst hp;exact ⟨F,hsl⟩
  ·cases hp
theorem aaC {ts : List Ty} {c : UInt8} {r : adE} (h : c.toNat ≠ 64) : aX ts (c :: r) = none:=by
 cases h2 : aX ts (c :: r) with
 | none=>rfl
 | some t=>exact (dg h2 F h).elim
theorem xP {p : Nat → Prop} {n : Nat} (h : ∃ j,j < n ∧ p j) : ∃ j,j < n ∧ p j ∧ ∀ i,i < j → ¬ p i:=by
 obtain ⟨j,hj,hp⟩:=h
 induction j using Nat.strongRecOn with
 | _ j ih =>
  by_cases hc : ∃ i,i < j ∧ p i
  ·obtain ⟨i,hi,hpi⟩:=hc
   exact ih i hi oM hpi
  ·exact ⟨j,hj,hp,fun i hi hpi=>hc ⟨i,hi,hpi⟩⟩
theorem oB {f : Fld} : ∀ {fs : List (Fld × V)} {j : Nat},j < fs.length → (ae fs j).1.tag = f.tag → (∀ i,i < j → (ae fs i).1.tag ≠ f.tag) → cT f (fs.map aV) = some (ae fs j).2
 | [],j,hj,_,_=>by simp at hj
 | p :: fs,0,_,ht,_=>by
  rw [List.map_cons,cT,if_pos (show (aV p).tag = f.tag from ht)];rfl
 | p :: fs,j + 1,hj,ht,hno=>by
  rw [List.map_cons,cT,if_neg (show ¬ (aV p).tag = f.tag from hno 0 oM)]
  exact oB (fs:=fs) (j:=j) (by simpa using hj) ht fun i hi=>hno (i + 1) oM
theorem oz {f : Fld} : ∀ {fs : List (Fld × V)},(∀ i,i < fs.length → (ae fs i).1.tag ≠ f.tag) → cT f (fs.map aV) = none
 | [],_=>rfl
 | p :: fs,h=>by
  rw [List.map_cons,cT,if_neg (show ¬ (aV p).tag = f.tag from h 0 (by simp))]
  exact oz fun i hi=>h (i + 1) (by simpa using hi)
theorem lz {ts : List Ty} {k w : adE} {v : V} (h : bV ts k w = some v) : rd ts 12 k w = some (v,[]) ∧ w.length ≤ 400:=by
 unfold bV at h
 split at h
 ·rename_i hl
  split at h
  ·rename_i v' hv;rw [hv];exact ⟨congrArg (fun x=>some (x,[])) (Option.some.inj h),hl⟩
  ·cases h
 ·cases h
theorem acU {b j : Nat} {k : adE} {tg : List Int} {bs : List Nat} {a a2 : Option Addr} {c c2 : Nat} {n : Int} (hl : bs.length = tg.length) (h9 : tg.length ≤ 100000) (hs : cH G b 0 [S k,S [82],.slice a tg.length c,.slice a2 tg.length c2]) (h1 : bq G (.slice a tg.length c) 1 tg.length (ax eb tg)) (h2 : bq G (.slice a2 tg.length c2) 1 tg.length (ax eR bs)) (hj : j < tg.length) (hjn : ae tg j = n) (hno : ∀ i,i < j → ae tg i ≠ n) :
  aG adD 124 [Pt b 0,I n] G (· = Tu [Pt (ae bs j) 0,Bo true]):=by
 obtain ⟨xb,xo,xc,e,hs1⟩:=h1.expl oM
 simp only [Value.slice.injEq] at e
 obtain ⟨rfl,-,rfl⟩:=e
 obtain ⟨zb,zo,zc,e,hs2⟩:=h2.expl oM
 simp only [Value.slice.injEq] at e
 obtain ⟨rfl,-,rfl⟩:=e
 refine jE [(0,_),(1,_)] Tryz.func124 Tryz.ntmps124 fun B hB=>?_
 repeat' (refine jR ?_)
 refine aU (ι:=Nat) (fun i=>i ≤ j) (fun i=>[(0,Pt b 0),(1,I n),(6,I i)]) (fun _=>G) (fun i=>[]) (fun i=>j - i) 0 ?_ tU F aZ (fun i Hi=>?_)
 ·exact Nat.zero_le _
 have hxi : ae bs i = ae bs i:=rfl
 have hti : ae tg i = ae tg i:=rfl
 by_cases hij : i = j
 ·subst hij
  repeat' (first | refine jR ?_ | (refine jo ?_;first | refine jV (an F F aS F F) ?_ | (refine jV (cZ F F aS ?_ aS F) ?_;focus omega) | refine jV (ag F) ?_ | refine aK F ?_ | refine jV (aq F F oM) ?_) | refine aA F F (aD oM) ?_ | (refine ab F (by first | rfl | (refine decide_eq_true ?_;(rfl))) ?_))
  all_goals refine jY (vs:=[_,_]) ?_
  all_goals rfl
 ·have h3:=hno i oM
  repeat' (first | refine jM ?_ | (refine jo ?_;first | refine jV (an F F aS F F) ?_ | (refine jV (cZ F F aS ?_ aS F) ?_;focus omega) | refine jV (ag F) ?_ | refine aK F ?_ | refine jV (aq F F oM) ?_) | refine aA F F (aD oM) ?_ | refine ab F F ?_ | refine ad F (aE ‹_›) ?_)
  exact a7 (i + 1) (show i + 1 ≤ j by have : i ≤ j:=Hi;omega) (by have : i ≤ j:=Hi;omega) tU rfl aZ
theorem acV {b : Nat} {k : adE} {tg : List Int} {a a2 : Option Addr} {c c2 : Nat} {n : Int} (h9 : tg.length ≤ 100000) (hs : cH G b 0 [S k,S [82],.slice a tg.length c,.slice a2 tg.length c2]) (h1 : bq G (.slice a tg.length c) 1 tg.length (ax eb tg)) (hno : ∀ i,i < tg.length → ae tg i ≠ n) :
  aG adD 124 [Pt b 0,I n] G (· = Tu [.pointer none,Bo false]):=by
 refine jE [(0,_),(1,_)] Tryz.func124 Tryz.ntmps124 fun B hB=>?_
 repeat' (refine jR ?_)
 refine aU (ι:=Nat) (fun i=>i ≤ tg.length) (fun i=>[(0,Pt b 0),(1,I n),(6,I i)]) (fun _=>G) (fun i=>[]) (fun i=>tg.length - i) 0 ?_ tU F aZ (fun i Hi=>?_)
 ·exact Nat.zero_le _
 by_cases hi : i < tg.length
 ·obtain ⟨xb,xo,xc,e,hs1⟩:=h1.expl oM
  simp only [Value.slice.injEq] at e
  obtain ⟨rfl,-,rfl⟩:=e
  have h3:=hno i hi
  have hti : ae tg i = ae tg i:=rfl
  repeat' (first | refine jM ?_ | (refine jo ?_;first | refine jV (an F F aS F F) ?_ | (refine jV (cZ F F aS ?_ aS F) ?_;focus omega) | refine jV (ag F) ?_ | refine aK F ?_ | refine jV (aq F F oM) ?_) | refine aA F F (aD oM) ?_ | refine ab F F ?_ | refine ad F (aE ‹_›) ?_)
  exact a7 (i + 1) oM oM tU F aZ
 ·repeat' (first | refine jR ?_ | (refine jo ?_;first | refine jV (an F F aS F F) ?_ | refine jV (ag F) ?_ | refine aw F ?_) | refine am F F (aE oM) ?_ | refine ad F F ?_)
  all_goals refine jY (vs:=[_,_]) ?_
  all_goals rfl
theorem vD {u : Value} {x : bU} {k : adE} {n : Int} (hu : u.oneCell' = true) (hf : bq G (fY x) 4 x.2.fields.length (ax gP x.2.fields)) (hl : x.2.fields.length ≤ 1000) (cx_rf : aG adD 160 [u,S k] G (· = Tu [Ag [U8 x.2.sort,S x.2.name,fY x],Bo true])) (hso : x.2.sort = 82) :
  aG adD 123 [u,S k,I n] G (· = Tu [Ag (gP ((bB x.2.fields n).getD zF)),Bo (bB x.2.fields n).isSome]):=by
 have cx_fld:=gS (tag:=n) hf hl
 obtain ⟨⟨a,ca⟩,⟨so,nm,fs⟩⟩:=x
 dsimp only at hso cx_fld cx_rf ⊢
 subst hso
 dsimp only [fY] at cx_fld cx_rf ⊢
 cases hg : bB fs n with
 | none =>
  rw [hg] at cx_fld
  simp only [Option.getD_none,Option.isSome_none] at cx_fld ⊢
  refine jE [(0,_),(1,_),(2,_)] Tryz.func123 Tryz.ntmps123 fun B hB=>?_
  repeat' (first | refine jR ?_ | (refine jo ?_;first | refine jL fun _=>?_ | refine jC F F F ?_ | refine aQ F ?_ | refine ac F F F cx_rf F ?_ | refine ac F F F cx_fld F ?_) | (refine ak (dL (id:=3) (tt:=6) F aj ?_);refine jW 10 [1,2] (aa 12 6) ?_;(try (refine Nx.re (d:=26) (v':=Bo true) F (congrArg Value.bool F) ?_));refine jW 9 [3] (aa 12 14) ?_;(refine jG (aa 12 15) 0 F (bz F F F F) ?_);((refine jG (aa 12 31) 4 F (bJ F F ?_) ?_;(focus ((rfl);done))));refine jW 6 [5] (aa 12 63) ?_;(try (refine Nx.re (d:=29) (v':=Bo false) F (congrArg Value.bool F) ?_));refine jW 5 [6] (aa 12 127) ?_;(refine jN (aa 12 255) 7 F ?_);refine jW 3 [8] (aa 12 511) ?_;((refine jG (aa 12 1023) 9 F (bm F F ?_) ?_;(focus ((rfl);done))));refine jA 10 F ?_;(refine jC F F F ?_);refine jK (aa 12 2047) ?_;refine jW 0 [11] (aa 12 4095) ?_;refine jQ ?_))
  all_goals refine jZ (vs:=[_,_]) F ⟨ay F F F F,F,trivial⟩ F ⟨F,F,?_⟩
  all_goals rfl
 | some f =>
  rw [hg] at cx_fld
  simp only [Option.getD_some,Option.isSome_some] at cx_fld ⊢
  refine jE [(0,_),(1,_),(2,_)] Tryz.func123 Tryz.ntmps123 fun B hB=>?_
  repeat' (first | refine jR ?_ | (refine jo ?_;first | refine jL fun _=>?_ | refine jC F F F ?_ | refine aQ F ?_ | refine ac F F F cx_rf F ?_ | refine ac F F F cx_fld F ?_) | (refine ak (dL (id:=3) (tt:=6) F aj ?_);refine jW 10 [1,2] (aa 12 6) ?_;(try (refine Nx.re (d:=26) (v':=Bo true) F (congrArg Value.bool F) ?_));refine jW 9 [3] (aa 12 14) ?_;(refine jG (aa 12 15) 0 F (bz F F F F) ?_);((refine jG (aa 12 31) 4 F (bJ F F ?_) ?_;(focus ((rfl);done))));refine jW 6 [5] (aa 12 63) ?_;(try (refine Nx.re (d:=29) (v':=Bo true) F (congrArg Value.bool F) ?_));refine jW 5 [6] (aa 12 127) ?_;(refine jG (aa 12 255) 7 F (aC F F F) ?_);refine jW 3 [8] (aa 12 511) ?_;((refine jG (aa 12 1023) 9 F (bJ F F ?_) ?_;(focus ((rfl);done))));refine jA 10 F ?_;(refine jC F F F ?_);refine jK (aa 12 2047) ?_;refine jW 0 [11] (aa 12 4095) ?_;refine jQ ?_))
  all_goals refine jZ (vs:=[_,_]) F ⟨ay F F F F,F,trivial⟩ F ⟨F,F,?_⟩
  all_goals rfl
def iS (ts : List Ty) (o : Option (adE × V)) (r : Value) (G' : Gh) : Prop:=(o = none ∧ ∃ q,r = Tu [.pointer q,Bo false]) ∨ ∃ k' v' b',o = some (k',v') ∧ r = Tu [Pt b' 0,Bo true] ∧ RepR G' ts v' k' b'
theorem iS.no {f : FuncId} {args : List Value} {ts : List Ty} {o : Option (adE × V)} (h : bd adD f args G (iS ts o)) (e : o = none) : bd adD f args G (fun r _=>∃ q,r = Tu [.pointer q,Bo false]):=by
 refine h.mono ?_
 rintro v G' L' ⟨h1,h2,⟨_,h3⟩ | ⟨k',v',b',h3,_⟩⟩
 ·exact ⟨h1,h2,h3⟩
 ·rw [e] at h3;cases h3
theorem iS.yes {f : FuncId} {args : List Value} {ts : List Ty} {o : Option (adE × V)} {k' : adE} {v' : V} (h : bd adD f args G (iS ts o)) (e : o = some (k',v')) : bd adD f args G (fun r G'=>∃ b',r = Tu [Pt b' 0,Bo true] ∧ RepR G' ts v' k' b'):=by
 refine h.mono ?_
 rintro v G' L' ⟨h1,h2,⟨h3,_⟩ | ⟨k2,v2,b',h3,h4,h5⟩⟩
 ·rw [e] at h3;cases h3
 ·rw [e] at h3
  simp only [Option.some.injEq,Prod.mk.injEq] at h3
  obtain ⟨rfl,rfl⟩:=h3
  exact ⟨h1,h2,b',h4,h5⟩
theorem nS {ts : List Ty} {c : UInt8} {r : adE} {v : V} {n : Int} (h1 : c.toNat ≠ 91) (h2 : c.toNat ≠ 63) (h3 : c.toNat ≠ 64) : bw ts (c :: r) v n = none:=by
 unfold bw;dsimp only;rw [if_neg (fun h=>by rcases h with h | h;exact h1 h;exact h2 h),aaC h3]
theorem iU {ts : List Ty} {c : UInt8} {r : adE} {v : V} {n : Int} (h : c.toNat = 91 ∨ c.toNat = 63) : bw ts (c :: r) v n = if n < (v.kids.length : Nat) then some (r,ae v.kids n.toNat) else none:=by
 unfold bw;dsimp only;rw [if_pos h]
theorem kx {ts : List Ty} {k : adE} {v : V} {n : Int} {t : Ty} (h : aX ts k = some t) : bw ts k v n = match bB t.fields n with
  | none=>none
  | some f=>if t.sort = 69 then none else if t.sort = 82 then some (f.kind,fk ts v f) else if v.tag = n then some (f.kind,ae v.kids 0) else none:=by
 obtain ⟨r,rfl⟩:=dv h
 unfold bw;dsimp only;rw [if_neg dC,h]
 all_goals rfl
theorem zL {u : Value} {vs : List bU} (h : SchR G u vs) (hw : SchW (af vs)) {k : adE} {v : V} {b : Nat} (hr : RepR G (af vs) v k b) (ho : OfK (af vs) k v) (hki : aB (af vs) k = true) {n : Int} (hn : 0 ≤ n ∧ n ≤ 999999) (htt : v.tot ≤ 1000000) :
  bd adD 88 [u,Pt b 0,I n] G (iS (af vs) (bw (af vs) k v n)):=by
 have hu:=h.sl.one
 obtain ⟨ua,uc,rfl⟩:=h.sl.sl
 cases hr with
 | leaf w x k tx b h1 h2 =>
  have hn82 : ¬ tx = [82]:=by
   rcases h2 with ⟨_,_,rfl,h⟩ | ⟨_,_,rfl⟩ | ⟨_,_,rfl,h⟩
   ·rintro rfl;exact absurd (h 82 (by simp)) dC
   ·simp
   ·rcases h with rfl | rfl <;> decide
  have hn85 : ¬ tx = [85]:=by
   rcases h2 with ⟨_,_,rfl,h⟩ | ⟨_,_,rfl⟩ | ⟨_,_,rfl,h⟩
   ·rintro rfl;exact absurd (h 85 (by simp)) dC
   ·simp
   ·rcases h with rfl | rfl <;> decide
  have hno : bw (af vs) k (.nd w x 0 []) n = none:=by
   rcases h2 with ⟨_,rfl,_⟩ | ⟨_,rfl,_⟩ | ⟨_,rfl,_⟩
   all_goals exact nS dC dC dC
  rw [hno]
  rcases h2 with ⟨rfl,rfl,_⟩ | ⟨rfl,rfl,_⟩ | ⟨rfl,rfl,_⟩
  all_goals
   refine jB [(0,_),(1,_),(2,_)] Tryz.func88 Tryz.ntmps88 fun B hok hB hW=>?_
   repeat' (first | refine jX ?_ | (refine jo ?_;first | refine jV (an F F aS F F) ?_ | refine aw F ?_) | (refine am F F (by first | rfl | (refine decide_eq_false ?_;(assumption))) ?_) | refine ad F F ?_)
   all_goals refine jZ (vs:=[_,_]) F ⟨F,F,trivial⟩ F ⟨Gh.le.refl _,F,?_⟩
   all_goals exact .inl ⟨F,_,F⟩
 | lst k b ks bs a c h1 h2 h3 hk =>
  have hk0 : bt (91 :: k) (Int.toNat 0) = 91:=a6 91 k
  have hkl2 : (91 :: k).length = k.length + 1:=rfl
  have hst:=iU (ts:=af vs) (c:=91) (r:=k) (v:=.nd 91 [] 0 ks) (n:=n) (.inl rfl)
  rw [V.kids] at hst
  rw [hst]
  by_cases hn2 : n < ((ks.length : Nat) : Int)
  ·obtain ⟨i,rfl⟩ : ∃ i : Nat,n = i:=⟨n.toNat,oM⟩
   obtain ⟨kb,ko,kc,e,hs⟩:=h2.expl oM
   simp only [Value.slice.injEq] at e
   obtain ⟨rfl,-,rfl⟩:=e
   have hxi : ae bs i = ae bs i:=rfl
   rw [if_pos hn2]
   refine jB [(0,_),(1,_),(2,_)] Tryz.func88 Tryz.ntmps88 fun B hok hB hW=>?_
   repeat' (first | refine jM ?_ | (refine jo ?_;first | refine jV (an F F aS F F) ?_ | (refine jV (cZ F F aS ?_ aS F) ?_;focus omega) | refine aK F ?_ | refine jV (ag F) ?_ | refine jV (aq F F oM) ?_) | refine aA F F F ?_ | refine ab F F ?_ | refine ad F (aE oM) ?_)
   all_goals refine jZ (vs:=[_,_]) F ⟨F,F,trivial⟩ F ⟨Gh.le.refl _,F,?_⟩
   all_goals exact .inr ⟨_,_,ae bs i,F,F,hk i oM⟩
  ·rw [if_neg hn2]
   refine jB [(0,_),(1,_),(2,_)] Tryz.func88 Tryz.ntmps88 fun B hok hB hW=>?_
   repeat' (first | refine jM ?_ | (refine jo ?_;first | refine jV (an F F aS F F) ?_ | refine aK F ?_ | refine jV (ag F) ?_) | refine aA F F F ?_ | (refine ab F (by first | rfl | (refine decide_eq_true ?_;(omega))) ?_))
   all_goals refine jZ (vs:=[_,_]) F ⟨F,F,trivial⟩ F ⟨Gh.le.refl _,F,?_⟩
   all_goals exact .inl ⟨F,_,F⟩
 | non k b h1 =>
  have hk0 : bt (63 :: k) (Int.toNat 0) = 63:=a6 63 k
  have hkl2 : (63 :: k).length = k.length + 1:=rfl
  have hst:=iU (ts:=af vs) (c:=63) (r:=k) (v:=.nd 63 [] 0 []) (n:=n) (.inr rfl)
  rw [V.kids,if_neg (by simp;omega)] at hst
  rw [hst]
  refine jB [(0,_),(1,_),(2,_)] Tryz.func88 Tryz.ntmps88 fun B hok hB hW=>?_
  repeat' (first | refine jM ?_ | (refine jo ?_;first | refine jV (an F F aS F F) ?_ | refine aw F ?_ | refine jV (ag F) ?_) | refine am F F F ?_ | (refine ab F (by first | rfl | (refine decide_eq_true ?_;(omega))) ?_))
  all_goals refine jZ (vs:=[_,_]) F ⟨F,F,trivial⟩ F ⟨Gh.le.refl _,F,?_⟩
  all_goals exact .inl ⟨F,_,F⟩
 | opt k b kb b' cc w h0 h1 h2 h3 =>
  have hk0 : bt (63 :: k) (Int.toNat 0) = 63:=a6 63 k
  have hkl2 : (63 :: k).length = k.length + 1:=rfl
  have hst:=iU (ts:=af vs) (c:=63) (r:=k) (v:=.nd 63 [] 0 [w]) (n:=n) (.inr rfl)
  rw [V.kids] at hst
  rw [hst]
  by_cases hn2 : n = 0
  ·subst hn2
   rw [if_pos (by simp)]
   refine jB [(0,_),(1,_),(2,_)] Tryz.func88 Tryz.ntmps88 fun B hok hB hW=>?_
   repeat' (first | refine jM ?_ | (refine jo ?_;first | refine jV (an F F aS F F) ?_ | refine aw F ?_ | refine jV (ag F) ?_ | refine jV (aT F F oM) ?_) | refine am F F F ?_ | refine ab F F ?_ | refine ad F F ?_)
   all_goals refine jZ (vs:=[_,_]) F ⟨F,F,trivial⟩ F ⟨Gh.le.refl _,F,?_⟩
   all_goals exact .inr ⟨_,_,b',F,F,h3⟩
  ·rw [if_neg (by simp;omega)]
   refine jB [(0,_),(1,_),(2,_)] Tryz.func88 Tryz.ntmps88 fun B hok hB hW=>?_
   repeat' (first | refine jM ?_ | (refine jo ?_;first | refine jV (an F F aS F F) ?_ | refine aw F ?_ | refine jV (ag F) ?_) | refine am F F F ?_ | (refine ab F (by first | rfl | (refine decide_eq_true ?_;(omega))) ?_))
   all_goals refine jZ (vs:=[_,_]) F ⟨F,F,trivial⟩ F ⟨Gh.le.refl _,F,?_⟩
   all_goals exact .inl ⟨F,_,F⟩
 | enm k b tgb t d h0 h1 h2 h3 =>
  have hst:=kx (v:=.nd 69 [] d.tag []) (n:=n) h0.1
  have hno : bw (af vs) k (.nd 69 [] d.tag []) n = none:=by
   rw [hst]
   cases bB t.fields n with
   | none=>rfl
   | some f=>dsimp only;rw [if_pos h0.2]
  rw [hno]
  obtain ⟨r,rfl⟩:=dv h0.1
  have hk0 : bt (64 :: r) (Int.toNat 0) = 64:=a6 64 r
  have hkl2 : (64 :: r).length = r.length + 1:=rfl
  refine jB [(0,_),(1,_),(2,_)] Tryz.func88 Tryz.ntmps88 fun B hok hB hW=>?_
  repeat' (first | refine jM ?_ | (refine jo ?_;first | refine jV (an F F aS F F) ?_ | refine aw F ?_) | refine am F F F ?_ | refine ad F F ?_)
  all_goals refine jZ (vs:=[_,_]) F ⟨F,F,trivial⟩ F ⟨Gh.le.refl _,F,?_⟩
  all_goals exact .inl ⟨F,_,F⟩
 | uni k b tgb kb b' cc t d w hcc h0 h1 h2 h3 h4 hk =>
  have hst:=kx (v:=.nd 85 [] d.tag [w]) (n:=n) h0.1
  have hTW:=hw.ty _ (bi h0.1)
  have hso:=h0.2
  obtain ⟨r,rfl⟩:=dv h0.1
  have hk0 : bt (64 :: r) (Int.toNat 0) = 64:=a6 64 r
  have hkl2 : (64 :: r).length = r.length + 1:=rfl
  by_cases hdn : d.tag = n
  ·have hyes : bw (af vs) (64 :: r) (.nd 85 [] d.tag [w]) n = some (d.kind,w):=by
    rw [hst,← hdn,ga hTW h1]
    dsimp only
    rw [if_neg oM,if_neg oM,if_pos (show V.tag (.nd 85 [] d.tag [w]) = d.tag from rfl)];rfl
   rw [hyes]
   refine jB [(0,_),(1,_),(2,_)] Tryz.func88 Tryz.ntmps88 fun B hok hB hW=>?_
   repeat' (first | refine jM ?_ | (refine jo ?_;first | refine jV (an F F aS F F) ?_ | refine aK F ?_ | refine aw F ?_) | refine aA F F F ?_ | refine am F F F ?_ | refine ab F F ?_ | refine ad F F ?_)
   (refine ak (ar (id:=6) _ (fun _ h=>h) aj ?_);refine jT 9 [0,1,2,6,7,8,12] (aa 16 4551) ?_;(refine jG (aa 16 4559) 3 F (an F F aS F F) ?_);(refine jG (aa 16 4575) 4 F (aT F F oM) ?_);(refine jG (aa 16 4607) 5 F (an F F aS F F) ?_);refine jT 5 [14] (aa 16 20991) ?_;(refine jG (aa 16 21503) 9 F (an F F aS F F) ?_);(refine jG (aa 16 22527) 10 F (aT F F oM) ?_);(refine jG (aa 16 24575) 11 F (an F F aS F F) ?_);refine jT 0 [13,15] (aa 16 65535) ?_;refine jQ ?_)
   all_goals repeat' (refine jR ?_)
   all_goals refine jZ (vs:=[_,_]) F ⟨F,F,trivial⟩ F ⟨Gh.le.refl _,F,?_⟩
   all_goals (try rw [decide_eq_true hdn])
   all_goals exact .inr ⟨_,_,b',F,F,hk⟩
  ·have hno : bw (af vs) (64 :: r) (.nd 85 [] d.tag [w]) n = none:=by
    rw [hst]
    cases bB t.fields n with
    | none=>rfl
    | some f =>
     dsimp only
     rw [if_neg oM,if_neg oM,if_neg (show ¬ V.tag (.nd 85 [] d.tag [w]) = n from hdn)]
   rw [hno]
   refine jB [(0,_),(1,_),(2,_)] Tryz.func88 Tryz.ntmps88 fun B hok hB hW=>?_
   repeat' (first | refine jM ?_ | (refine jo ?_;first | refine jV (an F F aS F F) ?_ | refine aK F ?_ | refine aw F ?_) | refine aA F F F ?_ | refine am F F F ?_ | refine ab F F ?_ | refine ad F F ?_)
   (refine ak (ar (id:=6) _ (fun _ h=>h) aj ?_);refine jT 9 [0,1,2,6,7,8,12] (aa 16 4551) ?_;(refine jG (aa 16 4559) 3 F (an F F aS F F) ?_);(refine jG (aa 16 4575) 4 F (aT F F oM) ?_);(refine jG (aa 16 4607) 5 F (an F F aS F F) ?_);refine jT 5 [14] (aa 16 20991) ?_;(refine jG (aa 16 21503) 9 F (an F F aS F F) ?_);(refine jG (aa 16 22527) 10 F (aT F F oM) ?_);(refine jG (aa 16 24575) 11 F (an F F aS F F) ?_);refine jT 0 [13,15] (aa 16 65535) ?_;refine jQ ?_)
   all_goals repeat' (refine jR ?_)
   all_goals refine jZ (vs:=[_,_]) F ⟨F,F,trivial⟩ F ⟨Gh.le.refl _,F,?_⟩
   all_goals (try rw [decide_eq_false hdn])
   all_goals exact .inl ⟨F,_,F⟩
 | recd k b t fs bs a a2 c c2 h0 h1 h2 h3 h4 h5 hk =>
  have hst:=kx (v:=.nd 82 [] 0 (fs.map aV)) (n:=n) h0.1
  have hTW:=hw.ty _ (bi h0.1)
  have hso:=h0.2
  have hkk:=cm (cE hki)
  obtain ⟨r,rfl⟩:=dv h0.1
  have hk0 : bt (64 :: r) (Int.toNat 0) = 64:=a6 64 r
  have hkl2 : (64 :: r).length = r.length + 1:=rfl
  have hvl : vs.length ≤ 8:=by have:=hw.len;unfold af at this;simpa using this
  have href:=dX vs (64 :: r)
  have cx_rf:=gE (k:=64 :: r) h oM hkk.1 oM
  rcases hrv : d8 vs (64 :: r) with _ | x
  ·rw [hrv,h0.1] at href;cases href
  rw [hrv] at href cx_rf
  have htx : x.2 = t:=by rw [h0.1] at href;exact Option.some.inj href
  subst htx
  have hxm:=eI hrv
  have hfl:=hTW.len
  have cx_rec:=vD (n:=n) hu (h.fl x hxm) oM cx_rf hso
  cases hg : bB x.2.fields n with
  | none =>
   rw [hg] at hst cx_rec
   have hno : bw (af vs) (64 :: r) (.nd 82 [] 0 (fs.map aV)) n = none:=hst
   rw [show (fs.map fun p=>V.nd 61 [] p.1.tag [p.2]) = fs.map aV from rfl,hno]
   refine jB [(0,_),(1,_),(2,_)] Tryz.func88 Tryz.ntmps88 fun B hok hB hW=>?_
   repeat' (first | refine jM ?_ | (refine jo ?_;first | refine jV (an F F aS F F) ?_ | refine aK F ?_ | refine aw F ?_ | refine jL fun _=>?_ | refine jC F F F ?_ | refine ac F F F cx_rec F ?_) | refine aA F F F ?_ | refine am F F F ?_ | refine ab F F ?_ | refine ad F F ?_)
   all_goals refine jZ (vs:=[_,_]) F ⟨F,F,trivial⟩ F ⟨Gh.le.refl _,F,?_⟩
   all_goals exact .inl ⟨F,_,F⟩
  | some f =>
   rw [hg] at hst cx_rec
   simp only [Option.getD_some,Option.isSome_some] at cx_rec
   have hfm:=List.mem_of_find?_eq_some hg
   have hft : f.tag = n:=by have:=List.find?_some hg;simpa using this
   have hyes : bw (af vs) (64 :: r) (.nd 82 [] 0 (fs.map aV)) n = some (f.kind,fk (af vs) (.nd 82 [] 0 (fs.map aV)) f):=by
    rw [hst];dsimp only;rw [if_neg oM,if_pos hso]
   rw [show (fs.map fun p=>V.nd 61 [] p.1.tag [p.2]) = fs.map aV from rfl,hyes]
   have hfs9 : fs.length ≤ 100000:=by
    have h7:=dq (fs.map aV)
    rw [br] at htt
    have e1 : (fs.map aV).length = fs.length:=by simp
    have e2 : (fs.map fun p=>V.nd 61 [] p.1.tag [p.2]) = fs.map aV:=rfl
    rw [e2] at htt
    omega
   have htn : ∀ i,i < fs.length → ae (fs.map fun p : Fld × V=>p.1.tag) i = (ae fs i).1.tag:=fun i hi=>by rw [aI (by simpa using hi),aI hi];simp
   have htl : (fs.map fun p : Fld × V=>p.1.tag).length = fs.length:=by simp
   by_cases hex : ∃ j,j < fs.length ∧ (ae fs j).1.tag = n
   ·obtain ⟨j,hj,hjn,hjf⟩:=xP hex
    have hget : fk (af vs) (.nd 82 [] 0 (fs.map aV)) f = (ae fs j).2:=by
     unfold fk
     rw [V.kids,oB hj (by rw [hjn,hft]) (fun i hi=>by rw [hft];exact hjf i hi)];rfl
    have hkd : (ae fs j).1 = f:=jJ hTW (h5 j hj) hfm (by rw [hjn,hft])
    rw [hget]
    have cx_at:=acU (tg:=fs.map fun p : Fld × V=>p.1.tag) (n:=n) (by rw [h4,htl]) oM (by rw [htl];exact h1) (by rw [htl];exact h2) (by rw [htl];exact h3) (by rw [htl];exact hj) (by rw [htn j hj];exact hjn) (fun i hi=>by rw [htn i oM];exact hjf i hi)
    have hrj:=hk j hj
    rw [hkd] at hrj
    refine jB [(0,_),(1,_),(2,_)] Tryz.func88 Tryz.ntmps88 fun B hok hB hW=>?_
    repeat' (first | refine jM ?_ | (refine jo ?_;first | refine jV (an F F aS F F) ?_ | refine aK F ?_ | refine aw F ?_ | refine jL fun _=>?_ | refine jC F F F ?_ | refine ac F F F cx_rec F ?_ | refine ac F F F cx_at F ?_) | refine aA F F F ?_ | refine am F F F ?_ | refine ab F F ?_ | refine ad F F ?_)
    all_goals refine jZ (vs:=[_,_]) F ⟨F,F,trivial⟩ F ⟨Gh.le.refl _,F,?_⟩
    all_goals exact .inr ⟨_,_,ae bs j,F,F,hrj⟩
   ·have hjno : ∀ i,i < fs.length → (ae fs i).1.tag ≠ n:=fun i hi e=>hex ⟨i,hi,e⟩
    have hget : fk (af vs) (.nd 82 [] 0 (fs.map aV)) f = fI (af vs) f:=by
     unfold fk
     rw [V.kids,oz fun i hi=>by rw [hft];exact hjno i hi];rfl
    rw [hget]
    obtain ⟨g1,g2,g3⟩:=gV hw (bi h0.1) oM hfm
    obtain ⟨g4,g5⟩:=lz g2
    have hdk : aB (af vs) f.kind = true:=dk hw (bi h0.1) oM hfm
    have cx_at:=acV (tg:=fs.map fun p : Fld × V=>p.1.tag) (n:=n) oM (by rw [htl];exact h1) (by rw [htl];exact h2) (fun i hi=>by rw [htn i oM];exact hjno i oM)
    have cx_sta:=me (f:=f) h hw hdk
    have cx_rd:=gW (u:=.slice ua vs.length uc) (vs:=vs) hw 12 oM G f.kind (bK (af vs) f) h hdk oM
    rw [g4] at cx_rd
    refine jB [(0,_),(1,_),(2,_)] Tryz.func88 Tryz.ntmps88 fun B hok hB hW=>?_
    repeat' (first | refine jM ?_ | (refine jo ?_;first | refine jV (an F F aS F F) ?_ | refine aK F ?_ | refine aw F ?_ | refine jL fun _=>?_ | refine jC F F F ?_ | refine ac F F F cx_rec F ?_ | refine ac F F F cx_at F ?_) | refine aA F F F ?_ | refine am F F F ?_ | refine ab F F ?_ | refine ad F F ?_)
    (refine ak (ar (id:=14) _ (fun _ h=>h) aj ?_);refine jT 12 [0,2,5] (aa 15 37) ?_;(refine jG (aa 15 39) 1 F (ao F F) ?_);(refine jG (aa 15 47) 3 F (bz F F F F) ?_);(refine jG (aa 15 111) 6 F (aC F F F) ?_);refine jA 4 F ?_;(refine ac F F F cx_sta F ?_);refine jS (aa 15 127) ?_;refine jA 7 F ?_;(refine aF F F F cx_rd F ?_;rintro _ G hle ⟨q1,r1,ok1,rfl,hyes,hno⟩;skip);refine jS (aa 15 255) ?_;refine jT 0 [8,9,10,11,12,13,14] (aa 15 32767) ?_;refine jQ ?_)
    all_goals
     cases ok1 with
     | false=>cases hno rfl
     | true =>
      obtain ⟨w,wb,rfl,hf,hrep⟩:=hyes rfl
      simp only [Option.some.injEq,Prod.mk.injEq] at hf
      obtain ⟨rfl,rfl⟩:=hf
      repeat' (first | refine jR ?_ | (refine jo ?_;refine aK F ?_) | refine aA F F F ?_)
      all_goals refine jZ (vs:=[_,_]) F ⟨F,F,trivial⟩ F ⟨hle,F,?_⟩
      all_goals exact .inr ⟨_,_,wb,F,F,hrep⟩
theorem uX {ts : List Ty} (hw : SchW ts) {t : Ty} (ht : t ∈ ts) (hs : t.sort ≠ 69) {d : Fld} (hd : d ∈ t.fields) : (fI ts d).tot ≤ 40000:=by
 obtain ⟨g4,g5⟩:=lz (gV hw ht hs hd).2.1
 have:=iW _ _ _ _ g4
 dsimp only at this
 simp only [List.length_nil] at this
 omega
theorem mL {ts : List Ty} (hw : SchW ts) {k : adE} {v : V} (h : OfK ts k v) (hk : aB ts k = true) {n : Int} (hn : 0 ≤ n) {k' : adE} {v' : V} (e : bw ts k v n = some (k',v')) {N : Nat} (hv : v.tot ≤ N) (hN : 40000 ≤ N) : v'.tot ≤ N:=by
 obtain ⟨c,r,rfl⟩:=gX hk
 unfold bw at e
 dsimp only at e
 split at e
 ·rename_i hc
  split at e
  ·rename_i hlt
   simp only [Option.some.injEq,Prod.mk.injEq] at e
   obtain ⟨rfl,rfl⟩:=e
   have h1:=eM (ks:=v.kids) (i:=n.toNat) oM
   obtain ⟨w,x,t,ks⟩:=v
   rw [br] at hv
   rw [V.kids] at h1 ⊢
   omega
  ·cases e
 ·split at e
  ·cases e
  ·rename_i t hr
   have ht:=bi hr
   split at e
   ·cases e
   ·rename_i f hf
    have hfm:=List.mem_of_find?_eq_some hf
    split at e
    ·cases e
    ·rename_i h69
     split at e
     ·rename_i h82
      simp only [Option.some.injEq,Prod.mk.injEq] at e
      obtain ⟨rfl,rfl⟩:=e
      rcases dR h hr with ⟨_,fs,rfl,g3,g4,_,_⟩ | ⟨h1,_⟩ | ⟨h1,_⟩
      ·unfold fk
       rw [V.kids]
       cases hto : cT f (fs.map aV) with
       | none =>
        have:=uX hw ht h69 hfm
        show (fI ts f).tot ≤ N
        omega
       | some u =>
        obtain ⟨_,p,hp,_,rfl⟩:=lC (hw.ty t ht) hfm (fun p hp=>⟨g3 p hp,g4 p hp⟩) hto
        have h2:=oy (List.mem_map_of_mem (f:=aV) hp)
        rw [br] at hv
        simp only [aV,br,V.tots] at h2
        show p.2.tot ≤ N
        omega
      ·omega
      ·omega
     ·rename_i h82
      split at e
      ·simp only [Option.some.injEq,Prod.mk.injEq] at e
       obtain ⟨rfl,rfl⟩:=e
       rcases dR h hr with ⟨h1,_⟩ | ⟨h1,_⟩ | ⟨_,_,d,u,rfl,g4,g5⟩
       ·omega
       ·omega
       ·simp only [br,V.tots] at hv
        show u.tot ≤ N
        omega
      ·cases e
theorem k6 {ts : List Ty} (hw : SchW ts) : ∀ {p : List Int} {k : adE} {v : V} {k' : adE} {v' : V},OfK ts k v → aB ts k = true → (∀ n ∈ p,0 ≤ n) → bD ts k v p = some (k',v') → ∀ {N : Nat},v.tot ≤ N → 40000 ≤ N → v'.tot ≤ N
 | [],k,v,k',v',h,hk,_,e,N,hv,hN=>by
  simp only [bD,Option.some.injEq,Prod.mk.injEq] at e
  obtain ⟨rfl,rfl⟩:=e
  exact hv
 | n :: p,k,v,k',v',h,hk,hp,e,N,hv,hN=>by
  unfold bD at e
  cases hs : bw ts k v n with
  | none=>rw [hs] at e;cases e
  | some x =>
   rw [hs] at e
   obtain ⟨k1,v1⟩:=x
   obtain ⟨h1,h2⟩:=gI hw h hk (hp n (by simp)) hs
   exact k6 hw h1 h2 (fun m hm=>hp m (by simp [hm])) e (mL hw h hk (hp n (by simp)) hs hv hN) hN
theorem ni {ts : List Ty} {p : List Int} {i : Nat} (hi : i < p.length) {k : adE} {v : V} : bD ts k v (p.drop i) = match bw ts k v (ae p i) with
  | none=>none
  | some (k',v')=>bD ts k' v' (p.drop (i + 1)):=by
 rw [List.drop_eq_getElem_cons hi,aI hi,bD]
 all_goals (cases bw ts k v p[i] <;> rfl)
theorem zH {u : Value} {vs : List bU} (h : SchR G u vs) (hw : SchW (af vs)) {p : List Int} {pv : Value} (hp : bq G pv 1 p.length (ax eb p)) (hpn : ∀ n ∈ p,0 ≤ n ∧ n ≤ 999999) (hpl : p.length ≤ 1000) {k : adE} {v : V} {b : Nat} (hr : RepR G (af vs) v k b) (ho : OfK (af vs) k v) (hki : aB (af vs) k = true) (htt : v.tot ≤ 1000000) :
  bd adD 49 [u,Pt b 0,pv] G (iS (af vs) (bD (af vs) k v p)):=by
 have hu:=h.sl.one
 obtain ⟨pa,pc,rfl⟩:=hp.sl
 refine jB [(0,_),(1,_),(2,_)] Tryz.func49 Tryz.ntmps49 fun B hok hB hW=>?_
 repeat' (refine jR ?_)
 refine aU (ι:=adE × V × Nat × Nat × Gh) (fun j=>((RepR j.2.2.2.2 (af vs) j.2.1 j.1 j.2.2.1 ∧ OfK (af vs) j.1 j.2.1) ∧ (aB (af vs) j.1 = true ∧ j.2.1.tot ≤ 1000000)) ∧ (Gh.le G j.2.2.2.2 ∧ j.2.2.2.1 ≤ p.length) ∧ bD (af vs) k v p = bD (af vs) j.1 j.2.1 (p.drop j.2.2.2.1)) (fun j=>[(0,u),(1,Pt j.2.2.1 0),(2,.slice pa p.length pc),(8,I j.2.2.2.1)]) (fun j=>j.2.2.2.2) (fun j=>[]) (fun j=>p.length - j.2.2.2.1) (k,v,b,0,G) ?_ tU F aZ (fun j Hj=>?_)
 ·exact ⟨⟨⟨hr,ho⟩,hki,htt⟩,⟨Gh.le.refl _,Nat.zero_le _⟩,F⟩
 obtain ⟨k0,v0,b0,i,Gq⟩:=j
 dsimp only at Hj ⊢
 obtain ⟨⟨⟨hr0,ho0⟩,hk0,ht0⟩,⟨hgq,hi0⟩,he⟩:=Hj
 by_cases hi : i < p.length
 ·obtain ⟨xb,xo,xc,e,hs1⟩:=(hp.mono hgq).expl oM
  simp only [Value.slice.injEq] at e
  obtain ⟨rfl,-,rfl⟩:=e
  have hni:=hpn _ (bh hi)
  have hti : ae p i = ae p i:=rfl
  have hstp:=zL (h.mono hgq) hw hr0 ho0 hk0 hni ht0
  rw [ni hi] at he
  cases hsv : bw (af vs) k0 v0 (ae p i) with
  | none =>
   have cx_stn:=iS.no hstp hsv
   rw [hsv] at he
   repeat' (first | refine jR ?_ | (refine jo ?_;first | refine jV (ag F) ?_ | refine jV (aq F F oM) ?_ | (refine jV (cZ F F aS ?_ aS F) ?_;focus omega) | (refine aF F F F cx_stn F ?_;rintro _ G hle ⟨q1,rfl⟩;skip)) | (refine ab F (by first | rfl | (refine decide_eq_true ?_;(omega))) ?_))
   all_goals refine jZ (vs:=[_,_]) F ⟨F,F,trivial⟩ F ⟨hgq.trans hle,F,?_⟩
   all_goals exact .inl ⟨he,_,F⟩
  | some y =>
   obtain ⟨k1,v1⟩:=y
   have cx_sty:=iS.yes hstp hsv
   rw [hsv] at he
   obtain ⟨g1,g2⟩:=gI hw ho0 hk0 hni.1 hsv
   have g3:=mL hw ho0 hk0 hni.1 hsv ht0 oM
   repeat' (first | refine jM ?_ | (refine jo ?_;first | refine jV (ag F) ?_ | refine jV (aq F F oM) ?_ | (refine jV (cZ F F aS ?_ aS F) ?_;focus omega) | (refine aF F F F cx_sty F ?_;rintro _ G hle ⟨b1,rfl,hrep1⟩;skip)) | refine ab F (aD oM) ?_ | refine ad F F ?_)
   exact a7 (k1,v1,b1,i + 1,G) ⟨⟨⟨hrep1,g1⟩,g2,g3⟩,⟨hgq.trans hle,by dsimp only;omega⟩,he⟩ (by dsimp only;omega) tU rfl aZ
 ·have hd : p.drop i = []:=List.drop_eq_nil_of_le oM
  rw [hd] at he
  repeat' (first | refine jR ?_ | (refine jo ?_;refine jV (ag F) ?_) | refine ad F (aE oM) ?_)
  all_goals refine jZ (vs:=[_,_]) F ⟨F,F,trivial⟩ F ⟨hgq,F,?_⟩
  all_goals exact .inr ⟨_,_,b0,he,F,hr0⟩
theorem z4 {s k w : adE} {v : V} {ts : List Ty} (h : s.length ≤ 1048576 ∧ k.length ≤ 1048576 ∧ w.length ≤ 1048576) (hs : aP s = some ts) (hki : aB ts k = true) (hvo : bV ts k w = some v) :
  bd adD 79 [S s,S k,S w] G (fun r G'=>∃ a c vs b,r = Tu [.slice a vs.length c,Pt b 0,Bo true] ∧ SchR G' (.slice a vs.length c) vs ∧ af vs = ts ∧ RepR G' ts v k b):=by
 have hw:=b6 hs
 have hk : cz s k = true:=by unfold cz;rw [hs];exact hki
 obtain ⟨h12,hl⟩:=lz hvo
 have cx_lka : ∀ G,bd adD 83 [S s,S k] G (fun v G'=>∃ a c vs,v = Tu [.slice a vs.length c,Bo true] ∧ SchR G' (.slice a vs.length c) vs ∧ af vs = ts):=fun G=>by
  refine (fc (G:=G) (s:=s) (k:=k) oM oM).mono ?_
  rintro v G' L' ⟨h1,h2,u,vs,rfl,h4,_,h6⟩
  obtain ⟨_,⟨rfl,h0⟩ | ⟨b,o,cap,rfl,_,_⟩⟩:=h4.sl
  ·exact ⟨h1,h2,none,0,vs,by rw [hk,h0],by rw [h0];exact h4,h6 ts hs hki⟩
  ·exact ⟨h1,h2,_,cap,vs,by rw [hk],h4,h6 ts hs hki⟩
 refine jB [(0,_),(1,_),(2,_)] Tryz.func79 Tryz.ntmps79 fun B hok hB hW=>?_
 repeat' (first | refine jR ?_ | (refine jo ?_;first | refine aw F ?_ | refine jV (ao F F) ?_ | (refine aF F F F (cx_lka _) F ?_;rintro _ G hle ⟨av1,cv1,vs1,rfl,hR1,hT1⟩;skip)) | refine am F F F ?_ | refine ad F (aE oM) ?_)
 subst hT1
 have cx_rd : bd adD 114 [Ag [.slice av1 vs1.length cv1],S w,S k,I (12 : Nat)] G (fun r G'=>∃ b,r = Tu [Pt b 0,S [],Bo true] ∧ RepR G' (af vs1) v k b):=by
  refine (gW (u:=.slice av1 vs1.length cv1) (vs:=vs1) hw 12 oM G k w hR1 hki oM).mono ?_
  rintro r G' L' ⟨h1,h2,q,rest,ok,rfl,h3,h4⟩
  cases ok with
  | false=>rw [h12] at h4;cases h4 rfl
  | true =>
   obtain ⟨v',b,rfl,h5,h6⟩:=h3 rfl
   rw [h12] at h5
   simp only [Option.some.injEq,Prod.mk.injEq] at h5
   obtain ⟨rfl,rfl⟩:=h5
   exact ⟨h1,h2,b,F,h6⟩
 refine jo ?_
 refine aF F F F cx_rd F ?_
 rintro _ G2 hle2 ⟨b,rfl,hrep⟩
 repeat' (first | refine jR ?_ | (refine jo ?_;refine aK F ?_) | refine aA F F F ?_)
 refine jZ (vs:=[_,_,_]) F ⟨F,F,F,trivial⟩ F ⟨(Gh.le.trans hle hle2),F,?_⟩
 exact ⟨_,_,_,b,F,hR1.mono hle2,F,hrep⟩
theorem oD {s : adE} (h : s.length ≤ 1048576) (hp : cJ s = none) : ∀ G,bd adD 47 [S s] G (fun v _=>∃ a c n,v = Tu [.slice a n c,Bo false] ∧ True):=fun G=>by
 refine (sX (G:=G) h).mono ?_
 rintro v G' L' ⟨h1,h2,a,c,n,rfl,_⟩
 exact ⟨h1,h2,a,c,n,by rw [hp];rfl,trivial⟩
theorem mK {s : adE} {p : List Int} (h : s.length ≤ 1048576) (hp : cJ s = some p) : ∀ G,bd adD 47 [S s] G (fun v G'=>∃ a c n,v = Tu [.slice a n c,Bo true] ∧ n = p.length ∧ bq G' (.slice a n c) 1 p.length (ax eb p)):=fun G=>by
 refine (sX (G:=G) h).mono ?_
 rintro v G' L' ⟨h1,h2,a,c,n,rfl,h3⟩
 exact ⟨h1,h2,a,c,n,by rw [hp];rfl,h3 p hp⟩
theorem iX {s : adE} {p : List Int} (h : cJ s = some p) : p.length ≤ 8 ∧ ∀ n ∈ p,0 ≤ n ∧ n ≤ 999999:=by
 unfold cJ at h
 split at h
 ·simp only [Option.some.injEq] at h;subst h;simp
 ·split at h
  ·rename_i q hq
   split at h
   ·rename_i h8
    simp only [Option.some.injEq] at h;subst h
    exact ⟨h8,(kT hq).2⟩
   ·cases h
  ·cases h
def dY (s k w p : adE) : Option (adE × adE):=match aP s,cW s k w,cJ p with
 | some ts,some u,some q=>(bD ts k u q).map fun x=>(x.1,x.2.out)
 | _,_,_=>none
theorem xv {s k : adE} {o : Option (List Int)} : (match aP s,(none : Option V),o with
 | some ts,some u,some q=>(bD ts k u q).map fun x=>(x.1,x.2.out)
 | _,_,_=>none) = none:=by cases aP s <;> rfl
def pgR (o : Option (adE × adE)) : Value:=Tu [S ((o.map (·.1)).getD []),S ((o.map (·.2)).getD []),Bo o.isSome]
theorem yX {ts : List Ty} (hw : SchW ts) {k : adE} {u v : V} (hu : OfK ts k u) (hv : OfK ts k v) (h : u.out = v.out) : u = v:=by
 have h1:=lI hw (max u.deep v.deep) hu (Nat.le_max_left _ _) [] lm
 have h2:=lI hw (max u.deep v.deep) hv (Nat.le_max_right _ _) [] lm
 rw [h,h2] at h1
 simp only [Option.some.injEq,Prod.mk.injEq,and_true] at h1
 exact h1.symm
theorem mG {w : Nat} {x : adE} {t : Int} {ks : List V} : V.tag (.nd w x t ks) = t:=rfl
def nf (ts : List Ty) (f : Fld) (x : V) : List V:=if x.out = bK ts f then [] else [.nd 61 [] f.tag [x]]
theorem gL {ts : List Ty} {f : Fld} {x : V} : fP ts f x [] = nf ts f x:=rfl
theorem eQ {ts : List Ty} {f : Fld} {x y : V} {r : List V} : fP ts f x (y :: r) = if y.tag < f.tag then y :: fP ts f x r else nf ts f x ++ (if y.tag = f.tag then r else y :: r):=rfl
theorem yU {ts : List Ty} {f : Fld} {x : V} : ∀ {vs : List V},(∀ v ∈ vs,f.tag < v.tag) → fP ts f x vs = nf ts f x ++ vs
 | [],_=>by rw [gL,List.append_nil]
 | v :: vs,h=>by
  have:=h v (by simp)
  rw [eQ,if_neg oM,if_neg oM]
theorem oA {f : Fld} : ∀ {vs : List V},(∀ v ∈ vs,f.tag < v.tag) → cT f vs = none
 | [],_=>rfl
 | v :: vs,h=>by
  have:=h v (by simp)
  rw [cT,if_neg oM]
  exact oA fun u hu=>h u (by simp [hu])
theorem rU {ts : List Ty} {f : Fld} {x : V} {vs : List V} (h : ∀ v ∈ vs,f.tag < v.tag) : cT f (nf ts f x ++ vs) = if x.out = bK ts f then none else some x:=by
 unfold nf
 split
 ·exact oA h
 ·rw [List.singleton_append,cT,mG,if_pos rfl];rfl
abbrev yG (vs : List V) : Prop:=vs.Pairwise fun a b=>a.tag < b.tag
theorem qQ {ts : List Ty} {f : Fld} {x : V} : ∀ {vs : List V},yG vs → cT f (fP ts f x vs) = if x.out = bK ts f then none else some x
 | [],_=>by
  rw [gL]
  have:=rU (ts:=ts) (f:=f) (x:=x) (vs:=[]) (by simp)
  rwa [List.append_nil] at this
 | v :: vs,h=>by
  replace h:=List.pairwise_cons.1 h
  rw [eQ]
  split
  ·rw [cT,if_neg oM]
   exact qQ h.2
  ·refine rU fun u hu=>?_
   split at hu
   ·have:=h.1 u hu;omega
   ·rcases List.mem_cons.1 hu with rfl | hu
    ·omega
    ·have:=h.1 u hu;omega
theorem r9 {ts : List Ty} {f : Fld} {x y : V} : ∀ {vs : List V},yG vs → fP ts f y (fP ts f x vs) = fP ts f y vs
 | [],_=>by
  rw [gL,gL]
  unfold nf
  split
  ·exact gL
  ·rw [eQ,mG,if_neg oM,if_pos rfl,List.append_nil];rfl
 | v :: vs,h=>by
  replace h:=List.pairwise_cons.1 h
  rw [eQ,eQ (x:=y)]
  split
  ·rename_i hl
   rw [eQ,if_pos hl,r9 h.2]
  ·rename_i hl
   have hB : ∀ u ∈ (if v.tag = f.tag then vs else v :: vs),f.tag < u.tag:=fun u hu=>by
    split at hu
    ·have:=h.1 u hu;omega
    ·rcases List.mem_cons.1 hu with rfl | hu
     ·omega
     ·have:=h.1 u hu;omega
   generalize (if v.tag = f.tag then vs else v :: vs) = ws at hB
   rw [show nf ts f x = if x.out = bK ts f then [] else [.nd 61 [] f.tag [x]] from rfl]
   split
   ·exact yU hB
   ·rw [List.singleton_append,eQ,mG,if_neg oM,if_pos rfl]
theorem q4 {ts : List Ty} {t : Ty} (hw : TyW t) {f : Fld} (hf : f ∈ t.fields) {z : V} (hz : z.out = bK ts f) : ∀ {fs : List (Fld × V)},(∀ p ∈ fs,p.1 ∈ t.fields ∧ p.2.out ≠ bK ts p.1) → yG (fs.map aV) → fP ts f ((cT f (fs.map aV)).getD z) (fs.map aV) = fs.map aV
 | [],_,_=>by
  rw [List.map_nil,gL]
  show nf ts f z = []
  unfold nf;rw [if_pos hz]
 | q :: fs,hp,h=>by
  replace h:=List.pairwise_cons.1 h
  have hq:=hp q (by simp)
  rw [List.map_cons,eQ,cT]
  by_cases hl : (aV q).tag < f.tag
  ·rw [if_pos hl,if_neg oM,q4 hw hf hz (fun p hp'=>hp p (by simp [hp'])) h.2]
  ·rw [if_neg hl]
   by_cases he : (aV q).tag = f.tag
   ·rw [if_pos he,if_pos he]
    have h1 : q.1 = f:=jJ hw hq.1 hf he
    have h2 : ((some (ae (aV q).kids 0)).getD z) = q.2:=rfl
    rw [h2]
    unfold nf
    rw [if_neg (by rw [← h1];exact hq.2),List.singleton_append,← h1]
   ·rw [if_neg he,if_neg he,oA fun v hv=>by have:=h.1 v hv;omega]
    show nf ts f z ++ _ = _
    unfold nf;rw [if_pos hz,List.nil_append]
theorem rV {ts : List Ty} {f g : Fld} (hg : g.tag ≠ f.tag) {x : V} : ∀ {vs : List V},cT g (fP ts f x vs) = cT g vs
 | []=>by
  rw [gL];unfold nf
  split
  ·rfl
  ·show (if V.tag (.nd 61 [] f.tag [x]) = g.tag then some (ae (V.kids (.nd 61 [] f.tag [x])) 0) else none) = none
   rw [mG,if_neg oM]
 | v :: vs=>by
  rw [eQ]
  split
  ·rw [cT,cT,rV hg]
  ·have h1 : ∀ ws : List V,cT g (nf ts f x ++ ws) = cT g ws:=fun ws=>by
    unfold nf
    split
    ·rfl
    ·rw [List.singleton_append,cT,mG,if_neg oM]
   rw [h1]
   split
   ·rename_i he
    rw [cT,if_neg oM]
   ·rfl
def gw (ts : List Ty) (k : adE) (v : V) (n : Int) (y : V) : V:=if v.what = 82 then (match aX ts k with
  | some t=>(match bB t.fields n with
   | some f=>.nd 82 [] 0 (fP ts f y v.kids)
   | none=>v)
  | none=>v)
 else .nd v.what [] v.tag (if v.what = 91 then v.kids.set n.toNat y else [y])
theorem il {ts : List Ty} {k k1 : adE} {v v1 x : V} {n : Int} {p : List Int} (h : bw ts k v n = some (k1,v1)) : dm ts k v (n :: p) x = gw ts k v n (dm ts k1 v1 p x):=by
 rw [dm,h];rfl
theorem f9 {ts : List Ty} {k k1 : adE} {v v1 : V} {n : Int} {p : List Int} (h : bw ts k v n = some (k1,v1)) : bD ts k v (n :: p) = bD ts k1 v1 p:=by
 rw [bD,h]
theorem aaw {fs : List (Fld × V)} (h : fs.Pairwise fun a b=>a.1.tag < b.1.tag) : yG (fs.map aV):=List.pairwise_map.2 h
theorem xh {ts : List Ty} (hw : SchW ts) {k : adE} {v : V} (h : OfK ts k v) (hk : aB ts k = true) {n : Int} (hn : 0 ≤ n) {k1 : adE} {v1 : V} (hs : bw ts k v n = some (k1,v1)) {y : V} (hy : OfK ts k1 y) :
  (bw ts k (gw ts k v n y) n = some (k1,y) ∧ gw ts k v n v1 = v) ∧ (∀ z,gw ts k (gw ts k v n y) n z = gw ts k v n z) ∧ ∀ m,0 ≤ m → m ≠ n → bw ts k (gw ts k v n y) m = bw ts k v m:=by
 obtain ⟨c,r,rfl⟩:=gX hk
 have hs0:=hs
 unfold bw at hs
 dsimp only at hs
 split at hs
 ·rename_i hc
  split at hs
  ·rename_i hlt
   simp only [Option.some.injEq,Prod.mk.injEq] at hs
   obtain ⟨rfl,rfl⟩:=hs
   rcases iY h oM with ⟨g1,_⟩ | ⟨g1,_⟩ | ⟨g1,_⟩ | ⟨g1,ks,g2,g3,rfl⟩ | ⟨g1,rfl | ⟨u,g3,rfl⟩⟩
   ·omega
   ·omega
   ·omega
   ·rw [V.kids] at hlt ⊢
    have hi : n.toNat < ks.length:=oM
    have e : ∀ z,gw ts (c :: r) (.nd 91 [] 0 ks) n z = .nd 91 [] 0 (ks.set n.toNat z):=fun z=>by
     unfold gw;rw [V.what,if_neg dC,if_pos rfl];rfl
    refine ⟨⟨?_,?_⟩,fun z=>?_,fun m hm hne=>?_⟩
    ·rw [e]
     unfold bw
     dsimp only
     rw [if_pos hc,V.kids,if_pos (by rw [List.length_set];exact hlt),aI (by rw [List.length_set];exact hi),List.getElem_set_self]
    ·rw [e,aI hi,List.set_getElem_self]
    ·rw [e,e]
     unfold gw;rw [V.what,if_neg dC,if_pos rfl,V.kids,List.set_set];rfl
    ·rw [e]
     unfold bw
     dsimp only
     rw [if_pos hc,if_pos hc,V.kids,V.kids,List.length_set]
     split
     ·rename_i hm2
      rw [aI (by rw [List.length_set];omega),aI oM,List.getElem_set_ne oM]
     ·rfl
   ·simp [V.kids] at hlt;omega
   ·simp [V.kids] at hlt
    obtain rfl : n = 0:=oM
    have e : ∀ w z,gw ts (c :: r) (.nd 63 [] 0 [w]) 0 z = .nd 63 [] 0 [z]:=fun w z=>by
     unfold gw;rw [V.what,if_neg dC,if_neg dC];rfl
    refine ⟨⟨?_,?_⟩,fun z=>?_,fun m hm hne=>?_⟩
    ·rw [e]
     unfold bw
     dsimp only
     rw [if_pos hc,V.kids,if_pos (by simp)];rfl
    ·rw [e];rfl
    ·rw [e,e,e]
    ·rw [e]
     unfold bw
     dsimp only
     rw [if_pos hc,if_pos hc,V.kids,V.kids,if_neg (by simp;omega),if_neg (by simp;omega)]
  ·cases hs
 ·rename_i hc
  split at hs
  ·cases hs
  ·rename_i t hr
   have ht:=bi hr
   split at hs
   ·cases hs
   ·rename_i f hf
    have hfm:=List.mem_of_find?_eq_some hf
    have hft : f.tag = n:=by have:=List.find?_some hf;simpa using this
    split at hs
    ·cases hs
    ·rename_i h69
     split at hs
     ·rename_i h82
      simp only [Option.some.injEq,Prod.mk.injEq] at hs
      obtain ⟨rfl,rfl⟩:=hs
      rcases dR h hr with ⟨_,fs,rfl,g3,g4,g5,g6⟩ | ⟨g1,_⟩ | ⟨g1,_⟩
      ·have e : ∀ vs z,gw ts (c :: r) (.nd 82 [] 0 vs) n z = .nd 82 [] 0 (fP ts f z vs):=fun vs z=>by
        unfold gw;rw [V.what,if_pos rfl,hr]
        dsimp only
        rw [hf];rfl
       have hst:=gV hw ht oM hfm
       have hsrt:=aaw g6
       refine ⟨⟨?_,?_⟩,fun z=>?_,fun m hm hne=>?_⟩
       ·rw [e]
        unfold bw
        dsimp only
        rw [if_neg hc,hr]
        dsimp only
        rw [hf]
        dsimp only
        rw [if_neg h69,if_pos h82]
        unfold fk
        rw [V.kids,qQ hsrt]
        split
        ·rename_i hso
         show some (f.kind,fI ts f) = _
         rw [yX hw hst.1 hy (by rw [hst.2.2,hso])]
        ·rfl
       ·rw [e]
        unfold fk
        rw [V.kids,q4 (hw.ty t ht) hfm hst.2.2 (fun p hp=>⟨g3 p hp,g5 p hp⟩) hsrt]
       ·rw [e,e,e,r9 hsrt]
       ·rw [e]
        unfold bw
        dsimp only
        rw [if_neg hc,if_neg hc,hr]
        dsimp only
        cases hg : bB t.fields m with
        | none=>rfl
        | some g =>
         have hgt : g.tag = m:=by have:=List.find?_some hg;simpa using this
         dsimp only
         rw [if_neg h69,if_neg h69,if_pos h82,if_pos h82]
         unfold fk
         rw [V.kids,V.kids,rV oM]
      ·omega
      ·omega
     ·rename_i h82
      split at hs
      ·rename_i htg
       simp only [Option.some.injEq,Prod.mk.injEq] at hs
       obtain ⟨rfl,rfl⟩:=hs
       rcases dR h hr with ⟨g1,_⟩ | ⟨g1,_⟩ | ⟨_,_,d,u,rfl,g4,g5⟩
       ·omega
       ·omega
       ·have e : ∀ w z,gw ts (c :: r) (.nd 85 [] d.tag [w]) n z = .nd 85 [] d.tag [z]:=fun w z=>by
         unfold gw;rw [V.what,if_neg dC,if_neg dC];rfl
        have htg2 : d.tag = n:=htg
        refine ⟨⟨?_,?_⟩,fun z=>?_,fun m hm hne=>?_⟩
        ·rw [e]
         unfold bw
         dsimp only
         rw [if_neg hc,hr]
         dsimp only
         rw [hf]
         dsimp only
         rw [if_neg h69,if_neg h82,V.tag,if_pos htg2];rfl
        ·rw [e];rfl
        ·rw [e,e,e]
        ·rw [e]
         unfold bw
         dsimp only
         rw [if_neg hc,if_neg hc,hr]
         dsimp only
         cases hg : bB t.fields m with
         | none=>rfl
         | some g =>
          dsimp only
          rw [if_neg h69,if_neg h69,if_neg h82,if_neg h82,V.tag,V.tag,if_neg oM,if_neg oM]
      ·cases hs
theorem mC {ts : List Ty} (hw : SchW ts) : ∀ {p : List Int} {k : adE} {v x y : V} {k' : adE} {v' : V},OfK ts k v → aB ts k = true → (∀ n ∈ p,0 ≤ n) → bD ts k v p = some (k',v') → OfK ts k' x →
  bD ts k (dm ts k v p x) p = some (k',x) ∧ dm ts k v p v' = v ∧ dm ts k (dm ts k v p x) p y = dm ts k v p y
 | [],k,v,x,y,k',v',h,hk,_,e,hx=>by
  simp only [bD,Option.some.injEq,Prod.mk.injEq] at e
  obtain ⟨rfl,rfl⟩:=e
  exact ⟨F,F,F⟩
 | n :: p,k,v,x,y,k',v',h,hk,hp,e,hx=>by
  unfold bD at e
  cases hs : bw ts k v n with
  | none=>rw [hs] at e;cases e
  | some q =>
   rw [hs] at e
   obtain ⟨k1,v1⟩:=q
   have hn:=hp n (by simp)
   obtain ⟨h1,h2⟩:=gI hw h hk hn hs
   have hp2 : ∀ m ∈ p,0 ≤ m:=fun m hm=>hp m (by simp [hm])
   obtain ⟨i1,i2,i3⟩:=mC hw (y:=y) h1 h2 hp2 e hx
   have hc:=pV hw h1 h2 hp2 e hx
   obtain ⟨⟨s1,s2⟩,s3,_⟩:=xh hw h hk hn hs hc
   rw [il hs,il hs,il hs]
   refine ⟨?_,?_,?_⟩
   ·rw [f9 s1];exact i1
   ·rw [i2,s2]
   ·rw [il s1,i3,s3]
theorem s5 {u : Value} {vs : List bU} (hw : SchW (af vs)) (h : SchR G u vs) {k s : adE} (hki : aB (af vs) k = true) :
  bd adD 85 [u,S k,S s] G (fun r _=>r = Tu [S (if (bV (af vs) k s).isSome = true then s else []),Bo (bV (af vs) k s).isSome]):=by
 obtain ⟨ua,uc,rfl⟩:=h.sl.sl
 by_cases hl : s.length ≤ 400
 ·have cx_rd:=gW (u:=.slice ua vs.length uc) (vs:=vs) hw 12 oM G k s h hki oM
  have hvo : bV (af vs) k s = match rd (af vs) 12 k s with
   | some (v,[])=>some v
   | _=>none:=by
   unfold bV;rw [if_pos hl]
   all_goals (rcases rd (af vs) 12 k s with _ | ⟨v,_ | _⟩ <;> rfl)
  refine jB [(0,_),(1,_),(2,_)] Tryz.func85 Tryz.ntmps85 fun B hok hB hW=>?_
  repeat' (first | refine jR ?_ | (refine jo ?_;first | refine jV (ao F F) ?_ | refine aK F ?_ | refine aw F ?_ | (refine aF F F F cx_rd F ?_;rintro _ G hle ⟨q1,r1,ok1,rfl,hyes,hno⟩;skip)) | refine oQ F F (fun _=>?_) (fun _=>?_) | refine ab F F ?_ | refine ad F (aE oM) ?_ | refine dJ F (fun _=>?_) (fun _=>?_))
  all_goals refine jZ (vs:=[_,_]) F ⟨F,F,trivial⟩ F ⟨hle,F,?_⟩
  ·rename_i hz
   rw [hno (by simpa using hz)] at hvo
   rw [hvo];rfl
  ·rename_i hz hr
   obtain ⟨w,b,rfl,hf,hrep⟩:=hyes (by simpa using hz)
   rw [hf] at hvo
   have hvo2 : bV (af vs) k s = none:=by
    rw [hvo]
    cases r1 with
    | nil=>exact absurd F hr
    | cons c r=>rfl
   rw [hvo2];rfl
  ·rename_i hz hr
   obtain ⟨w,b,rfl,hf,hrep⟩:=hyes (by simpa using hz)
   obtain rfl : r1 = []:=by simpa using hr
   rw [hf] at hvo
   rw [hvo];rfl
 ·have hvo : bV (af vs) k s = none:=by unfold bV;rw [if_neg hl]
  rw [hvo]
  refine jB [(0,_),(1,_),(2,_)] Tryz.func85 Tryz.ntmps85 fun B hok hB hW=>?_
  repeat' (first | refine jR ?_ | refine ab F (aD oM) ?_)
  all_goals refine jZ (vs:=[_,_]) F ⟨F,F,trivial⟩ F ⟨Gh.le.refl _,F,?_⟩
  all_goals rfl
def oJ (s k w p x : adE) : Option adE:=match aP s,cW s k w,cJ p with
 | some ts,some u,some q=>match bD ts k u q with
  | none=>none
  | some (k',_)=>match rd ts 12 k' x with
   | some (y,[])=>if (dm ts k u q y).out.length ≤ 400 ∧ (dm ts k u q y).deep ≤ 12 then some (dm ts k u q y).out else none
   | _=>none
 | _,_,_=>none
def ob (o : Option adE) : Value:=Tu [S (o.getD []),Bo o.isSome]
theorem abR {n : Nat} {u : Value} {ts : List Ty} {k s : adE} {c e : UInt8} (hc : c = 64) (hu : u.oneCell' = true)
  (cx_typ : bd adD 159 [Ag [u],S (e :: s),S (c :: k),I (n + 1 : Nat)] G (cD ts (rb ts (n + 1) (c :: k) (e :: s)) (c :: k))) (hs : s.length ≤ 999) (hkl : k.length ≤ 1000) (hn : n ≤ 999) :
  bd adD 121 [Ag [u],S (e :: s),S (c :: k),I (n + 1 : Nat)] G (cD ts (rb ts (n + 1) (c :: k) (e :: s)) (c :: k)):=by
 have hel : (e :: s).length = s.length + 1:=rfl
 have hkl2 : (c :: k).length = k.length + 1:=rfl
 subst hc
 have hk0 : bt (64 :: k) (Int.toNat 0) = 64:=a6 64 k
 refine jB [(0,_),(1,_),(2,_),(3,_)] Tryz.func121 Tryz.ntmps121 fun B hok hB hW=>?_
 repeat' (first | refine jM ?_ | (refine jo ?_;first | refine jO fun _=>?_ | refine aw F ?_ | refine aQ F ?_ | (refine aF F F F cx_typ F ?_;rintro _ G hle ⟨q1,r1,ok1,rfl,hyes,hno⟩;skip)) | refine am F F F ?_ | refine ad F F ?_)
 all_goals refine jZ (vs:=[_,_,_]) F ⟨F,F,F,trivial⟩ F ⟨hle,F,?_⟩
 all_goals (rw [aL];exact ⟨_,_,_,F,hyes,hno⟩)
theorem lY {u : Value} {vs : List bU} (hw : SchW (af vs)) : ∀ n,n ≤ 1000 → my n u vs
 | 0,_=>fun G k s _ _ _=>wO (.inr rfl) oM
 | n + 1,hn=>fun G k s h hk hs=>by
  have hR:=lY (u:=u) (vs:=vs) hw n oM
  have hkk:=cm (cE hk)
  have hvl : vs.length ≤ 8:=by have:=hw.len;unfold af at this;simpa using this
  match s,hs with
  | [],_=>exact wO (.inl F) hn
  | e :: s,hs =>
   have hs1:=hs
   simp only [List.length_cons] at hs
   match k,hk,hkk with
   | [],hk,_=>cases hk
   | c :: k,hk,hkk =>
    have hkl:=hkk.2
    simp only [List.length_cons] at hkl
    by_cases h1 : c.toNat = 91
    ·obtain rfl : c = 91:=bn h1 dC
     exact abN hR h hk oM oM oM
    by_cases h2 : c.toNat = 63
    ·obtain rfl : c = 63:=bn h2 dC
     exact abL hR h hk oM oM
    have h91 : ¬ (c.toNat = 91 ∨ c.toNat = 63):=fun h=>by rcases h with h | h <;> omega
    cases hr : aX (af vs) (c :: k) with
    | some t =>
     obtain ⟨r,e1⟩:=dv hr
     simp only [List.cons.injEq] at e1
     obtain ⟨rfl,rfl⟩:=e1
     have href:=dX vs (64 :: k)
     rcases hrv : d8 vs (64 :: k) with _ | x
     ·rw [hrv,hr] at href;cases href
     obtain ⟨⟨a,ca⟩,⟨so,nm,fs⟩⟩:=x
     have hso:=(hw.ty _ (List.mem_map_of_mem (eI hrv))).sort
     dsimp only at hso
     rw [hrv] at href
     refine abR F h.sl.one ?_ oM oM oM
     rw [xm href.symm]
     rcases hso with rfl | rfl | rfl
     ·exact abK hR h hw hrv hkk.1 oM hs1 oM
     ·exact abI hR h hw hrv hkk.1 oM hs1 oM
     ·exact abQ h hw hrv hkk.1 oM hs1 oM
    | none =>
     rcases dK hk h91 hr with e1 | e1 | e1
     ·simp only [List.cons.injEq] at e1
      obtain ⟨rfl,rfl⟩:=e1
      rw [aaH hr]
      exact abM h.sl.one (by simp) hs1 oM
     ·simp only [List.cons.injEq] at e1
      obtain ⟨rfl,rfl⟩:=e1
      rw [aaF hr]
      exact abJ h.sl.one (by simp) hs1 oM
     ·simp only [List.cons.injEq] at e1
      obtain ⟨rfl,rfl⟩:=e1
      rw [aaI hr]
      exact abP h.sl.one oM oM
theorem z0 {s k b : adE} (h : s.length ≤ 1048576 ∧ k.length ≤ 1048576 ∧ b.length ≤ 1048576) (hg : k5 s k b = none) : bd adD 46 [S s,S k,S b] G (fun v _=>∃ u q,v = Tu [u,.pointer q,Bo false]):=by
 by_cases hk : cz s k = true
 case neg =>
  have hk2 : cz s k = false:=by simpa using hk
  have cx_lk1 : ∀ G,bd adD 83 [S s,S k] G (fun v _=>∃ u,v = Tu [u,Bo false]):=fun G=>by
   refine (fc (G:=G) (s:=s) (k:=k) oM oM).mono ?_
   rintro v G' L' ⟨h1,h2,u,vs,rfl,_⟩
   exact ⟨h1,h2,u,by rw [hk2]⟩
  refine jB [(0,_),(1,_),(2,_)] Tryz.func46 Tryz.ntmps46 fun B hok hB hW=>?_
  repeat' (first | refine jR ?_ | (refine jo ?_;first | refine aK F ?_ | (refine aF F F F (cx_lk1 _) F ?_;rintro _ G hle ⟨u1,rfl⟩;skip)) | refine aA F F F ?_ | refine ab F F ?_)
  all_goals refine jZ (vs:=[_,_,_]) F ⟨F,F,F,trivial⟩ F ⟨hle,F,?_⟩
  all_goals exact ⟨_,_,F⟩
 obtain ⟨ts,hs,hki,hw⟩:=iQ hk
 have cx_lka : ∀ G,bd adD 83 [S s,S k] G (fun v G'=>∃ a c vs,v = Tu [.slice a vs.length c,Bo true] ∧ SchR G' (.slice a vs.length c) vs ∧ af vs = ts):=fun G=>by
  refine (fc (G:=G) (s:=s) (k:=k) oM oM).mono ?_
  rintro v G' L' ⟨h1,h2,u,vs,rfl,h4,_,h6⟩
  obtain ⟨_,⟨rfl,h0⟩ | ⟨b,o,cap,rfl,_,_⟩⟩:=h4.sl
  ·exact ⟨h1,h2,none,0,vs,by rw [hk,h0],by rw [h0];exact h4,h6 ts hs hki⟩
  ·exact ⟨h1,h2,_,cap,vs,by rw [hk],h4,h6 ts hs hki⟩
 by_cases hl : b.length ≤ 600
 case neg =>
  refine jB [(0,_),(1,_),(2,_)] Tryz.func46 Tryz.ntmps46 fun B hok hB hW=>?_
  repeat' (first | refine jR ?_ | (refine jo ?_;first | refine aw F ?_ | (refine aF F F F (cx_lka _) F ?_;rintro _ G hle ⟨av1,cv1,vs1,rfl,hR1,hT1⟩;skip)) | refine am F F F ?_ | refine ab F (aD oM) ?_)
  all_goals refine jZ (vs:=[_,_,_]) F ⟨F,F,F,trivial⟩ F ⟨hle,F,?_⟩
  all_goals exact ⟨_,_,F⟩
 unfold k5 at hg
 rw [hs] at hg
 dsimp only at hg
 rw [if_pos ⟨hki,hl⟩] at hg
 refine jB [(0,_),(1,_),(2,_)] Tryz.func46 Tryz.ntmps46 fun B hok hB hW=>?_
 repeat' (first | refine jR ?_ | (refine jo ?_;first | refine aw F ?_ | refine jV (ao F F) ?_ | (refine aF F F F (cx_lka _) F ?_;rintro _ G hle ⟨av1,cv1,vs1,rfl,hR1,hT1⟩;skip)) | refine am F F F ?_ | refine ad F (aE oM) ?_)
 subst hT1
 have hle0:=hle
 cases hf : cU (rb (af vs1) 12) k b with
 | none =>
  have cx_wh0:=o4 (lY (u:=.slice av1 vs1.length cv1) (vs:=vs1) hw 12 oM) hR1 hki oM oM hf
  repeat' (first | refine jR ?_ | (refine jo ?_;(refine aF F F F cx_wh0 F ?_;rintro _ G hle ⟨q1,rfl⟩;skip)) | refine ab F F ?_)
  all_goals refine jZ (vs:=[_,_,_]) F ⟨F,F,F,trivial⟩ F ⟨(hle0.trans hle),F,?_⟩
  all_goals exact ⟨_,_,F⟩
 | some v =>
  rw [hf] at hg
  have htot:=j9 _ _ _ _ _ (cS hf)
  simp only [List.length_nil] at htot
  have hvn : bV (af vs1) k v.out = none:=tH hw (lL _ _ _ _ (cS hf)).1 fun h=>by dsimp only at hg;rw [if_pos h.1] at hg;cases hg
  have cx_wh1:=md (lY (u:=.slice av1 vs1.length cv1) (vs:=vs1) hw 12 oM) hR1 hki oM oM hf
  refine jo ?_
  refine aF F F F cx_wh1 F ?_
  rintro _ G2 hle2 ⟨wb,rfl,hrep⟩
  have hR2:=hR1.mono hle2
  have cx_out:=kq hw hrep oM
  have cx_bk:=s5 (k:=k) (s:=v.out) hw hR2 hki
  rw [hvn] at cx_bk
  repeat' (first | refine jR ?_ | (refine jo ?_;first | refine ac F F F cx_out F ?_ | (refine aF F F F cx_bk F ?_;rintro _ G hle rfl;skip)) | refine ad F F ?_)
  all_goals refine jZ (vs:=[_,_,_]) F ⟨F,F,F,trivial⟩ F ⟨((hle0.trans hle2).trans hle),F,?_⟩
  all_goals exact ⟨_,_,F⟩
theorem zZ {s k b : adE} {v : V} (h : s.length ≤ 1048576 ∧ k.length ≤ 1048576 ∧ b.length ≤ 1048576) (hg : k5 s k b = some v) : bd adD 46 [S s,S k,S b] G (fun r G'=>∃ a c vs wb,r = Tu [.slice a vs.length c,Pt wb 0,Bo true] ∧ SchR G' (.slice a vs.length c) vs ∧ aP s = some (af vs) ∧ RepR G' (af vs) v k wb):=by
 obtain ⟨ts,hs,hki,hl,hf,ho⟩:=qx hg
 have hw:=b6 hs
 have hk : cz s k = true:=by unfold cz;rw [hs];exact hki
 have cx_lka : ∀ G,bd adD 83 [S s,S k] G (fun v G'=>∃ a c vs,v = Tu [.slice a vs.length c,Bo true] ∧ SchR G' (.slice a vs.length c) vs ∧ af vs = ts):=fun G=>by
  refine (fc (G:=G) (s:=s) (k:=k) oM oM).mono ?_
  rintro v G' L' ⟨h1,h2,u,vs,rfl,h4,_,h6⟩
  obtain ⟨_,⟨rfl,h0⟩ | ⟨b,o,cap,rfl,_,_⟩⟩:=h4.sl
  ·exact ⟨h1,h2,none,0,vs,by rw [hk,h0],by rw [h0];exact h4,h6 ts hs hki⟩
  ·exact ⟨h1,h2,_,cap,vs,by rw [hk],h4,h6 ts hs hki⟩
 have htot:=j9 _ _ _ _ _ (cS hf)
 simp only [List.length_nil] at htot
 obtain ⟨hk1,hd⟩:=lL _ _ _ _ (cS hf)
 have hvs:=iu hw hk1 ho hd
 refine jB [(0,_),(1,_),(2,_)] Tryz.func46 Tryz.ntmps46 fun B hok hB hW=>?_
 repeat' (first | refine jR ?_ | (refine jo ?_;first | refine aw F ?_ | refine jV (ao F F) ?_ | (refine aF F F F (cx_lka _) F ?_;rintro _ G hle ⟨av1,cv1,vs1,rfl,hR1,hT1⟩;skip)) | refine am F F F ?_ | refine ad F (aE oM) ?_)
 subst hT1
 have hle0:=hle
 have cx_wh1:=md (lY (u:=.slice av1 vs1.length cv1) (vs:=vs1) hw 12 oM) hR1 hki oM oM hf
 refine jo ?_
 refine aF F F F cx_wh1 F ?_
 rintro _ G2 hle2 ⟨wb,rfl,hrep⟩
 have hR2:=hR1.mono hle2
 have cx_out:=kq hw hrep oM
 have cx_bk:=s5 (k:=k) (s:=v.out) hw hR2 hki
 rw [hvs] at cx_bk
 repeat' (first | refine jR ?_ | (refine jo ?_;first | refine ac F F F cx_out F ?_ | (refine aF F F F cx_bk F ?_;rintro _ G hle rfl;skip)) | refine ad F F ?_)
 all_goals refine jZ (vs:=[_,_,_]) F ⟨F,F,F,trivial⟩ F ⟨((hle0.trans hle2).trans hle),F,?_⟩
 all_goals exact ⟨_,_,_,_,F,hR2.mono hle,hs,hrep.mono hle⟩
theorem zd {s k b : adE} {v : V} (h : k5 s k b = some v) : v.wf ∧ v.tot ≤ 60000:=by
 obtain ⟨ts,hs,hki,hl,hf,ho⟩:=qx h
 have htot:=j9 _ _ _ _ _ (cS hf)
 simp only [List.length_nil] at htot
 obtain ⟨hk1,hd⟩:=lL _ _ _ _ (cS hf)
 exact ⟨(ou (iu (b6 hs) hk1 ho hd)).1,oM⟩
abbrev tBr : TypeId:=93
abbrev bQ (r sc : Nat) (s : adE) (b : Bool) (a : Option Addr) (n c : Nat) (d : Int) : Own:=.blk r (.cells (List.toArray [Pt sc 0,S s,Bo b,.slice a n c,I d]) tBr (0,0))
theorem kp {r sc m n c : Nat} {s : adE} {a : Option Addr} {d : Int} (h : m ≤ s.length ∧ s.length ≤ 1000000) : cM adD 64 [Pt r 0,I (m : Nat)] G [bQ r sc s false a n c d] (fun v L'=>v = S (s.take m) ∧ L' = [bQ r sc (s.drop m) false a n c d]):=by
 refine jH [(0,_),(1,_)] Tryz.func64 Tryz.ntmps64 fun B hB hW=>?_
 repeat' (first | refine jM ?_ | (refine jo ?_;first | refine al F ?_ | refine aw F ?_ | refine jD F F F ?_) | refine am F F F ?_ | refine ad F (aE oM) ?_)
 exact aR (vs:=[_]) F ⟨F,trivial⟩ F (List.Sublist.refl _) ⟨F,F,F⟩
theorem ge {r sc m n c : Nat} {s : adE} {b : Bool} {a : Option Addr} {d : Int} (h : b = true ∨ s.length < m) (hs : s.length ≤ 1000000 ∧ m ≤ 1000000) : cM adD 64 [Pt r 0,I (m : Nat)] G [bQ r sc s b a n c d] (fun v L'=>v = S [] ∧ L' = [bQ r sc s true a n c d]):=by
 rcases h with rfl | h
 ·refine jH [(0,_),(1,_)] Tryz.func64 Tryz.ntmps64 fun B hB hW=>?_
  repeat' (first | refine jR ?_ | (refine jo ?_;first | refine al F ?_ | refine aK F ?_ | refine jD F F F ?_) | refine aA F F F ?_ | refine ab F F ?_)
  all_goals exact aR (vs:=[_]) F ⟨F,trivial⟩ F (List.Sublist.refl _) ⟨F,F,F⟩
 ·cases b
  ·refine jH [(0,_),(1,_)] Tryz.func64 Tryz.ntmps64 fun B hB hW=>?_
   repeat' (first | refine jR ?_ | (refine jo ?_;first | refine al F ?_ | refine aw F ?_ | refine jD F F F ?_) | refine am F F F ?_ | refine ab F (aD oM) ?_)
   all_goals exact aR (vs:=[_]) F ⟨F,trivial⟩ F (List.Sublist.refl _) ⟨F,F,F⟩
  ·refine jH [(0,_),(1,_)] Tryz.func64 Tryz.ntmps64 fun B hB hW=>?_
   repeat' (first | refine jR ?_ | (refine jo ?_;first | refine al F ?_ | refine aK F ?_ | refine jD F F F ?_) | refine aA F F F ?_ | refine ab F F ?_)
   all_goals exact aR (vs:=[_]) F ⟨F,trivial⟩ F (List.Sublist.refl _) ⟨F,F,F⟩
theorem ta {r sc n c : Nat} {s q : adE} {x : Bool} {a : Option Addr} {d : Int} (h : cI s = some (x,q)) (hs : s.length ≤ 1000000) : cM adD 135 [Pt r 0] G [bQ r sc s false a n c d] (fun v L'=>v = Bo x ∧ L' = [bQ r sc q false a n c d]):=by
 have e:=fB h
 subst e
 have hl : ((if x = true then 1 else 0) :: q).length = q.length + 1:=rfl
 have cx_tkb:=kp (G:=G) (r:=r) (sc:=sc) (m:=1) (n:=n) (c:=c) (s:=(if x = true then 1 else 0) :: q) (a:=a) (d:=d) ⟨oM,hs⟩
 cases x
 ·have cx_tkb : cM adD 64 [Pt r 0,I 1] G [bQ r sc (0 :: q) false a n c d] (fun v L'=>v = S [0] ∧ L' = [bQ r sc q false a n c d]):=cx_tkb
  refine jH [(0,_)] Tryz.func135 Tryz.ntmps135 fun B hB hW=>?_
  repeat' (first | refine jR ?_ | (refine jo ?_;(refine ai F F F cx_tkb F ?_;rintro _ _ ⟨rfl,rfl⟩;dsimp only [zA,fA])) | refine ad F F ?_)
  all_goals exact aR (vs:=[_]) F ⟨F,trivial⟩ F (List.Sublist.refl _) ⟨F,F,F⟩
 ·have cx_tkb : cM adD 64 [Pt r 0,I 1] G [bQ r sc (1 :: q) false a n c d] (fun v L'=>v = S [1] ∧ L' = [bQ r sc q false a n c d]):=cx_tkb
  refine jH [(0,_)] Tryz.func135 Tryz.ntmps135 fun B hB hW=>?_
  repeat' (first | refine jR ?_ | (refine jo ?_;(refine ai F F F cx_tkb F ?_;rintro _ _ ⟨rfl,rfl⟩;dsimp only [zA,fA])) | refine ad F F ?_)
  all_goals exact aR (vs:=[_]) F ⟨F,trivial⟩ F (List.Sublist.refl _) ⟨F,F,F⟩
theorem td {r sc n c : Nat} {s : adE} {b : Bool} {a : Option Addr} {d : Int} (h : b = true ∨ cI s = none) (hs : s.length ≤ 1000000) : cM adD 135 [Pt r 0] G [bQ r sc s b a n c d] (fun v L'=>∃ q,(v = Bo false ∧ q.length ≤ s.length) ∧ L' = [bQ r sc q true a n c d]):=by
 by_cases h1 : b = true ∨ s.length < 1
 ·have cx_tkb:=ge (G:=G) (r:=r) (sc:=sc) (m:=1) (n:=n) (c:=c) (s:=s) (b:=b) (a:=a) (d:=d) h1 ⟨hs,oM⟩
  have cx_tkb : cM adD 64 [Pt r 0,I 1] G [bQ r sc s b a n c d] (fun v L'=>v = S [] ∧ L' = [bQ r sc s true a n c d]):=cx_tkb
  refine jH [(0,_)] Tryz.func135 Tryz.ntmps135 fun B hB hW=>?_
  repeat' (first | refine jR ?_ | (refine jo ?_;(refine ai F F F cx_tkb F ?_;rintro _ _ ⟨rfl,rfl⟩;dsimp only [zA,fA])) | refine ad F F ?_)
  all_goals exact aR (vs:=[_]) F ⟨F,trivial⟩ F (List.Sublist.refl _) ⟨F,s,⟨F,Nat.le_refl _⟩,F⟩
 ·obtain rfl : b = false:=by cases b;rfl;exact absurd (.inl F) h1
  match s,h,hs,h1 with
  | [],_,_,h1=>exact absurd (.inr (by simp)) h1
  | e :: q,h,hs,_ =>
   have he : e.toNat ≠ 0 ∧ e.toNat ≠ 1:=by
    rcases h with h | h
    ·cases h
    ·unfold cI at h
     dsimp only at h
     split at h
     ·cases h
     ·split at h
      ·cases h
      ·exact ⟨by assumption,by assumption⟩
   have hl : (e :: q).length = q.length + 1:=rfl
   have cx_tkb:=kp (G:=G) (r:=r) (sc:=sc) (m:=1) (n:=n) (c:=c) (s:=e :: q) (a:=a) (d:=d) ⟨oM,hs⟩
   have cx_tkb : cM adD 64 [Pt r 0,I 1] G [bQ r sc (e :: q) false a n c d] (fun v L'=>v = S [e] ∧ L' = [bQ r sc q false a n c d]):=cx_tkb
   have hne : ¬ [e] = [1]:=fun h=>by simp only [List.cons.injEq,and_true] at h;subst h;exact he.2 F
   have hbl : Op.bytesLess [e] [1] = false:=by
    cases hb : Op.bytesLess [e] [1] with
    | false=>rfl
    | true =>
     exfalso
     unfold Op.bytesLess at hb
     have h9 : ¬ e.toNat < (1 : UInt8).toNat:=by show ¬ e.toNat < 1;omega
     simp_all
   have hc : (!(Op.bytesLess [e] [1] || decide ([e] = [1]))) = true:=by rw [hbl,decide_eq_false hne];rfl
   refine jH [(0,_)] Tryz.func135 Tryz.ntmps135 fun B hB hW=>?_
   repeat' (first | refine jR ?_ | (refine jo ?_;first | refine jD F F F ?_ | (refine ai F F F cx_tkb F ?_;rintro _ _ ⟨rfl,rfl⟩;dsimp only [zA,fA])) | refine ab F ‹_› ?_)
   all_goals exact aR (vs:=[_]) F ⟨F,trivial⟩ F (List.Sublist.refl _) ⟨F,q,⟨by rw [decide_eq_false hne];all_goals rfl,oM⟩,rfl⟩
theorem eN {r sc m c : Nat} {s q : adE} {b : Bool} {a : Option Addr} {d n : Int} (h : bI s = some (n,q)) (hs : s.length ≤ 1000) : cM adD 63 [Pt r 0] G [bQ r sc s b a m c d] (fun v L'=>v = I n ∧ L' = [bQ r sc q b a m c d]):=by
 have cx_ng0:=rH (G:=G) (s:=s) oM
 rw [h] at cx_ng0
 have cx_ngi : aG adD 31 [S s] G (· = Tu [I n,S q,Bo true]):=cx_ng0
 refine jH [(0,_)] Tryz.func63 Tryz.ntmps63 fun B hB hW=>?_
 repeat' (first | refine jR ?_ | (refine jo ?_;first | refine al F ?_ | refine jD F F F ?_ | refine ac F F F cx_ngi F ?_) | refine ad F F ?_)
 all_goals exact aR (vs:=[_]) F ⟨F,trivial⟩ F (List.Sublist.refl _) ⟨F,F,F⟩
theorem gr {r sc m c : Nat} {s : adE} {b : Bool} {a : Option Addr} {d : Int} (h : bI s = none) (hs : s.length ≤ 1000) : cM adD 63 [Pt r 0] G [bQ r sc s b a m c d] (fun v L'=>v = I 0 ∧ L' = [bQ r sc [] true a m c d]):=by
 have cx_ng0:=rH (G:=G) (s:=s) oM
 rw [h] at cx_ng0
 have cx_ngi : aG adD 31 [S s] G (· = Tu [I 0,S [],Bo false]):=cx_ng0
 refine jH [(0,_)] Tryz.func63 Tryz.ntmps63 fun B hB hW=>?_
 repeat' (first | refine jR ?_ | (refine jo ?_;first | refine al F ?_ | refine jD F F F ?_ | refine ac F F F cx_ngi F ?_) | refine ab F F ?_)
 all_goals exact aR (vs:=[_]) F ⟨F,trivial⟩ F (List.Sublist.refl _) ⟨F,F,F⟩
abbrev fX : TypeId:=91
abbrev mH : TypeId:=76
abbrev rW : TypeId:=71
theorem dl {P : Program} {n : Nat} {E : bx} {B : Base} {G : Gh} {L R1 R : List Own} {e : Exit} {f : FuncId} {fi ca az xs : List Value} {b1 b2 : Nat} {c1 c2 : List Value} {T1 T2 : TypeId} {PostD : Value → Gh → List Own → Prop} {fn : Func} {rs : List ResultVar} {Post : Value → Gh → List Own → Prop}
  [h1 : DelB L b1 c1 T1 R1] [h2 : DelB R1 b2 c2 T2 R] (he : e = .ret ∨ e = .normal) (hv : fi ++ az ++ ca = xs) (hc : FnD P f xs G [.blk b1 (.cells c1.toArray T1 (0,0)),.blk b2 (.cells c2.toArray T2 (0,0))] PostD)
  (hr : fn.results = rs.toArray) (k : ∀ v G' L',PostD v G' L' → ∃ vs L'',je P (St B G' (L' ++ R)) E rs vs ∧ L''.Sublist (L' ++ R) ∧ Post (ff vs) G' L'') :
  Nx n [sS f fi ca az] E B G L (cu P (.exit e) [] (w4 P fn (dO B Post))):=acg he hv hc (h1.del.perm.trans (h2.del.perm.cons _)) hr k
theorem cQ {x0 r sc n c : Nat} {s : adE} {b : Bool} {a : Option Addr} {d : Int} (hd : -1000 ≤ d ∧ d ≤ 1000) : FnD adD 132 [Pt x0 0] G [.blk x0 (.cells (List.toArray [Pt r 0]) fX (0,0)),bQ r sc s b a n c d]
  (fun _ G' L'=>G' = G ∧ L' = [.blk x0 (.cells (List.toArray [Pt r 0]) fX (0,0)),bQ r sc s b a n c (d - 1)]):=by
 refine zB [(0,_)] Tryz.func132 kR Tryz.ntmps132 F F tU fun B hok hB hW=>?_
 repeat' (first | refine jM ?_ | (refine jo ?_;first | refine al F ?_ | refine jD F F F ?_))
 all_goals exact oP (vs:=[]) F trivial F (List.Sublist.refl _) ⟨F,F⟩
def tD (f : adE → Option (V × adE)) (s : adE) (b : Bool) (u : V) (s' : adE) (b' : Bool) : Prop :=
 s'.length ≤ s.length ∧ (b' = false → b = false ∧ f s = some (u,s')) ∧ (b' = true → b = true ∨ f s = none)
def kP (f : adE → Option (V × adE)) (r sc : Nat) (s : adE) (b : Bool) (d : Int) (v : Value) (G' : Gh) (L' : List Own) : Prop :=
 ∃ u c s' b' a n k,v = Ag (bG c) ∧ V.rep G' u c ∧ L' = [bQ r sc s' b' a n k d] ∧ (d ≠ 0 → a = none ∧ n = 0 ∧ k = 0) ∧ tD f s b u s' b'
def rI (n sc : Nat) (qs : List cC) : Prop:=∀ (G : Gh) (r : Nat) (k s : adE) (b : Bool),ScI G sc qs → aB (ah qs) k = true → s.length ≤ 1000 →
 dD adD 92 [Pt r 0,Ag (c7 k)] G [bQ r sc s b none 0 0 (13 - (n : Int))] (kP (rb (ah qs) n k) r sc s b (13 - (n : Int)))
theorem cP {f : adE → Option (V × adE)} {r sc n k : Nat} {s s' : adE} {b b' : Bool} {d d' : Int} {u : V} {c : VC} {a : Option Addr} {G' : Gh} (hr : V.rep G' u c) (hd : d' = d) (hk : d ≠ 0 → a = none ∧ n = 0 ∧ k = 0) (h : tD f s b u s' b') : kP f r sc s b d (Ag (bG c)) G' [bQ r sc s' b' a n k d']:=by
 subst hd;exact ⟨u,c,s',b',a,n,k,F,hr,F,hk,h⟩
theorem w9 {f : adE → Option (V × adE)} {r sc : Nat} {k q : adE} {d e : Int} (h : e = d) (h0 : d ≠ 0) (hc : dD adD 92 [Pt r 0,Ag (c7 k)] G [bQ r sc q false none 0 0 e] (kP f r sc q false e)) : dD adD 92 [Pt r 0,Ag [S (sg k),S (bs k),S (nm k)]] G [bQ r sc q false none 0 0 d] (fun v G' L'=>∃ u c s' b',v = Ag (bG c) ∧ V.rep G' u c ∧ L' = [bQ r sc s' b' none 0 0 d] ∧ tD f q false u s' b'):=by
 subst h
 refine hc.mono ?_
 rintro v G' L' ⟨h1,u,c,s',b',a,n,kk,rfl,h2,rfl,h3,h4⟩
 obtain ⟨rfl,rfl,rfl⟩:=h3 h0
 exact ⟨h1,u,c,s',b',F,h2,F,h4⟩
theorem lf {ts : List Ty} {n : Nat} {k q t1 : adE} {u : V} {b1 : Bool} (h : tD (rb ts n k) q false u t1 b1) : t1.length ≤ q.length ∧ (b1 = false → rb ts n k q = some (u,t1) ∧ u.tot + 100 * t1.length ≤ 100 * q.length ∧ t1.length < q.length) ∧ (b1 = true → rb ts n k q = none):=by
 obtain ⟨h1,h2,h3⟩:=h
 refine ⟨h1,fun h=>?_,fun h=>?_⟩
 ·obtain ⟨_,h4⟩:=h2 h
  exact ⟨h4,j9 _ _ _ _ _ h4,px _ _ _ _ _ h4⟩
 ·rcases h3 h with h4 | h4
  ·cases h4
  ·exact h4
theorem uv {r sc n : Nat} {qs : List cC} {k s : adE} {b : Bool} (h : b = true ∨ n = 0) (hs : s.length ≤ 1000) (hn : n ≤ 13) :
  dD adD 92 [Pt r 0,Ag [S (sg k),S (bs k),S (nm k)]] G [bQ r sc s b none 0 0 (13 - (n : Int))] (kP (rb (ah qs) n k) r sc s b (13 - (n : Int))):=by
 have hno : b = true ∨ rb (ah qs) n k s = none:=by
  rcases h with h | rfl
  ·exact .inl h
  ·exact .inr F
 rcases h with rfl | rfl
 ·
  refine cF [(0,_),(1,_)] Tryz.func92 kR Tryz.ntmps92 F F tU fun B hok hB hW=>?_
  repeat' (first | refine jM ?_ | (refine jo ?_;first | refine jO fun _=>?_ | refine jL fun _=>?_ | refine al F ?_ | refine jD F F F ?_ | refine jV (du F F) ?_))
  rename_i x2 x3 x4
  refine jo ?_
  refine cG (fi:=[]) (ca:=[Pt x2 0]) (az:=[]) F F ?_
  repeat' (first | refine jR ?_ | (refine jo ?_;first | refine al F ?_ | refine jD F F F ?_ | refine jC F F F ?_ | refine jV (ao F F) ?_) | refine ab F F ?_ | refine dJ F (fun _=>?_) (fun _=>?_))
  all_goals
   refine dl (.inl F) F (cQ (x0:=x2) (r:=r) (sc:=sc) (s:=s) (b:=true) (a:=none) (n:=0) (c:=0) (d:=13 - (n : Int) + 1) oM) F ?_
   rintro v G' L' ⟨rfl,rfl⟩
   dsimp only [zA,fA]
   exact ⟨[_],[bQ r sc s true none 0 0 (13 - (n : Int) + 1 - 1)],⟨ay F F F F,trivial⟩,sB,Gh.le.refl _,cP (c:=⟨0,[],0,none,0,0⟩) fZ oM (fun _=>⟨F,F,F⟩) ⟨Nat.le_refl _,fun h=>(by cases h),fun _=>hno⟩⟩
 ·
  refine cF [(0,_),(1,_)] Tryz.func92 kR Tryz.ntmps92 F F tU fun B hok hB hW=>?_
  repeat' (first | refine jM ?_ | (refine jo ?_;first | refine jO fun _=>?_ | refine jL fun _=>?_ | refine al F ?_ | refine jD F F F ?_ | refine jV (du F F) ?_))
  rename_i x2 x3 x4
  refine jo ?_
  refine cG (fi:=[]) (ca:=[Pt x2 0]) (az:=[]) F F ?_
  repeat' (first | refine jR ?_ | (refine jo ?_;first | refine al F ?_ | refine jD F F F ?_ | refine jC F F F ?_ | refine jV (ao F F) ?_) | refine ab F F ?_)
  all_goals
   refine dl (.inl F) F (cQ (x0:=x2) (r:=r) (sc:=sc) (s:=s) (b:=true) (a:=none) (n:=0) (c:=0) (d:=13 - ((0 : Nat) : Int) + 1) oM) F ?_
   rintro v G' L' ⟨rfl,rfl⟩
   dsimp only [zA,fA]
   exact ⟨[_],[bQ r sc s true none 0 0 (13 - ((0 : Nat) : Int) + 1 - 1)],⟨ay F F F F,trivial⟩,sB,Gh.le.refl _,cP (c:=⟨0,[],0,none,0,0⟩) fZ oM (fun _=>⟨F,F,F⟩) ⟨Nat.le_refl _,fun h=>(by cases h),fun _=>hno⟩⟩
theorem uB {n r sc m c : Nat} {qs : List cC} {k p s : adE} {d : Int} {a : Option Addr} (hd : d = 13 - (n : Int)) (hn : n ≤ 12) (hU : rI n sc qs) (hS : ScI G sc qs) (hk : aB (ah qs) k = true) (hs : p.length ≤ 1000) :
  dD adD 138 [Pt r 0,Ag [S (sg k),S (bs k),S (nm k)],S p] G [bQ r sc s false a m c d] (fun v G' L'=>∃ u cc b',v = Ag (bG cc) ∧ V.rep G' u cc ∧ L' = [bQ r sc s b' a m c d] ∧ (b' = false → cU (rb (ah qs) n) k p = some u ∧ u.tot ≤ 100 * p.length) ∧ (b' = true → cU (rb (ah qs) n) k p = none)):=by
 have cx_vl : ∀ y,dD adD 92 [Pt y 0,Ag [S (sg k),S (bs k),S (nm k)]] G [bQ y sc p false none 0 0 d] (fun v G' L'=>∃ u c s' b',v = Ag (bG c) ∧ V.rep G' u c ∧ L' = [bQ y sc s' b' none 0 0 d] ∧ tD (rb (ah qs) n k) p false u s' b'):=fun y=>w9 hd.symm oM (hU G y k p false hS hk hs)
 refine bT [(0,_),(1,_),(2,_)] Tryz.func138 kR Tryz.ntmps138 F F tU fun B hB hW=>?_
 repeat' (first | refine jR ?_ | (refine jo ?_;first | refine jO fun _=>?_ | refine jL fun _=>?_ | refine aQ F ?_) | (refine ak (ar (id:=1) _ (fun _ h=>h) aj ?_);refine jT 5 [0,1,2,4,5,6,7] (aa 12 247) ?_;(refine jG (aa 12 255) 3 F (aC F F F) ?_);(refine jG (aa 12 511) 8 F (aC F F F) ?_);(refine jG (aa 12 1023) 9 F (ao F F) ?_);refine jA 10 F ?_;(refine jO fun _=>?_);refine jS (aa 12 2047) ?_;refine jT 0 [11] (aa 12 4095) ?_;refine jQ ?_))
 rename_i y
 refine jo ?_
 refine cY F F F (cx_vl y) F ?_
 rintro _ G1 _ hle ⟨u1,c1,t1,b1,rfl,hrep,rfl,hP⟩
 dsimp only [zA,fA]
 obtain ⟨hQ1,hQ2,hQ3⟩:=lf hP
 cases b1 with
 | true =>
  have hno : cU (rb (ah qs) n) k p = none:=by unfold cU;rw [hQ3 rfl]
  repeat' (first | refine jR ?_ | (refine jo ?_;first | refine jL fun _=>?_ | refine al F ?_ | refine aQ F ?_ | refine jD F F F ?_ | refine jC F F F ?_ | refine aK F ?_) | refine aA F F F ?_ | refine ab F F ?_)
  all_goals refine aR (vs:=[_]) F ⟨ay F F F F,trivial⟩ F sB ⟨hle,u1,c1,true,F,hrep,F,fun h=>(by cases h),fun _=>hno⟩
 | false =>
  obtain ⟨h1,h2,h3⟩:=hQ2 rfl
  cases t1 with
  | nil =>
   have hyes : cU (rb (ah qs) n) k p = some u1:=gK h1
   repeat' (first | refine jR ?_ | (refine jo ?_;first | refine jL fun _=>?_ | refine al F ?_ | refine aQ F ?_ | refine jC F F F ?_ | refine aw F ?_) | refine am F F F ?_ | refine ad F F ?_)
   all_goals refine aR (vs:=[_]) F ⟨ay F F F F,trivial⟩ F sB ⟨hle,u1,c1,false,F,hrep,F,fun _=>⟨hyes,by simpa using h2⟩,fun h=>(by cases h)⟩
  | cons e t1 =>
   have hno : cU (rb (ah qs) n) k p = none:=by unfold cU;rw [h1]
   repeat' (first | refine jR ?_ | (refine jo ?_;first | refine jL fun _=>?_ | refine al F ?_ | refine aQ F ?_ | refine jD F F F ?_ | refine jC F F F ?_ | refine aw F ?_) | refine am F F F ?_ | refine ab F F ?_)
   all_goals refine aR (vs:=[_]) F ⟨ay F F F F,trivial⟩ F sB ⟨hle,u1,c1,true,F,hrep,F,fun h=>(by cases h),fun _=>hno⟩
theorem ab3 (x : adE) : dc (39 :: (x ++ [39])) = na x:=by
 cases x with
 | nil=>simp [dc,yF,na,bt]
 | cons c x =>
  have h:=uh (s:=39 :: (c :: x ++ [39]))
  have hne : (39 :: (c :: x ++ [39]) : adE) ≠ [39,39]:=fun e=>by simpa using congrArg List.length e
  have hl : (39 :: (c :: x ++ [39]) : adE).length = x.length + 3:=by simp
  have e0 : bt (39 :: (c :: x ++ [39]) : adE) 0 = 39:=rfl
  have e1 : bt (39 :: (c :: x ++ [39]) : adE) (x.length + 3 - 1) = 39:=by
   rw [show x.length + 3 - 1 = (x.length + 1) + 1 by omega,dQ,show x.length + 1 = (c :: x).length from rfl]
   simp [bt,List.getD]
  have e2 : ((39 :: (c :: x ++ [39]) : adE).take (x.length + 3 - 1)).drop 1 = c :: x:=by
   rw [show x.length + 3 - 1 = (c :: x).length + 1 by simp,List.take_succ_cons,List.take_left];rfl
  rw [hl,e0,e1,e2,decide_eq_true hne,Bool.and_true] at h
  rw [h,decide_eq_true oM]
  simp
theorem acD {n r sc : Nat} {qs : List cC} {s : adE} {d : Int} (hd : d = 12 - (n : Int)) (hn : n ≤ 12) (hr : aX (ah qs) [110] = none) (hs : s.length ≤ 1000) :
  dD adD 92 [Pt r 0,Ag (c7 [110])] G [bQ r sc s false none 0 0 d] (kP (rb (ah qs) (n + 1) [110]) r sc s false d):=by
 have cx_sign:=@dx G [110] []
 have hrd:=aaH (ts:=ah qs) (n:=n) (s:=s) hr
 show dD adD 92 [Pt r 0,Ag [S [],S [110],S []]] G [bQ r sc s false none 0 0 d] _
 cases hg : bI s with
 | none =>
  rw [hg] at hrd
  have cx_nb:=gr (G:=G) (r:=r) (sc:=sc) (m:=0) (c:=0) (b:=false) (a:=none) (d:=d + 1) hg hs
  refine cF [(0,_),(1,_)] Tryz.func92 kR Tryz.ntmps92 F F tU fun B hok hB hW=>?_
  repeat' (first | refine jM ?_ | (refine jo ?_;first | refine jO fun _=>?_ | refine jL fun _=>?_ | refine al F ?_ | refine jD F F F ?_ | refine jV (du F F) ?_))
  rename_i x2 x3 x4
  refine jo ?_
  refine cG (fi:=[]) (ca:=[Pt x2 0]) (az:=[]) F F ?_
  repeat' (first | refine jR ?_ | (refine jo ?_;first | refine al F ?_ | refine aQ F ?_ | refine jC F F F ?_ | refine jV (ao F F) ?_ | refine ac F F F cx_sign F ?_ | (refine ai F F F cx_nb F ?_;rintro _ _ ⟨rfl,rfl⟩;dsimp only [zA,fA]) | refine ac F F F (gu oM) F ?_) | refine ab F F ?_ | (refine ad F (by first | rfl | (refine decide_eq_false ?_;(omega))) ?_))
  all_goals
   refine dl (.inl F) F (cQ (x0:=x2) (r:=r) (sc:=sc) (s:=[]) (b:=true) (a:=none) (n:=0) (c:=0) (d:=d + 1) oM) F ?_
   rintro v G' L' ⟨rfl,rfl⟩
   dsimp only [zA,fA]
   exact ⟨[_],[bQ r sc [] true none 0 0 (d + 1 - 1)],⟨ay F F F F,trivial⟩,sB,Gh.le.refl _,cP (c:=⟨110,a8 0,0,none,0,0⟩) (bA dC dC) oM (fun _=>⟨F,F,F⟩) ⟨by simp,fun h=>(by cases h),fun _=>.inr hrd⟩⟩
 | some z =>
  obtain ⟨m,q⟩:=z
  obtain ⟨h1,h2,_⟩:=di hg
  have hl:=ce hg
  rw [hg] at hrd
  have cx_nb:=eN (G:=G) (r:=r) (sc:=sc) (m:=0) (c:=0) (b:=false) (a:=none) (d:=d + 1) hg hs
  refine cF [(0,_),(1,_)] Tryz.func92 kR Tryz.ntmps92 F F tU fun B hok hB hW=>?_
  repeat' (first | refine jM ?_ | (refine jo ?_;first | refine jO fun _=>?_ | refine jL fun _=>?_ | refine al F ?_ | refine jD F F F ?_ | refine jV (du F F) ?_))
  rename_i x2 x3 x4
  refine jo ?_
  refine cG (fi:=[]) (ca:=[Pt x2 0]) (az:=[]) F F ?_
  repeat' (first | refine jR ?_ | (refine jo ?_;first | refine al F ?_ | refine aQ F ?_ | refine jC F F F ?_ | refine jV (ao F F) ?_ | refine ac F F F cx_sign F ?_ | (refine ai F F F cx_nb F ?_;rintro _ _ ⟨rfl,rfl⟩;dsimp only [zA,fA]) | refine ac F F F (gu oM) F ?_) | refine ab F F ?_ | (refine ad F (by first | rfl | (refine decide_eq_false ?_;(omega))) ?_))
  all_goals
   refine dl (.inl F) F (cQ (x0:=x2) (r:=r) (sc:=sc) (s:=q) (b:=false) (a:=none) (n:=0) (c:=0) (d:=d + 1) oM) F ?_
   rintro v G' L' ⟨rfl,rfl⟩
   dsimp only [zA,fA]
   exact ⟨[_],[bQ r sc q false none 0 0 (d + 1 - 1)],⟨ay F F F F,trivial⟩,sB,Gh.le.refl _,cP (c:=⟨110,a8 m,0,none,0,0⟩) (bA dC dC) oM (fun _=>⟨F,F,F⟩) ⟨oM,fun _=>⟨F,hrd⟩,fun h=>(by cases h)⟩⟩
theorem acF {n r sc : Nat} {qs : List cC} {s : adE} {d : Int} (hd : d = 12 - (n : Int)) (hn : n ≤ 12) (hr : aX (ah qs) [102] = none) (hs : s.length ≤ 1000) :
  dD adD 92 [Pt r 0,Ag (c7 [102])] G [bQ r sc s false none 0 0 d] (kP (rb (ah qs) (n + 1) [102]) r sc s false d):=by
 have cx_sign:=@dx G [102] []
 have hrd:=aaI (ts:=ah qs) (n:=n) (s:=s) hr
 show dD adD 92 [Pt r 0,Ag [S [],S [102],S []]] G [bQ r sc s false none 0 0 d] _
 cases hf : cI s with
 | none =>
  rw [hf] at hrd
  have cx_fl:=td (G:=G) (r:=r) (sc:=sc) (n:=0) (c:=0) (s:=s) (b:=false) (a:=none) (d:=d + 1) (.inr hf) oM
  refine cF [(0,_),(1,_)] Tryz.func92 kR Tryz.ntmps92 F F tU fun B hok hB hW=>?_
  repeat' (first | refine jM ?_ | (refine jo ?_;first | refine jO fun _=>?_ | refine jL fun _=>?_ | refine al F ?_ | refine jD F F F ?_ | refine jV (du F F) ?_))
  rename_i x2 x3 x4
  refine jo ?_
  refine cG (fi:=[]) (ca:=[Pt x2 0]) (az:=[]) F F ?_
  repeat' (first | refine jR ?_ | (refine jo ?_;first | refine al F ?_ | refine aQ F ?_ | refine jC F F F ?_ | refine jV (ao F F) ?_ | refine ac F F F cx_sign F ?_ | (refine ai F F F cx_fl F ?_;rintro _ _ ⟨q1,⟨rfl,hql⟩,rfl⟩;dsimp only [zA,fA])) | refine ab F F ?_ | (refine ad F (by first | rfl | (refine decide_eq_false ?_;(omega))) ?_))
  all_goals
   refine dl (.inl F) F (cQ (x0:=x2) (r:=r) (sc:=sc) (s:=q1) (b:=true) (a:=none) (n:=0) (c:=0) (d:=d + 1) oM) F ?_
   rintro v G' L' ⟨rfl,rfl⟩
   dsimp only [zA,fA]
   exact ⟨[_],[bQ r sc q1 true none 0 0 (d + 1 - 1)],⟨ay F F F F,trivial⟩,sB,Gh.le.refl _,cP (c:=⟨102,[110,111],0,none,0,0⟩) (bA dC dC) oM (fun _=>⟨F,F,F⟩) ⟨hql,fun h=>(by cases h),fun _=>.inr hrd⟩⟩
 | some y =>
  obtain ⟨x,q⟩:=y
  rw [hf] at hrd
  have hin:=fB hf
  have hl : s.length = q.length + 1:=by rw [hin];rfl
  have cx_fl:=ta (G:=G) (r:=r) (sc:=sc) (n:=0) (c:=0) (s:=s) (q:=q) (x:=x) (a:=none) (d:=d + 1) hf oM
  cases x with
  | false =>
   refine cF [(0,_),(1,_)] Tryz.func92 kR Tryz.ntmps92 F F tU fun B hok hB hW=>?_
   repeat' (first | refine jM ?_ | (refine jo ?_;first | refine jO fun _=>?_ | refine jL fun _=>?_ | refine al F ?_ | refine jD F F F ?_ | refine jV (du F F) ?_))
   rename_i x2 x3 x4
   refine jo ?_
   refine cG (fi:=[]) (ca:=[Pt x2 0]) (az:=[]) F F ?_
   repeat' (first | refine jR ?_ | (refine jo ?_;first | refine al F ?_ | refine aQ F ?_ | refine jC F F F ?_ | refine jV (ao F F) ?_ | refine ac F F F cx_sign F ?_ | (refine ai F F F cx_fl F ?_;rintro _ _ ⟨rfl,rfl⟩;dsimp only [zA,fA])) | refine ab F F ?_ | (refine ad F (by first | rfl | (refine decide_eq_false ?_;(omega))) ?_))
   all_goals
    refine dl (.inl F) F (cQ (x0:=x2) (r:=r) (sc:=sc) (s:=q) (b:=false) (a:=none) (n:=0) (c:=0) (d:=d + 1) oM) F ?_
    rintro v G' L' ⟨rfl,rfl⟩
    dsimp only [zA,fA]
    exact ⟨[_],[bQ r sc q false none 0 0 (d + 1 - 1)],⟨ay F F F F,trivial⟩,sB,Gh.le.refl _,cP (c:=⟨102,[110,111],0,none,0,0⟩) (bA dC dC) oM (fun _=>⟨F,F,F⟩) ⟨oM,fun _=>⟨F,hrd⟩,fun h=>(by cases h)⟩⟩
  | true =>
   refine cF [(0,_),(1,_)] Tryz.func92 kR Tryz.ntmps92 F F tU fun B hok hB hW=>?_
   repeat' (first | refine jM ?_ | (refine jo ?_;first | refine jO fun _=>?_ | refine jL fun _=>?_ | refine al F ?_ | refine jD F F F ?_ | refine jV (du F F) ?_))
   rename_i x2 x3 x4
   refine jo ?_
   refine cG (fi:=[]) (ca:=[Pt x2 0]) (az:=[]) F F ?_
   repeat' (first | refine jR ?_ | (refine jo ?_;first | refine al F ?_ | refine aQ F ?_ | refine jC F F F ?_ | refine jV (ao F F) ?_ | refine ac F F F cx_sign F ?_ | (refine ai F F F cx_fl F ?_;rintro _ _ ⟨rfl,rfl⟩;dsimp only [zA,fA])) | refine ab F F ?_ | (refine ad F (by first | rfl | (refine decide_eq_false ?_;(omega))) ?_))
   all_goals
    refine dl (.inl F) F (cQ (x0:=x2) (r:=r) (sc:=sc) (s:=q) (b:=false) (a:=none) (n:=0) (c:=0) (d:=d + 1) oM) F ?_
    rintro v G' L' ⟨rfl,rfl⟩
    dsimp only [zA,fA]
    exact ⟨[_],[bQ r sc q false none 0 0 (d + 1 - 1)],⟨ay F F F F,trivial⟩,sB,Gh.le.refl _,cP (c:=⟨102,[121,101,115],0,none,0,0⟩) (bA dC dC) oM (fun _=>⟨F,F,F⟩) ⟨oM,fun _=>⟨F,hrd⟩,fun h=>(by cases h)⟩⟩
theorem ib {s : adE} : (bI s = none ∧ cx s = none) ∨ ∃ (m : Nat) (q : adE),bI s = some ((m : Int),q) ∧ m ≤ 999999 ∧ ((q.length < m ∧ cx s = none) ∨ (m ≤ q.length ∧ cx s = some (q.take m,q.drop m))):=by
 cases h : bI s with
 | none=>exact .inl ⟨F,by unfold cx;rw [h]⟩
 | some z =>
  obtain ⟨n,q⟩:=z
  obtain ⟨h0,h1,_⟩:=di h
  obtain ⟨m,rfl⟩ : ∃ m : Nat,n = (m : Int):=⟨n.toNat,oM⟩
  refine .inr ⟨m,q,F,oM,?_⟩
  by_cases hl : m ≤ q.length
  ·exact .inr ⟨hl,by unfold cx;rw [h];dsimp only;rw [Int.toNat_natCast,if_pos hl]⟩
  ·exact .inl ⟨oM,by unfold cx;rw [h];dsimp only;rw [Int.toNat_natCast,if_neg hl]⟩
theorem acA {n r sc : Nat} {qs : List cC} {s : adE} {d : Int} (hd : d = 12 - (n : Int)) (hn : n ≤ 12) (hr : aX (ah qs) [116] = none) (hs : s.length ≤ 1000) :
  dD adD 92 [Pt r 0,Ag (c7 [116])] G [bQ r sc s false none 0 0 d] (kP (rb (ah qs) (n + 1) [116]) r sc s false d):=by
 have cx_sign:=@dx G [116] []
 have hrd:=aaF (ts:=ah qs) (n:=n) (s:=s) hr
 show dD adD 92 [Pt r 0,Ag [S [],S [116],S []]] G [bQ r sc s false none 0 0 d] _
 rcases ib (s:=s) with ⟨hg,ht⟩ | ⟨m,q,hg,hm,⟨hl,ht⟩ | ⟨hl,ht⟩⟩
 ·rw [ht] at hrd
  dsimp only at hrd
  have cx_nb:=gr (G:=G) (r:=r) (sc:=sc) (m:=0) (c:=0) (b:=false) (a:=none) (d:=d + 1) hg hs
  have cx_tkb:=ge (G:=G) (r:=r) (sc:=sc) (m:=0) (n:=0) (c:=0) (s:=[]) (b:=true) (a:=none) (d:=d + 1) (.inl rfl) ⟨by simp,oM⟩
  have cx_tkb : cM adD 64 [Pt r 0,I 0] G [bQ r sc [] true none 0 0 (d + 1)] (fun v L'=>v = S [] ∧ L' = [bQ r sc [] true none 0 0 (d + 1)]):=cx_tkb
  refine cF [(0,_),(1,_)] Tryz.func92 kR Tryz.ntmps92 F F tU fun B hok hB hW=>?_
  repeat' (first | refine jM ?_ | (refine jo ?_;first | refine jO fun _=>?_ | refine jL fun _=>?_ | refine al F ?_ | refine jD F F F ?_ | refine jV (du F F) ?_))
  rename_i x2 x3 x4
  refine jo ?_
  refine cG (fi:=[]) (ca:=[Pt x2 0]) (az:=[]) F F ?_
  repeat' (first | refine jR ?_ | (refine jo ?_;first | refine al F ?_ | refine aQ F ?_ | refine ac F F F cx_sign F ?_) | refine ab F F ?_ | (refine ad F (by first | rfl | (refine decide_eq_false ?_;(omega))) ?_))
  (refine ak (ar (id:=26) [.blk x2 (.cells (List.toArray [Pt r 0]) fX (0,0))] (by intro y hy;simp only [List.mem_cons,List.not_mem_nil,or_false] at hy ⊢;simp [hy]) aj ?_);(refine jG (aa 5 1) 0 F (aC F F F) ?_);(refine jG (aa 5 3) 1 F (aC F F F) ?_);refine jA 2 F ?_;(refine ai F F F cx_nb F ?_;rintro _ _ ⟨rfl,rfl⟩;dsimp only [zA,fA]);refine jK (aa 5 7) ?_;refine jA 3 F ?_;(refine ai F F F cx_tkb F ?_;rintro _ _ ⟨rfl,rfl⟩;dsimp only [zA,fA]);refine jK (aa 5 15) ?_;refine jW 0 [4] (aa 5 31) ?_;refine jQ ?_)
  all_goals repeat' (first | refine jR ?_ | (refine jo ?_;first | refine jC F F F ?_ | refine jV (ao F F) ?_ | (refine ac F F F (kr ?_) F ?_;(focus ((simp;done);done)))) | refine ad F F ?_)
  all_goals
   refine dl (.inl F) F (cQ (x0:=x2) (r:=r) (sc:=sc) (s:=[]) (b:=true) (a:=none) (n:=0) (c:=0) (d:=d + 1) oM) F ?_
   rintro v G' L' ⟨rfl,rfl⟩
   dsimp only [zA,fA]
   exact ⟨[_],[bQ r sc [] true none 0 0 (d + 1 - 1)],⟨ay F F F F,trivial⟩,sB,Gh.le.refl _,cP (c:=⟨116,[],0,none,0,0⟩) (bA dC dC) oM (fun _=>⟨F,F,F⟩) ⟨by simp,fun h=>(by cases h),fun _=>.inr hrd⟩⟩
 ·rw [ht] at hrd
  dsimp only at hrd
  have hql:=ce hg
  have cx_nb:=eN (G:=G) (r:=r) (sc:=sc) (m:=0) (c:=0) (b:=false) (a:=none) (d:=d + 1) hg hs
  have cx_tkb:=ge (G:=G) (r:=r) (sc:=sc) (m:=m) (n:=0) (c:=0) (s:=q) (b:=false) (a:=none) (d:=d + 1) (.inr hl) ⟨oM,oM⟩
  refine cF [(0,_),(1,_)] Tryz.func92 kR Tryz.ntmps92 F F tU fun B hok hB hW=>?_
  repeat' (first | refine jM ?_ | (refine jo ?_;first | refine jO fun _=>?_ | refine jL fun _=>?_ | refine al F ?_ | refine jD F F F ?_ | refine jV (du F F) ?_))
  rename_i x2 x3 x4
  refine jo ?_
  refine cG (fi:=[]) (ca:=[Pt x2 0]) (az:=[]) F F ?_
  repeat' (first | refine jR ?_ | (refine jo ?_;first | refine al F ?_ | refine aQ F ?_ | refine ac F F F cx_sign F ?_) | refine ab F F ?_ | (refine ad F (by first | rfl | (refine decide_eq_false ?_;(omega))) ?_))
  (refine ak (ar (id:=26) [.blk x2 (.cells (List.toArray [Pt r 0]) fX (0,0))] (by intro y hy;simp only [List.mem_cons,List.not_mem_nil,or_false] at hy ⊢;simp [hy]) aj ?_);(refine jG (aa 5 1) 0 F (aC F F F) ?_);(refine jG (aa 5 3) 1 F (aC F F F) ?_);refine jA 2 F ?_;(refine ai F F F cx_nb F ?_;rintro _ _ ⟨rfl,rfl⟩;dsimp only [zA,fA]);refine jK (aa 5 7) ?_;refine jA 3 F ?_;(refine ai F F F cx_tkb F ?_;rintro _ _ ⟨rfl,rfl⟩;dsimp only [zA,fA]);refine jK (aa 5 15) ?_;refine jW 0 [4] (aa 5 31) ?_;refine jQ ?_)
  all_goals repeat' (first | refine jR ?_ | (refine jo ?_;first | refine jC F F F ?_ | refine jV (ao F F) ?_ | (refine ac F F F (kr ?_) F ?_;(focus ((simp;done);done)))) | refine ad F F ?_)
  all_goals
   refine dl (.inl F) F (cQ (x0:=x2) (r:=r) (sc:=sc) (s:=q) (b:=true) (a:=none) (n:=0) (c:=0) (d:=d + 1) oM) F ?_
   rintro v G' L' ⟨rfl,rfl⟩
   dsimp only [zA,fA]
   exact ⟨[_],[bQ r sc q true none 0 0 (d + 1 - 1)],⟨ay F F F F,trivial⟩,sB,Gh.le.refl _,cP (c:=⟨116,[],0,none,0,0⟩) (bA dC dC) oM (fun _=>⟨F,F,F⟩) ⟨oM,fun h=>(by cases h),fun _=>.inr hrd⟩⟩
 ·rw [ht] at hrd
  dsimp only at hrd
  rw [ab3] at hrd
  have hql:=ce hg
  have hdl : (q.drop m).length = q.length - m:=List.length_drop
  have htl : (q.take m).length ≤ 1000:=by rw [List.length_take];omega
  have cx_nb:=eN (G:=G) (r:=r) (sc:=sc) (m:=0) (c:=0) (b:=false) (a:=none) (d:=d + 1) hg hs
  have cx_tkb:=kp (G:=G) (r:=r) (sc:=sc) (m:=m) (n:=0) (c:=0) (s:=q) (a:=none) (d:=d + 1) ⟨hl,oM⟩
  cases hti : na (q.take m) with
  | true =>
   rw [hti] at hrd
   rw [if_pos rfl] at hrd
   refine cF [(0,_),(1,_)] Tryz.func92 kR Tryz.ntmps92 F F tU fun B hok hB hW=>?_
   repeat' (first | refine jM ?_ | (refine jo ?_;first | refine jO fun _=>?_ | refine jL fun _=>?_ | refine al F ?_ | refine jD F F F ?_ | refine jV (du F F) ?_))
   rename_i x2 x3 x4
   refine jo ?_
   refine cG (fi:=[]) (ca:=[Pt x2 0]) (az:=[]) F F ?_
   repeat' (first | refine jR ?_ | (refine jo ?_;first | refine al F ?_ | refine aQ F ?_ | refine ac F F F cx_sign F ?_) | refine ab F F ?_ | (refine ad F (by first | rfl | (refine decide_eq_false ?_;(omega))) ?_))
   (refine ak (ar (id:=26) [.blk x2 (.cells (List.toArray [Pt r 0]) fX (0,0))] (by intro y hy;simp only [List.mem_cons,List.not_mem_nil,or_false] at hy ⊢;simp [hy]) aj ?_);(refine jG (aa 5 1) 0 F (aC F F F) ?_);(refine jG (aa 5 3) 1 F (aC F F F) ?_);refine jA 2 F ?_;(refine ai F F F cx_nb F ?_;rintro _ _ ⟨rfl,rfl⟩;dsimp only [zA,fA]);refine jK (aa 5 7) ?_;refine jA 3 F ?_;(refine ai F F F cx_tkb F ?_;rintro _ _ ⟨rfl,rfl⟩;dsimp only [zA,fA]);refine jK (aa 5 15) ?_;refine jW 0 [4] (aa 5 31) ?_;refine jQ ?_)
   all_goals repeat' (first | refine jR ?_ | (refine jo ?_;first | refine jC F F F ?_ | refine jV (ao F F) ?_ | refine ac F F F (kr oM) F ?_) | (refine ad F ?_ ?_;(focus ((simp [*];done);done))))
   all_goals
    refine dl (.inl F) F (cQ (x0:=x2) (r:=r) (sc:=sc) (s:=(q.drop m)) (b:=false) (a:=none) (n:=0) (c:=0) (d:=d + 1) oM) F ?_
    rintro v G' L' ⟨rfl,rfl⟩
    dsimp only [zA,fA]
    exact ⟨[_],[bQ r sc (q.drop m) false none 0 0 (d + 1 - 1)],⟨ay F F F F,trivial⟩,sB,Gh.le.refl _,cP (c:=⟨116,q.take m,0,none,0,0⟩) (bA dC dC) oM (fun _=>⟨F,F,F⟩) ⟨oM,fun _=>⟨F,hrd⟩,fun h=>(by cases h)⟩⟩
  | false =>
   rw [hti] at hrd
   rw [if_neg (by simp)] at hrd
   refine cF [(0,_),(1,_)] Tryz.func92 kR Tryz.ntmps92 F F tU fun B hok hB hW=>?_
   repeat' (first | refine jM ?_ | (refine jo ?_;first | refine jO fun _=>?_ | refine jL fun _=>?_ | refine al F ?_ | refine jD F F F ?_ | refine jV (du F F) ?_))
   rename_i x2 x3 x4
   refine jo ?_
   refine cG (fi:=[]) (ca:=[Pt x2 0]) (az:=[]) F F ?_
   repeat' (first | refine jR ?_ | (refine jo ?_;first | refine al F ?_ | refine aQ F ?_ | refine ac F F F cx_sign F ?_) | refine ab F F ?_ | (refine ad F (by first | rfl | (refine decide_eq_false ?_;(omega))) ?_))
   (refine ak (ar (id:=26) [.blk x2 (.cells (List.toArray [Pt r 0]) fX (0,0))] (by intro y hy;simp only [List.mem_cons,List.not_mem_nil,or_false] at hy ⊢;simp [hy]) aj ?_);(refine jG (aa 5 1) 0 F (aC F F F) ?_);(refine jG (aa 5 3) 1 F (aC F F F) ?_);refine jA 2 F ?_;(refine ai F F F cx_nb F ?_;rintro _ _ ⟨rfl,rfl⟩;dsimp only [zA,fA]);refine jK (aa 5 7) ?_;refine jA 3 F ?_;(refine ai F F F cx_tkb F ?_;rintro _ _ ⟨rfl,rfl⟩;dsimp only [zA,fA]);refine jK (aa 5 15) ?_;refine jW 0 [4] (aa 5 31) ?_;refine jQ ?_)
   all_goals repeat' (first | refine jR ?_ | (refine jo ?_;first | refine al F ?_ | refine jD F F F ?_ | refine jC F F F ?_ | refine jV (ao F F) ?_ | refine ac F F F (kr oM) F ?_) | (refine ab F ?_ ?_;(focus ((simp [*];done);done))))
   all_goals
    refine dl (.inl F) F (cQ (x0:=x2) (r:=r) (sc:=sc) (s:=(q.drop m)) (b:=true) (a:=none) (n:=0) (c:=0) (d:=d + 1) oM) F ?_
    rintro v G' L' ⟨rfl,rfl⟩
    dsimp only [zA,fA]
    exact ⟨[_],[bQ r sc (q.drop m) true none 0 0 (d + 1 - 1)],⟨ay F F F F,trivial⟩,sB,Gh.le.refl _,cP (c:=⟨116,q.take m,0,none,0,0⟩) (bA dC dC) oM (fun _=>⟨F,F,F⟩) ⟨oM,fun h=>(by cases h),fun _=>.inr hrd⟩⟩
theorem mo {p : Nat} {t : Ty} {m : Int} (hT : i8 G p t) (hw : TyW t) (hm : 0 ≤ m ∧ m ≤ 999999) : aG adD 137 [Pt p 0,I m] G (fun v=>∃ q,v = .pointer q):=by
 have hfl:=hw.len
 cases hft : bB t.fields m with
 | none =>
  obtain ⟨fv,ln,h1,h2⟩:=hT
  exact (ee h1 h2 oM hft).mono fun v G' L' h=>⟨h.1,h.2.1,_,h.2.2⟩
 | some f =>
  obtain ⟨fv,ln,h1,h2⟩:=hT
  obtain ⟨j,hj,hjn,hjt,hjd⟩:=eE hft
  obtain ⟨bf,of,cf,rfl,hsf⟩:=h2.expl oM
  exact (eY h1 hsf oM hj hjn hjt).mono fun v G' L' h=>⟨h.1,h.2.1,_,h.2.2⟩
theorem acG {n r sc p : Nat} {qs : List cC} {t : Ty} {x s : adE} {d : Int} (hd : d = 12 - (n : Int)) (hn : n ≤ 12) (hS : ScI G sc qs) (hkv : mB (ig qs) x = some (Pt p 0)) (hT : i8 G p t) (hw : TyW t) (hso : t.sort = 69) (hs : s.length ≤ 1000) :
  dD adD 92 [Pt r 0,Ag [S [],S [64],S x]] G [bQ r sc s false none 0 0 d] (kP (b8 (ah qs) (rb (ah qs) n) t) r sc s false d):=by
 obtain ⟨u,m,g1,g2,g3⟩:=hS.at'
 obtain ⟨fv,ln,h1,h2⟩:=hT
 have hfl:=hw.len
 have hso' : (t.sort : Int) = 69:=oM
 have cx_sign:=@dx G [64] x
 have hrd : b8 (ah qs) (rb (ah qs) n) t s = match bI s with
   | none=>none
   | some (m,r)=>match bB t.fields m with
    | none=>none
    | some d=>some (.nd 69 [] d.tag [],r):=by
  unfold b8
  rw [if_neg oM]
  rcases bI s with _ | ⟨m,r⟩
  ·rfl
  ·dsimp only
   rcases bB t.fields m with _ | d
   ·rfl
   ·dsimp only;rw [if_pos hso]
 cases hg : bI s with
 | none =>
  rw [hg] at hrd
  have cx_nb:=gr (G:=G) (r:=r) (sc:=sc) (m:=0) (c:=0) (b:=false) (a:=none) (d:=d + 1) hg hs
  have cx_fld:=ee h1 h2 oM (kI hw)
  refine cF [(0,_),(1,_)] Tryz.func92 kR Tryz.ntmps92 F F tU fun B hok hB hW=>?_
  repeat' (first | refine jM ?_ | (refine jo ?_;first | refine jO fun _=>?_ | refine jL fun _=>?_ | refine al F ?_ | refine jD F F F ?_ | refine jV (du F F) ?_))
  rename_i x2 x3 x4
  refine jo ?_
  refine cG (fi:=[]) (ca:=[Pt x2 0]) (az:=[]) F F ?_
  repeat' (first | refine jR ?_ | (refine jo ?_;first | refine jL fun _=>?_ | refine al F ?_ | refine aQ F ?_ | refine jV (an F F aS F F) ?_ | refine jD F F F ?_ | refine jC F F F ?_ | refine jV (ao F F) ?_ | refine jV (cn F F) ?_ | refine ac F F F cx_sign F ?_ | (refine ai F F F cx_nb F ?_;rintro _ _ ⟨rfl,rfl⟩;dsimp only [zA,fA]) | refine ac F F F cx_fld F ?_) | (refine ab F (by first | rfl | (refine decide_eq_true ?_;(assumption))) ?_) | (refine ad F (by first | rfl | (refine decide_eq_false ?_;(omega))) ?_) | (refine ak (ar (id:=34) _ (fun _ h=>h) aj ?_);refine jT 10 [7] (aa 11 128) ?_;(refine jG (aa 11 129) 0 F (aC F F F) ?_);refine jT 7 [1,2] (aa 11 135) ?_;(refine jG (aa 11 143) 3 F (aC F F F) ?_);refine jT 4 [4,5] (aa 11 191) ?_;(refine jG (aa 11 255) 6 F (an F F aS F F) ?_);(refine jG (aa 11 511) 8 F (aC F F F) ?_);((refine jG (aa 11 1023) 9 F (cg F F (d5 aS) aS F) ?_));refine jT 0 [10] (aa 11 2047) ?_;refine jQ ?_))
  all_goals
   refine dl (.inl F) F (cQ (x0:=x2) (r:=r) (sc:=sc) (s:=[]) (b:=true) (a:=none) (n:=0) (c:=0) (d:=d + 1) oM) F ?_
   rintro v G' L' ⟨rfl,rfl⟩
   dsimp only [zA,fA]
   exact ⟨[_],[bQ r sc [] true none 0 0 (d + 1 - 1)],⟨ay F F F F,trivial⟩,sB,Gh.le.refl _,cP (c:=⟨69,[],0,none,0,0⟩) (bA dC dC) oM (fun _=>⟨F,F,F⟩) ⟨by simp,fun h=>(by cases h),fun _=>.inr hrd⟩⟩
 | some z =>
  obtain ⟨m,q⟩:=z
  obtain ⟨hm0,hm1,_⟩:=di hg
  have hl:=ce hg
  rw [hg] at hrd
  dsimp only at hrd
  have cx_nb:=eN (G:=G) (r:=r) (sc:=sc) (m:=0) (c:=0) (b:=false) (a:=none) (d:=d + 1) hg hs
  cases hft : bB t.fields m with
  | none =>
   rw [hft] at hrd
   have cx_fld:=ee h1 h2 oM hft
   refine cF [(0,_),(1,_)] Tryz.func92 kR Tryz.ntmps92 F F tU fun B hok hB hW=>?_
   repeat' (first | refine jM ?_ | (refine jo ?_;first | refine jO fun _=>?_ | refine jL fun _=>?_ | refine al F ?_ | refine jD F F F ?_ | refine jV (du F F) ?_))
   rename_i x2 x3 x4
   refine jo ?_
   refine cG (fi:=[]) (ca:=[Pt x2 0]) (az:=[]) F F ?_
   repeat' (first | refine jR ?_ | (refine jo ?_;first | refine jL fun _=>?_ | refine al F ?_ | refine aQ F ?_ | refine jV (an F F aS F F) ?_ | refine jD F F F ?_ | refine jC F F F ?_ | refine jV (ao F F) ?_ | refine jV (cn F F) ?_ | refine ac F F F cx_sign F ?_ | (refine ai F F F cx_nb F ?_;rintro _ _ ⟨rfl,rfl⟩;dsimp only [zA,fA]) | refine ac F F F cx_fld F ?_) | (refine ab F (by first | rfl | (refine decide_eq_true ?_;(assumption))) ?_) | (refine ad F (by first | rfl | (refine decide_eq_false ?_;(omega))) ?_) | (refine ak (ar (id:=34) _ (fun _ h=>h) aj ?_);refine jT 10 [7] (aa 11 128) ?_;(refine jG (aa 11 129) 0 F (aC F F F) ?_);refine jT 7 [1,2] (aa 11 135) ?_;(refine jG (aa 11 143) 3 F (aC F F F) ?_);refine jT 4 [4,5] (aa 11 191) ?_;(refine jG (aa 11 255) 6 F (an F F aS F F) ?_);(refine jG (aa 11 511) 8 F (aC F F F) ?_);((refine jG (aa 11 1023) 9 F (cg F F (d5 aS) aS F) ?_));refine jT 0 [10] (aa 11 2047) ?_;refine jQ ?_))
   all_goals
    refine dl (.inl F) F (cQ (x0:=x2) (r:=r) (sc:=sc) (s:=q) (b:=true) (a:=none) (n:=0) (c:=0) (d:=d + 1) oM) F ?_
    rintro v G' L' ⟨rfl,rfl⟩
    dsimp only [zA,fA]
    exact ⟨[_],[bQ r sc q true none 0 0 (d + 1 - 1)],⟨ay F F F F,trivial⟩,sB,Gh.le.refl _,cP (c:=⟨69,[],m,none,0,0⟩) (bA dC oM) oM (fun _=>⟨F,F,F⟩) ⟨oM,fun h=>(by cases h),fun _=>.inr hrd⟩⟩
  | some f =>
   rw [hft] at hrd
   obtain ⟨j,hj,hjn,hjt,hjd⟩:=eE hft
   obtain ⟨bf,of,cf,rfl,hsf⟩:=h2.expl oM
   have cx_fld:=eY h1 hsf oM hj hjn hjt
   have hft2 : f.tag = m:=by rw [← hjd];exact hjt
   dsimp only at hrd
   rw [hft2] at hrd
   refine cF [(0,_),(1,_)] Tryz.func92 kR Tryz.ntmps92 F F tU fun B hok hB hW=>?_
   repeat' (first | refine jM ?_ | (refine jo ?_;first | refine jO fun _=>?_ | refine jL fun _=>?_ | refine al F ?_ | refine jD F F F ?_ | refine jV (du F F) ?_))
   rename_i x2 x3 x4
   refine jo ?_
   refine cG (fi:=[]) (ca:=[Pt x2 0]) (az:=[]) F F ?_
   repeat' (first | refine jR ?_ | (refine jo ?_;first | refine jL fun _=>?_ | refine al F ?_ | refine aQ F ?_ | refine jV (an F F aS F F) ?_ | refine jC F F F ?_ | refine jV (ao F F) ?_ | refine jV (cn F F) ?_ | refine ac F F F cx_sign F ?_ | (refine ai F F F cx_nb F ?_;rintro _ _ ⟨rfl,rfl⟩;dsimp only [zA,fA]) | refine ac F F F cx_fld F ?_) | refine ab F (aD ‹_›) ?_ | (refine ad F (by first | rfl | (refine decide_eq_false ?_;(omega))) ?_) | (refine ak (ar (id:=34) _ (fun _ h=>h) aj ?_);refine jT 10 [7] (aa 11 128) ?_;(refine jG (aa 11 129) 0 F (aC F F F) ?_);refine jT 7 [1,2] (aa 11 135) ?_;(refine jG (aa 11 143) 3 F (aC F F F) ?_);refine jT 4 [4,5] (aa 11 191) ?_;(refine jG (aa 11 255) 6 F (an F F aS F F) ?_);(refine jG (aa 11 511) 8 F (aC F F F) ?_);((refine jG (aa 11 1023) 9 F (cg F F (d5 aS) aS F) ?_));refine jT 0 [10] (aa 11 2047) ?_;refine jQ ?_))
   all_goals
    refine dl (.inl F) F (cQ (x0:=x2) (r:=r) (sc:=sc) (s:=q) (b:=false) (a:=none) (n:=0) (c:=0) (d:=d + 1) oM) F ?_
    rintro v G' L' ⟨rfl,rfl⟩
    dsimp only [zA,fA]
    exact ⟨[_],[bQ r sc q false none 0 0 (d + 1 - 1)],⟨ay F F F F,trivial⟩,sB,Gh.le.refl _,cP (c:=⟨69,[],m,none,0,0⟩) (bA dC oM) oM (fun _=>⟨F,F,F⟩) ⟨oM,fun _=>⟨F,hrd⟩,fun h=>(by cases h)⟩⟩
theorem wC {n r sc p : Nat} {qs : List cC} {t : Ty} {x s q : adE} {m : Int} {d : Int} (hd : d = 12 - (n : Int)) (hn : n ≤ 12) (hS : ScI G sc qs) (hkv : mB (ig qs) x = some (Pt p 0)) (hT : i8 G p t) (hw : TyW t) (hso : t.sort = 85) (hs : s.length ≤ 1000) (hg : bI s = some (m,q)) (ht : cx q = none) (hrd : b8 (ah qs) (rb (ah qs) n) t s = none) :
  dD adD 92 [Pt r 0,Ag [S [],S [64],S x]] G [bQ r sc s false none 0 0 d] (kP (b8 (ah qs) (rb (ah qs) n) t) r sc s false d):=by
 obtain ⟨u,m2,g1,g2,g3⟩:=hS.at'
 have hso' : (t.sort : Int) = 85:=oM
 have cx_sign:=@dx G [64] x
 obtain ⟨hm0,hm1,_⟩:=di hg
 have hl:=ce hg
 have cx_nb:=eN (G:=G) (r:=r) (sc:=sc) (m:=0) (c:=0) (b:=false) (a:=none) (d:=d + 1) hg hs
 have cx_fldg:=mo hT hw ⟨hm0,hm1⟩
 obtain ⟨fv,ln,h1,h2⟩:=hT
 rcases ib (s:=q) with ⟨hg2,ht2⟩ | ⟨m3,q2,hg2,hm,⟨hl3,ht2⟩ | ⟨hl3,ht2⟩⟩
 ·have cx_nb2:=gr (G:=G) (r:=r) (sc:=sc) (m:=0) (c:=0) (b:=false) (a:=none) (d:=d + 1) hg2 oM
  have cx_tkb:=ge (G:=G) (r:=r) (sc:=sc) (m:=0) (n:=0) (c:=0) (s:=[]) (b:=true) (a:=none) (d:=d + 1) (.inl rfl) ⟨by simp,oM⟩
  have cx_tkb : cM adD 64 [Pt r 0,I 0] G [bQ r sc [] true none 0 0 (d + 1)] (fun v L'=>v = S [] ∧ L' = [bQ r sc [] true none 0 0 (d + 1)]):=cx_tkb
  refine cF [(0,_),(1,_)] Tryz.func92 kR Tryz.ntmps92 F F tU fun B hok hB hW=>?_
  repeat' (first | refine jM ?_ | (refine jo ?_;first | refine jO fun _=>?_ | refine jL fun _=>?_ | refine al F ?_ | refine jD F F F ?_ | refine jV (du F F) ?_))
  rename_i x2 x3 x4
  refine jo ?_
  refine cG (fi:=[]) (ca:=[Pt x2 0]) (az:=[]) F F ?_
  repeat' (first | refine jR ?_ | (refine jo ?_;first | refine al F ?_ | refine aQ F ?_ | refine ac F F F cx_sign F ?_) | (refine ad F (by first | rfl | (refine decide_eq_false ?_;(omega))) ?_))
  (refine ak (ar (id:=34) _ (fun _ h=>h) aj ?_);refine jT 10 [7] (aa 11 128) ?_;(refine jG (aa 11 129) 0 F (aC F F F) ?_);refine jT 7 [1,2] (aa 11 135) ?_;(refine jG (aa 11 143) 3 F (aC F F F) ?_);refine jT 4 [4,5] (aa 11 191) ?_;(refine jG (aa 11 255) 6 F (an F F aS F F) ?_);(refine jG (aa 11 511) 8 F (aC F F F) ?_);((refine jG (aa 11 1023) 9 F (cg F F (d5 aS) aS F) ?_));refine jT 0 [10] (aa 11 2047) ?_;refine jQ ?_)
  all_goals repeat' (first | refine jR ?_ | (refine jo ?_;first | refine al F ?_ | refine jV (an F F aS F F) ?_ | (refine ai F F F cx_nb F ?_;rintro _ _ ⟨rfl,rfl⟩;dsimp only [zA,fA])) | refine ab F (aD ‹_›) ?_ | refine ad F (aE oM) ?_)
  (refine ak (ar (id:=43) [.blk x2 (.cells (List.toArray [Pt r 0]) fX (0,0))] (by intro y hy;simp only [List.mem_cons,List.not_mem_nil,or_false] at hy ⊢;simp [hy]) aj ?_);(refine jG (aa 5 1) 0 F (aC F F F) ?_);(refine jG (aa 5 3) 1 F (aC F F F) ?_);refine jA 2 F ?_;(refine ai F F F cx_nb2 F ?_;rintro _ _ ⟨rfl,rfl⟩;dsimp only [zA,fA]);refine jK (aa 5 7) ?_;refine jA 3 F ?_;(refine ai F F F cx_tkb F ?_;rintro _ _ ⟨rfl,rfl⟩;dsimp only [zA,fA]);refine jK (aa 5 15) ?_;refine jW 0 [4] (aa 5 31) ?_;refine jQ ?_)
  repeat' (refine jR ?_)
  refine jo ?_
  refine dn F F F cx_fldg F ?_
  rintro _ ⟨q9,rfl⟩
  cases q9
  all_goals repeat' (first | refine jR ?_ | (refine jo ?_;first | refine al F ?_ | refine jD F F F ?_ | refine jC F F F ?_ | refine jV (ao F F) ?_ | refine aK F ?_ | refine aw F ?_ | refine jV (cn F F) ?_) | refine aA F F F ?_ | refine am F F F ?_ | refine ab F F ?_)
  all_goals
   refine dl (.inl F) F (cQ (x0:=x2) (r:=r) (sc:=sc) (s:=[]) (b:=true) (a:=none) (n:=0) (c:=0) (d:=d + 1) oM) F ?_
   rintro v G' L' ⟨rfl,rfl⟩
   dsimp only [zA,fA]
   exact ⟨[_],[bQ r sc [] true none 0 0 (d + 1 - 1)],⟨ay F F F F,trivial⟩,sB,Gh.le.refl _,cP (c:=⟨0,[],0,none,0,0⟩) fZ oM (fun _=>⟨F,F,F⟩) ⟨by simp,fun h=>(by cases h),fun _=>.inr hrd⟩⟩
 ·have hl4:=ce hg2
  have cx_nb2:=eN (G:=G) (r:=r) (sc:=sc) (m:=0) (c:=0) (b:=false) (a:=none) (d:=d + 1) hg2 oM
  have cx_tkb:=ge (G:=G) (r:=r) (sc:=sc) (m:=m3) (n:=0) (c:=0) (s:=q2) (b:=false) (a:=none) (d:=d + 1) (.inr hl3) ⟨oM,oM⟩
  refine cF [(0,_),(1,_)] Tryz.func92 kR Tryz.ntmps92 F F tU fun B hok hB hW=>?_
  repeat' (first | refine jM ?_ | (refine jo ?_;first | refine jO fun _=>?_ | refine jL fun _=>?_ | refine al F ?_ | refine jD F F F ?_ | refine jV (du F F) ?_))
  rename_i x2 x3 x4
  refine jo ?_
  refine cG (fi:=[]) (ca:=[Pt x2 0]) (az:=[]) F F ?_
  repeat' (first | refine jR ?_ | (refine jo ?_;first | refine al F ?_ | refine aQ F ?_ | refine ac F F F cx_sign F ?_) | (refine ad F (by first | rfl | (refine decide_eq_false ?_;(omega))) ?_))
  (refine ak (ar (id:=34) _ (fun _ h=>h) aj ?_);refine jT 10 [7] (aa 11 128) ?_;(refine jG (aa 11 129) 0 F (aC F F F) ?_);refine jT 7 [1,2] (aa 11 135) ?_;(refine jG (aa 11 143) 3 F (aC F F F) ?_);refine jT 4 [4,5] (aa 11 191) ?_;(refine jG (aa 11 255) 6 F (an F F aS F F) ?_);(refine jG (aa 11 511) 8 F (aC F F F) ?_);((refine jG (aa 11 1023) 9 F (cg F F (d5 aS) aS F) ?_));refine jT 0 [10] (aa 11 2047) ?_;refine jQ ?_)
  all_goals repeat' (first | refine jR ?_ | (refine jo ?_;first | refine al F ?_ | refine jV (an F F aS F F) ?_ | (refine ai F F F cx_nb F ?_;rintro _ _ ⟨rfl,rfl⟩;dsimp only [zA,fA])) | refine ab F (aD ‹_›) ?_ | refine ad F (aE oM) ?_)
  (refine ak (ar (id:=43) [.blk x2 (.cells (List.toArray [Pt r 0]) fX (0,0))] (by intro y hy;simp only [List.mem_cons,List.not_mem_nil,or_false] at hy ⊢;simp [hy]) aj ?_);(refine jG (aa 5 1) 0 F (aC F F F) ?_);(refine jG (aa 5 3) 1 F (aC F F F) ?_);refine jA 2 F ?_;(refine ai F F F cx_nb2 F ?_;rintro _ _ ⟨rfl,rfl⟩;dsimp only [zA,fA]);refine jK (aa 5 7) ?_;refine jA 3 F ?_;(refine ai F F F cx_tkb F ?_;rintro _ _ ⟨rfl,rfl⟩;dsimp only [zA,fA]);refine jK (aa 5 15) ?_;refine jW 0 [4] (aa 5 31) ?_;refine jQ ?_)
  repeat' (refine jR ?_)
  refine jo ?_
  refine dn F F F cx_fldg F ?_
  rintro _ ⟨q9,rfl⟩
  cases q9
  all_goals repeat' (first | refine jR ?_ | (refine jo ?_;first | refine al F ?_ | refine jD F F F ?_ | refine jC F F F ?_ | refine jV (ao F F) ?_ | refine aK F ?_ | refine aw F ?_ | refine jV (cn F F) ?_) | refine aA F F F ?_ | refine am F F F ?_ | refine ab F F ?_)
  all_goals
   refine dl (.inl F) F (cQ (x0:=x2) (r:=r) (sc:=sc) (s:=q2) (b:=true) (a:=none) (n:=0) (c:=0) (d:=d + 1) oM) F ?_
   rintro v G' L' ⟨rfl,rfl⟩
   dsimp only [zA,fA]
   exact ⟨[_],[bQ r sc q2 true none 0 0 (d + 1 - 1)],⟨ay F F F F,trivial⟩,sB,Gh.le.refl _,cP (c:=⟨0,[],0,none,0,0⟩) fZ oM (fun _=>⟨F,F,F⟩) ⟨oM,fun h=>(by cases h),fun _=>.inr hrd⟩⟩
 ·rw [ht] at ht2;cases ht2
theorem acz {n r sc p : Nat} {qs : List cC} {t : Ty} {x s : adE} {d : Int} (hd : d = 12 - (n : Int)) (hn : n ≤ 12) (hU : rI n sc qs) (hS : ScI G sc qs) (hkv : mB (ig qs) x = some (Pt p 0)) (hT : i8 G p t) (hw : TyW t) (hkf : ∀ d ∈ t.fields,aB (ah qs) d.kind = true) (hso : t.sort = 85) (hs : s.length ≤ 1000) :
  dD adD 92 [Pt r 0,Ag [S [],S [64],S x]] G [bQ r sc s false none 0 0 d] (kP (b8 (ah qs) (rb (ah qs) n) t) r sc s false d):=by
 obtain ⟨u,m2,g1,g2,g3⟩:=hS.at'
 have hT2:=hT
 obtain ⟨fv,ln,h1,h2⟩:=hT
 have hfl:=hw.len
 have hso' : (t.sort : Int) = 85:=oM
 have cx_sign:=@dx G [64] x
 have hrd : b8 (ah qs) (rb (ah qs) n) t s = match bI s with
   | none=>none
   | some (m,r)=>match bB t.fields m with
    | none=>none
    | some d=>match cx r with
     | none=>none
     | some (p,r')=>(cU (rb (ah qs) n) d.kind p).map fun v=>(.nd 85 [] d.tag [v],r'):=by
  unfold b8
  rw [if_neg oM]
  rcases bI s with _ | ⟨m,r⟩
  ·rfl
  ·dsimp only
   rcases bB t.fields m with _ | d
   ·rfl
   ·dsimp only;rw [if_neg oM]
    all_goals (rcases cx r with _ | ⟨p,r'⟩ <;> rfl)
 cases hg : bI s with
 | none =>
  rw [hg] at hrd
  have cx_nb:=gr (G:=G) (r:=r) (sc:=sc) (m:=0) (c:=0) (b:=false) (a:=none) (d:=d + 1) hg hs
  have cx_nb2:=gr (G:=G) (r:=r) (sc:=sc) (m:=0) (c:=0) (s:=[]) (b:=true) (a:=none) (d:=d + 1) rfl (by simp)
  have cx_tkb:=ge (G:=G) (r:=r) (sc:=sc) (m:=0) (n:=0) (c:=0) (s:=[]) (b:=true) (a:=none) (d:=d + 1) (.inl rfl) ⟨by simp,oM⟩
  have cx_tkb : cM adD 64 [Pt r 0,I 0] G [bQ r sc [] true none 0 0 (d + 1)] (fun v L'=>v = S [] ∧ L' = [bQ r sc [] true none 0 0 (d + 1)]):=cx_tkb
  have cx_fld:=ee h1 h2 oM (kI hw)
  refine cF [(0,_),(1,_)] Tryz.func92 kR Tryz.ntmps92 F F tU fun B hok hB hW=>?_
  repeat' (first | refine jM ?_ | (refine jo ?_;first | refine jO fun _=>?_ | refine jL fun _=>?_ | refine al F ?_ | refine jD F F F ?_ | refine jV (du F F) ?_))
  rename_i x2 x3 x4
  refine jo ?_
  refine cG (fi:=[]) (ca:=[Pt x2 0]) (az:=[]) F F ?_
  repeat' (first | refine jR ?_ | (refine jo ?_;first | refine al F ?_ | refine aQ F ?_ | refine ac F F F cx_sign F ?_) | (refine ad F (by first | rfl | (refine decide_eq_false ?_;(omega))) ?_))
  (refine ak (ar (id:=34) _ (fun _ h=>h) aj ?_);refine jT 10 [7] (aa 11 128) ?_;(refine jG (aa 11 129) 0 F (aC F F F) ?_);refine jT 7 [1,2] (aa 11 135) ?_;(refine jG (aa 11 143) 3 F (aC F F F) ?_);refine jT 4 [4,5] (aa 11 191) ?_;(refine jG (aa 11 255) 6 F (an F F aS F F) ?_);(refine jG (aa 11 511) 8 F (aC F F F) ?_);((refine jG (aa 11 1023) 9 F (cg F F (d5 aS) aS F) ?_));refine jT 0 [10] (aa 11 2047) ?_;refine jQ ?_)
  all_goals repeat' (first | refine jR ?_ | (refine jo ?_;first | refine al F ?_ | refine jV (an F F aS F F) ?_ | (refine ai F F F cx_nb F ?_;rintro _ _ ⟨rfl,rfl⟩;dsimp only [zA,fA])) | refine ab F (aD ‹_›) ?_ | refine ad F (aE oM) ?_)
  (refine ak (ar (id:=43) [.blk x2 (.cells (List.toArray [Pt r 0]) fX (0,0))] (by intro y hy;simp only [List.mem_cons,List.not_mem_nil,or_false] at hy ⊢;simp [hy]) aj ?_);(refine jG (aa 5 1) 0 F (aC F F F) ?_);(refine jG (aa 5 3) 1 F (aC F F F) ?_);refine jA 2 F ?_;(refine ai F F F cx_nb2 F ?_;rintro _ _ ⟨rfl,rfl⟩;dsimp only [zA,fA]);refine jK (aa 5 7) ?_;refine jA 3 F ?_;(refine ai F F F cx_tkb F ?_;rintro _ _ ⟨rfl,rfl⟩;dsimp only [zA,fA]);refine jK (aa 5 15) ?_;refine jW 0 [4] (aa 5 31) ?_;refine jQ ?_)
  all_goals repeat' (first | refine jR ?_ | (refine jo ?_;first | refine al F ?_ | refine jD F F F ?_ | refine jC F F F ?_ | refine jV (ao F F) ?_ | refine aK F ?_ | refine jV (cn F F) ?_ | refine ac F F F cx_fld F ?_) | refine aA F F F ?_ | refine ab F F ?_)
  all_goals
   refine dl (.inl F) F (cQ (x0:=x2) (r:=r) (sc:=sc) (s:=[]) (b:=true) (a:=none) (n:=0) (c:=0) (d:=d + 1) oM) F ?_
   rintro v G' L' ⟨rfl,rfl⟩
   dsimp only [zA,fA]
   exact ⟨[_],[bQ r sc [] true none 0 0 (d + 1 - 1)],⟨ay F F F F,trivial⟩,sB,Gh.le.refl _,cP (c:=⟨0,[],0,none,0,0⟩) fZ oM (fun _=>⟨F,F,F⟩) ⟨by simp,fun h=>(by cases h),fun _=>.inr hrd⟩⟩
 | some z =>
  obtain ⟨m,q⟩:=z
  obtain ⟨hm0,hm1,_⟩:=di hg
  have hl:=ce hg
  rw [hg] at hrd
  dsimp only at hrd
  rcases ib (s:=q) with ⟨hg2,ht⟩ | ⟨m3,q2,hg2,hm,⟨hl3,ht⟩ | ⟨hl3,ht⟩⟩
  ·refine wC hd hn hS hkv hT2 hw hso hs hg ht ?_
   rw [hrd,ht]
   cases bB t.fields m <;> rfl
  ·refine wC hd hn hS hkv hT2 hw hso hs hg ht ?_
   rw [hrd,ht]
   cases bB t.fields m <;> rfl
  have hl4:=ce hg2
  have hdl : (q2.drop m3).length = q2.length - m3:=List.length_drop
  have htl : (q2.take m3).length ≤ 1000:=by rw [List.length_take];omega
  have cx_nb:=eN (G:=G) (r:=r) (sc:=sc) (m:=0) (c:=0) (b:=false) (a:=none) (d:=d + 1) hg hs
  have cx_nb2:=eN (G:=G) (r:=r) (sc:=sc) (m:=0) (c:=0) (b:=false) (a:=none) (d:=d + 1) hg2 oM
  have cx_tkb:=kp (G:=G) (r:=r) (sc:=sc) (m:=m3) (n:=0) (c:=0) (s:=q2) (a:=none) (d:=d + 1) ⟨hl3,oM⟩
  cases hft : bB t.fields m with
  | none =>
   rw [hft] at hrd
   have cx_fld:=ee h1 h2 oM hft
   refine cF [(0,_),(1,_)] Tryz.func92 kR Tryz.ntmps92 F F tU fun B hok hB hW=>?_
   repeat' (first | refine jM ?_ | (refine jo ?_;first | refine jO fun _=>?_ | refine jL fun _=>?_ | refine al F ?_ | refine jD F F F ?_ | refine jV (du F F) ?_))
   rename_i x2 x3 x4
   refine jo ?_
   refine cG (fi:=[]) (ca:=[Pt x2 0]) (az:=[]) F F ?_
   repeat' (first | refine jR ?_ | (refine jo ?_;first | refine al F ?_ | refine aQ F ?_ | refine ac F F F cx_sign F ?_) | (refine ad F (by first | rfl | (refine decide_eq_false ?_;(omega))) ?_))
   (refine ak (ar (id:=34) _ (fun _ h=>h) aj ?_);refine jT 10 [7] (aa 11 128) ?_;(refine jG (aa 11 129) 0 F (aC F F F) ?_);refine jT 7 [1,2] (aa 11 135) ?_;(refine jG (aa 11 143) 3 F (aC F F F) ?_);refine jT 4 [4,5] (aa 11 191) ?_;(refine jG (aa 11 255) 6 F (an F F aS F F) ?_);(refine jG (aa 11 511) 8 F (aC F F F) ?_);((refine jG (aa 11 1023) 9 F (cg F F (d5 aS) aS F) ?_));refine jT 0 [10] (aa 11 2047) ?_;refine jQ ?_)
   all_goals repeat' (first | refine jR ?_ | (refine jo ?_;first | refine al F ?_ | refine jV (an F F aS F F) ?_ | (refine ai F F F cx_nb F ?_;rintro _ _ ⟨rfl,rfl⟩;dsimp only [zA,fA])) | refine ab F (aD ‹_›) ?_ | refine ad F (aE oM) ?_)
   (refine ak (ar (id:=43) [.blk x2 (.cells (List.toArray [Pt r 0]) fX (0,0))] (by intro y hy;simp only [List.mem_cons,List.not_mem_nil,or_false] at hy ⊢;simp [hy]) aj ?_);(refine jG (aa 5 1) 0 F (aC F F F) ?_);(refine jG (aa 5 3) 1 F (aC F F F) ?_);refine jA 2 F ?_;(refine ai F F F cx_nb2 F ?_;rintro _ _ ⟨rfl,rfl⟩;dsimp only [zA,fA]);refine jK (aa 5 7) ?_;refine jA 3 F ?_;(refine ai F F F cx_tkb F ?_;rintro _ _ ⟨rfl,rfl⟩;dsimp only [zA,fA]);refine jK (aa 5 15) ?_;refine jW 0 [4] (aa 5 31) ?_;refine jQ ?_)
   all_goals repeat' (first | refine jR ?_ | (refine jo ?_;first | refine al F ?_ | refine jD F F F ?_ | refine jC F F F ?_ | refine jV (ao F F) ?_ | refine aK F ?_ | refine jV (cn F F) ?_ | refine ac F F F cx_fld F ?_) | refine aA F F F ?_ | refine ab F F ?_)
   all_goals
    refine dl (.inl F) F (cQ (x0:=x2) (r:=r) (sc:=sc) (s:=(q2.drop m3)) (b:=true) (a:=none) (n:=0) (c:=0) (d:=d + 1) oM) F ?_
    rintro v G' L' ⟨rfl,rfl⟩
    dsimp only [zA,fA]
    exact ⟨[_],[bQ r sc (q2.drop m3) true none 0 0 (d + 1 - 1)],⟨ay F F F F,trivial⟩,sB,Gh.le.refl _,cP (c:=⟨0,[],0,none,0,0⟩) fZ oM (fun _=>⟨F,F,F⟩) ⟨oM,fun h=>(by cases h),fun _=>.inr hrd⟩⟩
  | some f =>
   rw [hft] at hrd
   obtain ⟨j,hj,hjn,hjt,hjd⟩:=eE hft
   obtain ⟨bf,of,cf,rfl,hsf⟩:=h2.expl oM
   have cx_fld:=eY h1 hsf oM hj hjn hjt
   have hft2 : f.tag = m:=by rw [← hjd];exact hjt
   dsimp only at hrd
   rw [ht,hft2] at hrd
   dsimp only at hrd
   subst hjd
   have cx_prt:=uB (G:=G) (r:=r) (sc:=sc) (m:=0) (c:=0) (a:=none) (s:=q2.drop m3) (k:=(ae t.fields j).kind) (p:=q2.take m3) (d:=d + 1) oM oM hU hS (hkf _ (bh hj)) htl
   refine cF [(0,_),(1,_)] Tryz.func92 kR Tryz.ntmps92 F F tU fun B hok hB hW=>?_
   repeat' (first | refine jM ?_ | (refine jo ?_;first | refine jO fun _=>?_ | refine jL fun _=>?_ | refine al F ?_ | refine jD F F F ?_ | refine jV (du F F) ?_))
   rename_i x2 x3 x4
   refine jo ?_
   refine cG (fi:=[]) (ca:=[Pt x2 0]) (az:=[]) F F ?_
   repeat' (first | refine jR ?_ | (refine jo ?_;first | refine al F ?_ | refine aQ F ?_ | refine ac F F F cx_sign F ?_) | (refine ad F (by first | rfl | (refine decide_eq_false ?_;(omega))) ?_))
   (refine ak (ar (id:=34) _ (fun _ h=>h) aj ?_);refine jT 10 [7] (aa 11 128) ?_;(refine jG (aa 11 129) 0 F (aC F F F) ?_);refine jT 7 [1,2] (aa 11 135) ?_;(refine jG (aa 11 143) 3 F (aC F F F) ?_);refine jT 4 [4,5] (aa 11 191) ?_;(refine jG (aa 11 255) 6 F (an F F aS F F) ?_);(refine jG (aa 11 511) 8 F (aC F F F) ?_);((refine jG (aa 11 1023) 9 F (cg F F (d5 aS) aS F) ?_));refine jT 0 [10] (aa 11 2047) ?_;refine jQ ?_)
   all_goals repeat' (first | refine jR ?_ | (refine jo ?_;first | refine al F ?_ | refine jV (an F F aS F F) ?_ | (refine ai F F F cx_nb F ?_;rintro _ _ ⟨rfl,rfl⟩;dsimp only [zA,fA])) | refine ab F (aD ‹_›) ?_ | refine ad F (aE oM) ?_)
   (refine ak (ar (id:=43) [.blk x2 (.cells (List.toArray [Pt r 0]) fX (0,0))] (by intro y hy;simp only [List.mem_cons,List.not_mem_nil,or_false] at hy ⊢;simp [hy]) aj ?_);(refine jG (aa 5 1) 0 F (aC F F F) ?_);(refine jG (aa 5 3) 1 F (aC F F F) ?_);refine jA 2 F ?_;(refine ai F F F cx_nb2 F ?_;rintro _ _ ⟨rfl,rfl⟩;dsimp only [zA,fA]);refine jK (aa 5 7) ?_;refine jA 3 F ?_;(refine ai F F F cx_tkb F ?_;rintro _ _ ⟨rfl,rfl⟩;dsimp only [zA,fA]);refine jK (aa 5 15) ?_;refine jW 0 [4] (aa 5 31) ?_;refine jQ ?_)
   all_goals repeat' (first | refine jR ?_ | (refine jo ?_;first | refine al F ?_ | refine aw F ?_ | refine jV (cn F F) ?_ | refine ac F F F cx_fld F ?_) | refine am F F F ?_ | refine ad F F ?_)
   (refine ak (ar (id:=48) [.blk x2 (.cells (List.toArray [Pt r 0]) fX (0,0))] (by intro y hy;simp only [List.mem_cons,List.not_mem_nil,or_false] at hy ⊢;simp [hy]) aj ?_);refine jW 11 [0,2,3,4,6] (aa 16 93) ?_;(refine jG (aa 16 95) 1 F (aC F F F) ?_);((refine jG (aa 16 127) 5 F (f8 F F aS ?_ F F) ?_;focus omega));refine jA 7 F ?_;(refine cY F F F cx_prt F ?_;rintro _ G1 _ hle ⟨u1,c1,b1,rfl,hrep,rfl,hQ2,hQ3⟩;dsimp only [zA,fA];skip);refine jK (aa 16 255) ?_;refine cX [8,9] kR dC ⟨?_,?_,trivial⟩;(focus (refine bE F F ?_;(refine jF fun _=>?_);refine jK (aa 16 511) ?_;refine jA 9 F ?_;(refine jC F F F ?_);refine jK (aa 16 1023) ?_;refine jW 5 [10] (aa 16 2047) ?_;refine jA 11 F ?_;(refine jD F F F ?_);refine jK (aa 16 4095) ?_;refine jW 3 [12] (aa 16 8191) ?_;refine jA 13 F ?_;(refine jD F F F ?_);refine jK (aa 16 16383) ?_;refine jW 1 [14] (aa 16 32767) ?_;refine jA 15 F ?_;(refine jD F F F ?_);refine jK (aa 16 65535) ?_;refine jQ ?_));rotate_left 1;(focus (refine bE F F ?_;(refine jC F F F ?_);refine jK (aa 16 767) ?_;refine jW 6 [10] (aa 16 1791) ?_;refine cX [8,11] kR dC ⟨?_,?_,trivial⟩;(focus (refine bE F F ?_;(refine jF fun _=>?_);refine jK (aa 16 2047) ?_;refine jA 11 F ?_;(refine jD F F F ?_);refine jK (aa 16 4095) ?_;refine jW 3 [12] (aa 16 8191) ?_;refine jA 13 F ?_;(refine jD F F F ?_);refine jK (aa 16 16383) ?_;refine jW 1 [14] (aa 16 32767) ?_;refine jA 15 F ?_;(refine jD F F F ?_);refine jK (aa 16 65535) ?_;refine jQ ?_));rotate_left 1;(focus (refine bE F F ?_;(refine jD F F F ?_);refine jK (aa 16 3839) ?_;refine jW 4 [12] (aa 16 7935) ?_;refine cX [8,13] kR dC ⟨?_,?_,trivial⟩;(focus (refine bE F F ?_;(refine jF fun _=>?_);refine jK (aa 16 8191) ?_;refine jA 13 F ?_;(refine jD F F F ?_);refine jK (aa 16 16383) ?_;refine jW 1 [14] (aa 16 32767) ?_;refine jA 15 F ?_;(refine jD F F F ?_);refine jK (aa 16 65535) ?_;refine jQ ?_));rotate_left 1;(focus (refine bE F F ?_;(refine jD F F F ?_);refine jK (aa 16 16127) ?_;refine jA 8 F ?_;(refine jF fun _=>?_);refine jK (aa 16 16383) ?_;refine jW 1 [14] (aa 16 32767) ?_;refine jA 15 F ?_;(refine jD F F F ?_);refine jK (aa 16 65535) ?_;refine jQ ?_));rotate_left 1));rotate_left 2));rotate_left 3)
   all_goals repeat' (refine jR ?_)
   all_goals
    rename_i y
    refine Nx.sealC (b:=y) fun G2 hG2 hsy=>?_
    have hsl : bq G2 (.slice (some ⟨y,0,none⟩) 1 1) 4 ([c1] : List VC).length (ax bG [c1]):=⟨rfl,.inr ⟨y,0,1,rfl,Nat.le_refl _,hsy⟩⟩
    refine dl (.inl F) F (cQ (x0:=x2) (r:=r) (sc:=sc) (s:=(q2.drop m3)) (b:=b1) (a:=none) (n:=0) (c:=0) (d:=d + 1) oM) F ?_
    rintro v G' L' ⟨rfl,rfl⟩
    dsimp only [zA,fA]
    exact ⟨[_],[bQ r sc (q2.drop m3) b1 none 0 0 (d + 1 - 1)],⟨ay F F F F,trivial⟩,sB,(hle.trans hG2),cP (c:=⟨85,[],m,some ⟨y,0,none⟩,1,1⟩) (db (ks:=[u1]) dC oM (fun _=>rfl) F hsl ⟨_,[],F,fz hG2 hrep,F⟩) oM (fun _=>⟨F,F,F⟩) ⟨oM,fun h=>⟨F,by rw [hrd,(hQ2 h).1];rfl⟩,fun h=>.inr (by rw [hrd,hQ3 h];rfl)⟩⟩
abbrev uS : TypeId:=76
abbrev yi : TypeId:=3
theorem abx {n r sc p : Nat} {qs : List cC} {t : Ty} {s : adE} {d : Int} (hd : d = 13 - (n : Int)) (hn : n ≤ 12) (hU : rI n sc qs) (hS : ScI G sc qs) (hW0 : SchW (ah qs)) (hT : i8 G p t) (hw : TyW t) (hkf : ∀ d ∈ t.fields,aB (ah qs) d.kind = true) (hs : s.length ≤ 1000) :
  dD adD 139 [Pt r 0,Pt p 0] G [bQ r sc s false none 0 0 d] (fun v G' L'=>∃ u c s' b' a m k,v = Ag (bG c) ∧ V.rep G' u c ∧ L' = [bQ r sc s' b' a m k d] ∧ (d ≠ 1 → a = none ∧ m = 0 ∧ k = 0) ∧ tD (fun s=>(bS (ah qs) (rb (ah qs) n) t (s.length + 1) 0 s []).map fun x=>(.nd 82 [] 0 x.1,x.2)) s false u s' b'):=by
 have hT2:=hT
 obtain ⟨fv,ln,h1',h2⟩:=hT
 have hfl:=hw.len
 refine bT [(0,_),(1,_)] Tryz.func139 kR Tryz.ntmps139 F F tU fun B hB hW=>?_
 repeat' (first | refine jR ?_ | (refine jo ?_;first | refine jL fun _=>?_ | refine jV (ao F F) ?_ | refine jC F F F ?_))
 rename_i x4 x5
 refine Nx.addNil uS 4 (Nx.addNil yi 1 (Nx.perm (List.perm_append_comm (l₁:=[_,_,_,_]) (l₂:=[_])) ?_))
 dsimp only [zA,fA]
 refine aU (ι:=List V × List VC × Option Addr × Nat × List Int × Option Addr × Nat × adE × Bool × Nat × Int × Gh) (fun y=>(V.reps y.2.2.2.2.2.2.2.2.2.2.2 y.1 y.2.1 ∧ Gh.le G y.2.2.2.2.2.2.2.2.2.2.2) ∧ (y.2.2.2.2.2.2.2.2.1 = false → bS (ah qs) (rb (ah qs) n) t (s.length + 1) 0 s [] = bS (ah qs) (rb (ah qs) n) t y.2.2.2.2.2.2.2.2.2.1 y.2.2.2.2.2.2.2.2.2.2.1 y.2.2.2.2.2.2.2.1 y.1 ∧ y.2.2.2.2.2.2.2.1.length < y.2.2.2.2.2.2.2.2.2.1) ∧ (y.2.2.2.2.2.2.2.2.1 = true → bS (ah qs) (rb (ah qs) n) t (s.length + 1) 0 s [] = none) ∧ (y.1.length + y.2.2.2.2.1.length + y.2.2.2.2.2.2.2.1.length ≤ s.length ∧ 0 ≤ y.2.2.2.2.2.2.2.2.2.2.1 ∧ y.2.2.2.2.2.2.2.2.2.2.1 ≤ 999999) ∧ (d ≠ 1 → y.2.2.2.2.1 = [] ∧ y.2.2.2.2.2.1 = none ∧ y.2.2.2.2.2.2.1 = 0)) (fun y=>[(0,Pt r 0),(1,Pt p 0),(4,Pt x4 0),(5,Pt x5 0),(6,I y.2.2.2.2.2.2.2.2.2.2.1)]) (fun y=>y.2.2.2.2.2.2.2.2.2.2.2) (fun y=>[bQ r sc y.2.2.2.2.2.2.2.1 y.2.2.2.2.2.2.2.2.1 y.2.2.2.2.2.1 y.2.2.2.2.1.length y.2.2.2.2.2.2.1 d,.acc (.slice y.2.2.2.2.2.1 y.2.2.2.2.1.length y.2.2.2.2.2.2.1) yi 1 y.2.2.2.2.1.length (ax eb y.2.2.2.2.1),.acc (.slice y.2.2.1 y.1.length y.2.2.2.1) uS 4 y.1.length (ax bG y.2.1),.blk x5 (.cells (List.toArray [U8 82,S [],I 0,.slice y.2.2.1 y.1.length y.2.2.2.1]) uS (0,0)),.blk x4 (.cells (List.toArray [U8 (0 : Nat),S [],I 0,aN]) uS (0,0))]) (fun y=>y.2.2.2.2.2.2.2.1.length) ([],[],none,0,[],none,0,s,false,s.length + 1,0,G) ?_ tU F aZ (fun y Hy=>?_)
 ·exact ⟨⟨F,Gh.le.refl _⟩,fun _=>⟨F,Nat.lt_succ_self _⟩,fun h=>(by cases h),⟨by simp,Int.le_refl 0,by show (0 : Int) ≤ 999999;omega⟩,fun _=>⟨rfl,rfl,rfl⟩⟩
 obtain ⟨vs,cs,a,cap,sk,sa,scap,t',b,m',last,Gq⟩:=y
 dsimp only at Hy ⊢
 obtain ⟨⟨hreps,hgq⟩,hI0,hI1,⟨hlen,hla0,hla1⟩,hsk⟩:=Hy
 have hcl:=ix hreps
 have hskF : d ≠ 1 → sa = none ∧ sk.length = 0 ∧ scap = 0:=fun h=>by obtain ⟨h1,h2,h3⟩:=hsk h;subst h1;exact ⟨h2,F,h3⟩
 cases b with
 | true =>
  have hno:=hI1 rfl
  repeat' (first | refine jR ?_ | (refine jo ?_;first | refine jC F F F ?_ | refine al F ?_ | refine aQ F ?_) | refine ad F F ?_)
  all_goals
   refine Nx.sealS (v:=.slice a vs.length cap) fun G2 hG2 hsl=>?_
   refine aR (vs:=[_]) F ⟨ay F F F F,trivial⟩ F sB ⟨hgq.trans hG2,.nd 82 [] 0 vs,⟨82,[],0,a,vs.length,cap⟩,t',true,sa,sk.length,scap,F,db dC dC (fun h=>absurd h dC) F (by rw [hcl];exact hsl) (cd hG2 hreps),F,hskF,⟨oM,fun h=>(by cases h),fun _=>.inr (by dsimp only;rw [hno];rfl)⟩⟩
 | false =>
  obtain ⟨hit,htm⟩:=hI0 rfl
  clear hI0 hI1
  obtain ⟨m',rfl⟩ : ∃ j,m' = j + 1:=⟨m' - 1,oM⟩
  cases hg : bI t' with
  | none =>
   rw [pE hg] at hit
   have cx_nb:=gr (G:=Gq) (r:=r) (sc:=sc) (m:=sk.length) (c:=scap) (b:=false) (a:=sa) (d:=d) hg oM
   repeat' (first | refine jR ?_ | (refine jo ?_;first | refine jC F F F ?_ | refine al F ?_ | refine aQ F ?_ | (refine ai F F F cx_nb F ?_;rintro _ _ ⟨rfl,rfl⟩;dsimp only [zA,fA])) | refine ab F F ?_)
   all_goals
    refine Nx.sealS (v:=.slice a vs.length cap) fun G2 hG2 hsl=>?_
    refine aR (vs:=[_]) F ⟨ay F F F F,trivial⟩ F sB ⟨hgq.trans hG2,.nd 82 [] 0 vs,⟨82,[],0,a,vs.length,cap⟩,[],true,sa,sk.length,scap,F,db dC dC (fun h=>absurd h dC) F (by rw [hcl];exact hsl) (cd hG2 hreps),F,hskF,⟨by simp,fun h=>(by cases h),fun _=>.inr (by dsimp only;rw [hit];rfl)⟩⟩
  | some z =>
   obtain ⟨tg,q⟩:=z
   obtain ⟨h0,h1,_⟩:=di hg
   have hl:=ce hg
   have cx_nb:=eN (G:=Gq) (r:=r) (sc:=sc) (m:=sk.length) (c:=scap) (b:=false) (a:=sa) (d:=d) hg oM
   by_cases htz : tg = 0
   ·subst htz
    rw [r6 hg] at hit
    repeat' (first | refine jR ?_ | (refine jo ?_;first | refine jC F F F ?_ | refine al F ?_ | refine aQ F ?_ | (refine ai F F F cx_nb F ?_;rintro _ _ ⟨rfl,rfl⟩;dsimp only [zA,fA])) | refine ab F F ?_)
    all_goals
     refine Nx.sealS (v:=.slice a vs.length cap) fun G2 hG2 hsl=>?_
     refine aR (vs:=[_]) F ⟨ay F F F F,trivial⟩ F sB ⟨hgq.trans hG2,.nd 82 [] 0 vs,⟨82,[],0,a,vs.length,cap⟩,q,false,sa,sk.length,scap,F,db dC dC (fun h=>absurd h dC) F (by rw [hcl];exact hsl) (cd hG2 hreps),F,hskF,⟨oM,fun _=>⟨F,by dsimp only;rw [hit];rfl⟩,fun h=>(by cases h)⟩⟩
   rcases ib (s:=q) with ⟨hg2,ht⟩ | ⟨m3,q2,hg2,hm3,⟨hl3,ht⟩ | ⟨hl3,ht⟩⟩
   ·rw [lN hg htz ht] at hit
    have cx_nb2:=gr (G:=Gq) (r:=r) (sc:=sc) (m:=sk.length) (c:=scap) (b:=false) (a:=sa) (d:=d) hg2 oM
    have cx_tkb:=ge (G:=Gq) (r:=r) (sc:=sc) (m:=0) (n:=sk.length) (c:=scap) (s:=[]) (b:=true) (a:=sa) (d:=d) (.inl rfl) ⟨by simp,oM⟩
    have cx_tkb : cM adD 64 [Pt r 0,I 0] Gq [bQ r sc [] true sa sk.length scap d] (fun v L'=>v = S [] ∧ L' = [bQ r sc [] true sa sk.length scap d]):=cx_tkb
    have cx_fldg:=mo (hT2.mono hgq) hw ⟨h0,h1⟩
    repeat' (first | refine jR ?_ | (refine jo ?_;first | refine jD F F F ?_ | refine al F ?_ | (refine ai F F F cx_nb F ?_;rintro _ _ ⟨rfl,rfl⟩;dsimp only [zA,fA]) | (refine ai F F F cx_nb2 F ?_;rintro _ _ ⟨rfl,rfl⟩;dsimp only [zA,fA]) | (refine ai F F F cx_tkb F ?_;rintro _ _ ⟨rfl,rfl⟩;dsimp only [zA,fA])) | refine ab F F ?_ | refine ad F (aE ‹_›) ?_ | refine dJ F (fun _=>?_) (fun _=>?_))
    all_goals
     refine jo ?_
     refine dn F F F cx_fldg F ?_
     rintro _ ⟨q9,rfl⟩
     repeat' (first | refine jR ?_ | (refine jo ?_;refine al F ?_) | refine ab F F ?_)
     exact a7 (vs,cs,a,cap,sk,sa,scap,[],true,m',tg,Gq) ⟨⟨hreps,hgq⟩,fun h=>(by cases h),fun _=>hit,⟨by dsimp only;simp only [List.length_nil];omega,h0,h1⟩,hsk⟩ (by dsimp only;simp only [List.length_nil];omega) tU rfl aZ
   ·have hl4:=ce hg2
    rw [lN hg htz ht] at hit
    have cx_nb2:=eN (G:=Gq) (r:=r) (sc:=sc) (m:=sk.length) (c:=scap) (b:=false) (a:=sa) (d:=d) hg2 oM
    have cx_tkb:=ge (G:=Gq) (r:=r) (sc:=sc) (m:=m3) (n:=sk.length) (c:=scap) (s:=q2) (b:=false) (a:=sa) (d:=d) (.inr hl3) ⟨oM,oM⟩
    have cx_fldg:=mo (hT2.mono hgq) hw ⟨h0,h1⟩
    repeat' (first | refine jR ?_ | (refine jo ?_;first | refine jD F F F ?_ | refine al F ?_ | (refine ai F F F cx_nb F ?_;rintro _ _ ⟨rfl,rfl⟩;dsimp only [zA,fA]) | (refine ai F F F cx_nb2 F ?_;rintro _ _ ⟨rfl,rfl⟩;dsimp only [zA,fA]) | (refine ai F F F cx_tkb F ?_;rintro _ _ ⟨rfl,rfl⟩;dsimp only [zA,fA])) | refine ab F F ?_ | refine ad F (aE ‹_›) ?_ | refine dJ F (fun _=>?_) (fun _=>?_))
    all_goals
     refine jo ?_
     refine dn F F F cx_fldg F ?_
     rintro _ ⟨q9,rfl⟩
     repeat' (first | refine jR ?_ | (refine jo ?_;refine al F ?_) | refine ab F F ?_)
     exact a7 (vs,cs,a,cap,sk,sa,scap,q2,true,m',tg,Gq) ⟨⟨hreps,hgq⟩,fun h=>(by cases h),fun _=>hit,⟨by dsimp only;omega,h0,h1⟩,hsk⟩ (by dsimp only;omega) tU rfl aZ
   have hl4:=ce hg2
   have hdl : (q2.drop m3).length = q2.length - m3:=List.length_drop
   have htl : (q2.take m3).length ≤ 1000:=by rw [List.length_take];omega
   have cx_nb2:=eN (G:=Gq) (r:=r) (sc:=sc) (m:=sk.length) (c:=scap) (b:=false) (a:=sa) (d:=d) hg2 oM
   have cx_tkb:=kp (G:=Gq) (r:=r) (sc:=sc) (m:=m3) (n:=sk.length) (c:=scap) (s:=q2) (a:=sa) (d:=d) ⟨hl3,oM⟩
   by_cases hlast : tg ≤ last
   ·rw [pD hg htz ht hlast] at hit
    have cx_fldg:=mo (hT2.mono hgq) hw ⟨h0,h1⟩
    repeat' (first | refine jR ?_ | (refine jo ?_;first | refine jD F F F ?_ | refine al F ?_ | (refine ai F F F cx_nb F ?_;rintro _ _ ⟨rfl,rfl⟩;dsimp only [zA,fA]) | (refine ai F F F cx_nb2 F ?_;rintro _ _ ⟨rfl,rfl⟩;dsimp only [zA,fA]) | (refine ai F F F cx_tkb F ?_;rintro _ _ ⟨rfl,rfl⟩;dsimp only [zA,fA])) | (refine ab F (by first | rfl | (refine decide_eq_true ?_;(assumption))) ?_) | refine ad F (aE ‹_›) ?_)
    all_goals
     refine jo ?_
     refine dn F F F cx_fldg F ?_
     rintro _ ⟨q9,rfl⟩
     repeat' (first | refine jR ?_ | (refine jo ?_;refine al F ?_) | refine ab F F ?_)
     exact a7 (vs,cs,a,cap,sk,sa,scap,(q2.drop m3),true,m',tg,Gq) ⟨⟨hreps,hgq⟩,fun h=>(by cases h),fun _=>hit,⟨by dsimp only;omega,h0,h1⟩,hsk⟩ (by dsimp only;omega) tU rfl aZ
   cases hft : bB t.fields tg with
   | none =>
    rw [n9 hg htz ht hlast hft] at hit
    have cx_fld:=ee (h1'.mono hgq) (h2.mono hgq) oM hft
    by_cases hd1 : d = 1
    ·have hskl : (sk ++ [tg]).length = sk.length + 1:=by simp
     have hrs : ax eb sk ++ [I tg] = ax eb (sk ++ [tg]):=(b5 eb sk tg).symm
     repeat' (first | refine jR ?_ | (refine jo ?_;first | refine jD F F F ?_ | refine al F ?_ | refine jV (cn F F) ?_ | refine jF fun _=>?_ | refine ci F F F F F F F F F oM fun _ _=>?_ | (refine ai F F F cx_nb F ?_;rintro _ _ ⟨rfl,rfl⟩;dsimp only [zA,fA]) | (refine ai F F F cx_nb2 F ?_;rintro _ _ ⟨rfl,rfl⟩;dsimp only [zA,fA]) | (refine ai F F F cx_tkb F ?_;rintro _ _ ⟨rfl,rfl⟩;dsimp only [zA,fA]) | refine ac F F F cx_fld F ?_) | (refine ab F (by first | rfl | (refine decide_eq_true ?_;(assumption))) ?_) | (refine ad F (by first | rfl | (refine decide_eq_false ?_;(assumption))) ?_))
     rename_i _ y1 yc
     rw [hrs]
     refine Nx.perm (List.Perm.append_right _ (List.perm_append_comm (l₁:=[_,_]) (l₂:=[_]))) ?_
     dsimp only [zA,fA]
     exact a7 (vs,cs,a,cap,sk ++ [tg],some ⟨y1,0,none⟩,yc,q2.drop m3,false,m',tg,Gq) ⟨⟨hreps,hgq⟩,fun _=>⟨hit,by dsimp only;omega⟩,fun h=>(by cases h),⟨by dsimp only;omega,h0,h1⟩,fun h=>absurd hd1 h⟩ (by dsimp only;omega) tU rfl (by rw [hskl];repeat (first | exact List.Sublist.refl _ | apply List.Sublist.cons_cons | apply List.Sublist.cons))
    ·repeat' (first | refine jR ?_ | (refine jo ?_;first | refine al F ?_ | refine jV (cn F F) ?_ | (refine ai F F F cx_nb F ?_;rintro _ _ ⟨rfl,rfl⟩;dsimp only [zA,fA]) | (refine ai F F F cx_nb2 F ?_;rintro _ _ ⟨rfl,rfl⟩;dsimp only [zA,fA]) | (refine ai F F F cx_tkb F ?_;rintro _ _ ⟨rfl,rfl⟩;dsimp only [zA,fA]) | refine ac F F F cx_fld F ?_) | refine ab F F ?_ | (refine ad F (by first | rfl | (refine decide_eq_false ?_;(assumption))) ?_))
     all_goals
      exact a7 (vs,cs,a,cap,sk,sa,scap,q2.drop m3,false,m',tg,Gq) ⟨⟨hreps,hgq⟩,fun _=>⟨hit,by dsimp only;omega⟩,fun h=>(by cases h),⟨by dsimp only;omega,h0,h1⟩,hsk⟩ (by dsimp only;omega) tU rfl aZ
   | some f =>
    obtain ⟨j,hj,hjn,hjt,hjd⟩:=eE hft
    obtain ⟨bf,of,cf,rfl,hsf⟩:=h2.expl oM
    subst hjd
    have hsf:=hsf.mono hgq
    have cx_fld:=eY (h1'.mono hgq) hsf oM hj hjn hjt
    have cx_prt:=uB (G:=Gq) (r:=r) (sc:=sc) (m:=sk.length) (c:=scap) (a:=sa) (s:=q2.drop m3) (k:=(ae t.fields j).kind) (p:=q2.take m3) (d:=d) hd hn hU (hS.mono hgq) (hkf _ (bh hj)) htl
    repeat' (first | refine jR ?_ | (refine jo ?_;first | refine jL fun _=>?_ | refine jC F F F ?_ | refine al F ?_ | (refine jV (f8 F F aS ?_ F F) ?_;focus omega) | refine jV (cn F F) ?_ | (refine ai F F F cx_nb F ?_;rintro _ _ ⟨rfl,rfl⟩;dsimp only [zA,fA]) | (refine ai F F F cx_nb2 F ?_;rintro _ _ ⟨rfl,rfl⟩;dsimp only [zA,fA]) | (refine ai F F F cx_tkb F ?_;rintro _ _ ⟨rfl,rfl⟩;dsimp only [zA,fA]) | refine ac F F F cx_fld F ?_ | (refine cY F F F cx_prt F ?_;rintro _ G1 _ hle ⟨u1,c1,b1,rfl,hrep,rfl,hQ2,hQ3⟩;dsimp only [zA,fA];skip)) | refine ab F F ?_ | (refine ad F (by first | rfl | (refine decide_eq_false ?_;(assumption))) ?_))
    rename_i x10
    have hgl:=hgq.trans hle
    have hS1:=hS.mono hgl
    have hsf1:=hsf.mono hle
    have cx_of:=vA hS1 hW0 hsf1 hj (hkf _ (bh hj))
    obtain ⟨u',m2',g1',g2',g3'⟩:=hS1.at'
    cases b1 with
    | true =>
     rw [pC hg htz ht hlast hft (hQ3 rfl)] at hit
     repeat' (first | refine jR ?_ | refine ad F F ?_ | (refine ak (ar (id:=12) _ (fun _ h=>h) aj ?_);refine jT 13 [0,1,2] (aa 16 7) ?_;(refine jG (aa 16 15) 3 F (aC F F F) ?_);refine jT 10 [4,5] (aa 16 63) ?_;(try (refine Nx.re (d:=47) (v':=Bo false) F (congrArg Value.bool F) ?_));refine jT 6 [8,9,10,12] (aa 16 5951) ?_;(refine jN (aa 16 6015) 6 F ?_);(refine jN (aa 16 8063) 11 F ?_);(refine jN (aa 16 8191) 7 F ?_);(refine jN (aa 16 16383) 13 F ?_);refine jT 1 [14] (aa 16 32767) ?_;(refine jG (aa 16 65535) 15 F (bm F F F) ?_);refine jQ ?_))
     all_goals exact a7 (vs,cs,a,cap,sk,sa,scap,q2.drop m3,true,m',tg,G1) ⟨⟨cd hle hreps,hgl⟩,fun h=>(by cases h),fun _=>hit,⟨by dsimp only;omega,h0,h1⟩,hsk⟩ (by dsimp only;omega) tU rfl sB
    | false =>
     obtain ⟨hra,htot⟩:=hQ2 rfl
     rw [pB hg htz ht hlast hft hra] at hit
     have cx_pr:=lq (G:=G1) u1.tot (Nat.le_refl _) oM hrep
     have hotl:=qq hrep
     by_cases heq : u1.out = bK (ah qs) (ae t.fields j)
     ·rw [if_pos heq] at hit
      repeat' (first | refine jR ?_ | (refine ad F ?_ ?_;(focus ((simp [*];done);done))) | (refine ak (ar (id:=12) _ (fun _ h=>h) aj ?_);refine jT 13 [0,1,2] (aa 16 7) ?_;(refine jG (aa 16 15) 3 F (aC F F F) ?_);refine jT 10 [4,5] (aa 16 63) ?_;(try (refine Nx.re (d:=47) (v':=Bo true) F (congrArg Value.bool F) ?_));refine jT 6 [8,9,10,12] (aa 16 5951) ?_;(refine jG (aa 16 6015) 6 F (bz F F F F) ?_);(refine jG (aa 16 8063) 11 F (aC F F F) ?_);(refine jA 7 F ?_;(refine ac F F F cx_pr F ?_);refine jS (aa 16 8191) ?_);(refine jA 13 F ?_;(refine ac F F F cx_of F ?_);refine jS (aa 16 16383) ?_);refine jT 1 [14] (aa 16 32767) ?_;(refine jG (aa 16 65535) 15 F (bJ F F F) ?_);refine jQ ?_))
      all_goals exact a7 (vs,cs,a,cap,sk,sa,scap,q2.drop m3,false,m',tg,G1) ⟨⟨cd hle hreps,hgl⟩,fun _=>⟨hit,by dsimp only;omega⟩,fun h=>(by cases h),⟨by dsimp only;omega,h0,h1⟩,hsk⟩ (by dsimp only;omega) tU rfl sB
     ·rw [if_neg heq] at hit
      repeat' (first | refine jR ?_ | (refine jo ?_;first | refine jV (ao F F) ?_ | refine jD F F F ?_ | refine al F ?_ | refine aQ F ?_ | refine jF fun _=>?_ | refine ci F F F F F F F F F oM fun _ _=>?_) | refine ab F (aD ‹_›) ?_ | (refine ak (ar (id:=12) _ (fun _ h=>h) aj ?_);refine jT 13 [0,1,2] (aa 16 7) ?_;(refine jG (aa 16 15) 3 F (aC F F F) ?_);refine jT 10 [4,5] (aa 16 63) ?_;(try (refine Nx.re (d:=47) (v':=Bo true) F (congrArg Value.bool F) ?_));refine jT 6 [8,9,10,12] (aa 16 5951) ?_;(refine jG (aa 16 6015) 6 F (bz F F F F) ?_);(refine jG (aa 16 8063) 11 F (aC F F F) ?_);(refine jA 7 F ?_;(refine ac F F F cx_pr F ?_);refine jS (aa 16 8191) ?_);(refine jA 13 F ?_;(refine ac F F F cx_of F ?_);refine jS (aa 16 16383) ?_);refine jT 1 [14] (aa 16 32767) ?_;(refine jG (aa 16 65535) 15 F (bJ F F F) ?_);refine jQ ?_))
      rename_i y z y1 yc
      rw [hjt] at hit
      refine Nx.sealC (b:=y) fun G2 hG2 hsy=>?_
      have hsl : bq G2 (.slice (some ⟨y,0,none⟩) 1 1) 4 ([c1] : List VC).length (ax bG [c1]):=⟨rfl,.inr ⟨y,0,1,rfl,Nat.le_refl _,hsy⟩⟩
      have hrow : ax bG cs ++ [U8 61,S [],I tg,.slice (some ⟨y,0,none⟩) 1 1] = ax bG (cs ++ [⟨61,[],tg,some ⟨y,0,none⟩,1,1⟩]):=(b5 bG cs (⟨61,[],tg,some ⟨y,0,none⟩,1,1⟩ : VC)).symm
      have hr1 : V.rep G2 (.nd 61 [] tg [u1]) (⟨61,[],tg,some ⟨y,0,none⟩,1,1⟩ : VC):=db (ks:=[u1]) dC oM (fun _=>rfl) rfl hsl ⟨c1,[],rfl,fz hG2 hrep,rfl⟩
      have hr2 : V.reps G2 (vs ++ [.nd 61 [] tg [u1]]) (cs ++ [⟨61,[],tg,some ⟨y,0,none⟩,1,1⟩]):=iV hr1 (cd (hle.trans hG2) hreps)
      have hvl : (vs ++ [V.nd 61 [] tg [u1]]).length = vs.length + 1:=by simp
      refine Nx.perm (List.Perm.append_right _ (List.perm_append_comm (l₁:=[_,_,_]) (l₂:=[_,_]))) ?_
      dsimp only [zA,fA]
      rw [hrow]
      exact a7 (vs ++ [.nd 61 [] tg [u1]],cs ++ [⟨61,[],tg,some ⟨y,0,none⟩,1,1⟩],some ⟨y1,0,none⟩,yc,sk,sa,scap,q2.drop m3,false,m',tg,G2) ⟨⟨hr2,hgl.trans hG2⟩,fun _=>⟨hit,by dsimp only;omega⟩,fun h=>(by cases h),⟨by dsimp only;omega,h0,h1⟩,hsk⟩ (by dsimp only;omega) tU rfl (by rw [hvl];repeat (first | exact List.Sublist.refl _ | apply List.Sublist.cons_cons | apply List.Sublist.cons))
theorem acE {n r sc : Nat} {qs : List cC} {k s : adE} {d : Int} (hd : d = 12 - (n : Int)) (hn : n ≤ 12) (hU : rI n sc qs) (hS : ScI G sc qs) (hk : aB (ah qs) (91 :: k) = true) (hs : s.length ≤ 1000) :
  dD adD 92 [Pt r 0,Ag (c7 (91 :: k))] G [bQ r sc s false none 0 0 d] (kP (rb (ah qs) (n + 1) (91 :: k)) r sc s false d):=by
 have hk2:=dy (.inl rfl) hk
 obtain ⟨e1,e2,e3,_⟩:=gO (c:=91) (k:=k) (.inl rfl)
 have hrd:=v3 (ts:=ah qs) (n:=n) (k:=k) (s:=s)
 unfold c7
 rw [e1,e2,e3]
 have cx_sign:=@hJ G 91 (sg k) (bs k) (nm k)
 have cx_ptA : ∀ G,aG adD 134 [Ag [S (91 :: sg k),S (bs k),S (nm k)]] G (· = Ag [S (sg k),S (bs k),S (nm k)]):=fun G=>@lr G 91 (sg k) (bs k) (nm k)
 cases hg : bI s with
 | none =>
  rw [hg] at hrd
  have cx_nb:=gr (G:=G) (r:=r) (sc:=sc) (m:=0) (c:=0) (b:=false) (a:=none) (d:=d + 1) hg hs
  refine cF [(0,_),(1,_)] Tryz.func92 kR Tryz.ntmps92 F F tU fun B hok hB hW=>?_
  repeat' (first | refine jM ?_ | (refine jo ?_;first | refine jO fun _=>?_ | refine jL fun _=>?_ | refine al F ?_ | refine jD F F F ?_ | refine jV (du F F) ?_))
  rename_i x2 x3 x4
  refine jo ?_
  refine cG (fi:=[]) (ca:=[Pt x2 0]) (az:=[]) F F ?_
  repeat' (first | refine jR ?_ | (refine jo ?_;first | refine jL fun _=>?_ | refine al F ?_ | refine aQ F ?_ | refine jC F F F ?_ | refine jV (ao F F) ?_ | refine ac F F F cx_sign F ?_ | (refine ai F F F cx_nb F ?_;rintro _ _ ⟨rfl,rfl⟩;dsimp only [zA,fA])) | refine ab F F ?_ | (refine ad F (by first | rfl | (refine decide_eq_false ?_;(omega))) ?_))
  rename_i x5
  refine aU (ι:=Unit) (fun j=>True) (fun j=>[(2,Pt x2 0),(3,Pt x3 0),(4,Pt x4 0),(5,I 0),(6,Pt x5 0),(7,I 0)]) (fun _=>G) (fun j=>[.blk x5 (.cells (List.toArray [U8 91,S [],I 0,aN]) mH (0,0)),bQ r sc [] true none 0 0 (d + 1),.blk x4 (.cells (List.toArray [U8 (0 : Nat),S [],I 0,aN]) mH (0,0)),.blk x3 (.cells (List.toArray [S (91 :: sg k),S (bs k),S (nm k)]) rW (0,0)),.blk x2 (.cells (List.toArray [Pt r 0]) fX (0,0))]) (fun j=>0) () ?_ tU F aZ (fun j Hj=>?_)
  ·trivial
  repeat' (first | refine jR ?_ | (refine jo ?_;first | refine aQ F ?_ | refine jC F F F ?_ | refine aw F ?_) | refine am F F F ?_ | refine ad F F ?_)
  all_goals
   refine dl (.inl F) F (cQ (x0:=x2) (r:=r) (sc:=sc) (s:=[]) (b:=true) (a:=none) (n:=0) (c:=0) (d:=d + 1) oM) F ?_
   rintro v G' L' ⟨rfl,rfl⟩
   dsimp only [zA,fA]
   exact ⟨[_],[bQ r sc [] true none 0 0 (d + 1 - 1)],⟨ay F F F F,trivial⟩,sB,Gh.le.refl _,cP (c:=⟨91,[],0,none,0,0⟩) (bA dC dC) oM (fun _=>⟨F,F,F⟩) ⟨by simp,fun h=>(by cases h),fun _=>.inr hrd⟩⟩
 | some z =>
  obtain ⟨m,q⟩:=z
  obtain ⟨h1,h2,_⟩:=di hg
  have hl:=ce hg
  rw [hg] at hrd
  dsimp only at hrd
  have cx_nb:=eN (G:=G) (r:=r) (sc:=sc) (m:=0) (c:=0) (b:=false) (a:=none) (d:=d + 1) hg hs
  by_cases h20 : m ≤ 20
  case neg =>
   rw [if_neg h20] at hrd
   refine cF [(0,_),(1,_)] Tryz.func92 kR Tryz.ntmps92 F F tU fun B hok hB hW=>?_
   repeat' (first | refine jM ?_ | (refine jo ?_;first | refine jO fun _=>?_ | refine jL fun _=>?_ | refine al F ?_ | refine jD F F F ?_ | refine jV (du F F) ?_))
   rename_i x2 x3 x4
   refine jo ?_
   refine cG (fi:=[]) (ca:=[Pt x2 0]) (az:=[]) F F ?_
   repeat' (first | refine jR ?_ | (refine jo ?_;first | refine jL fun _=>?_ | refine al F ?_ | refine aQ F ?_ | refine jD F F F ?_ | refine jC F F F ?_ | refine jV (ao F F) ?_ | refine ac F F F cx_sign F ?_ | (refine ai F F F cx_nb F ?_;rintro _ _ ⟨rfl,rfl⟩;dsimp only [zA,fA])) | (refine ab F (by first | rfl | (refine decide_eq_true ?_;(omega))) ?_) | (refine ad F (by first | rfl | (refine decide_eq_false ?_;(omega))) ?_))
   rename_i x5
   refine aU (ι:=Unit) (fun j=>True) (fun j=>[(2,Pt x2 0),(3,Pt x3 0),(4,Pt x4 0),(5,I m),(6,Pt x5 0),(7,I 0)]) (fun _=>G) (fun j=>[.blk x5 (.cells (List.toArray [U8 91,S [],I 0,aN]) mH (0,0)),bQ r sc q true none 0 0 (d + 1),.blk x4 (.cells (List.toArray [U8 (0 : Nat),S [],I 0,aN]) mH (0,0)),.blk x3 (.cells (List.toArray [S (91 :: sg k),S (bs k),S (nm k)]) rW (0,0)),.blk x2 (.cells (List.toArray [Pt r 0]) fX (0,0))]) (fun j=>0) () ?_ tU F aZ (fun j Hj=>?_)
   ·trivial
   repeat' (first | refine jR ?_ | (refine jo ?_;first | refine al F ?_ | refine aQ F ?_ | refine jC F F F ?_ | refine aK F ?_) | refine aA F F (aD oM) ?_ | refine ad F F ?_)
   all_goals
    refine dl (.inl F) F (cQ (x0:=x2) (r:=r) (sc:=sc) (s:=q) (b:=true) (a:=none) (n:=0) (c:=0) (d:=d + 1) oM) F ?_
    rintro v G' L' ⟨rfl,rfl⟩
    dsimp only [zA,fA]
    exact ⟨[_],[bQ r sc q true none 0 0 (d + 1 - 1)],⟨ay F F F F,trivial⟩,sB,Gh.le.refl _,cP (c:=⟨91,[],0,none,0,0⟩) (bA dC dC) oM (fun _=>⟨F,F,F⟩) ⟨oM,fun h=>(by cases h),fun _=>.inr hrd⟩⟩
  rw [if_pos h20] at hrd
  obtain ⟨m,rfl⟩ : ∃ m' : Nat,m = (m' : Int):=⟨m.toNat,oM⟩
  rw [Int.toNat_natCast] at hrd
  refine cF [(0,_),(1,_)] Tryz.func92 kR Tryz.ntmps92 F F tU fun B hok hB hW=>?_
  repeat' (first | refine jM ?_ | (refine jo ?_;first | refine jO fun _=>?_ | refine jL fun _=>?_ | refine al F ?_ | refine jD F F F ?_ | refine jV (du F F) ?_))
  rename_i x2 x3 x4
  refine jo ?_
  refine cG (fi:=[]) (ca:=[Pt x2 0]) (az:=[]) F F ?_
  repeat' (first | refine jR ?_ | (refine jo ?_;first | refine jL fun _=>?_ | refine al F ?_ | refine aQ F ?_ | refine jC F F F ?_ | refine jV (ao F F) ?_ | refine ac F F F cx_sign F ?_ | (refine ai F F F cx_nb F ?_;rintro _ _ ⟨rfl,rfl⟩;dsimp only [zA,fA])) | refine ab F F ?_ | (refine ad F (by first | rfl | (refine decide_eq_false ?_;(omega))) ?_))
  rename_i x5
  refine Nx.addNil mH 4 (Nx.perm (List.Perm.cons _ (List.Perm.swap _ _ _)) ?_)
  refine aU (ι:=List V × List VC × Option Addr × Nat × adE × Bool × Gh) (fun y=>(V.reps y.2.2.2.2.2.2 y.1 y.2.1 ∧ Gh.le G y.2.2.2.2.2.2) ∧ (y.2.2.2.2.2.1 = false → bO (rb (ah qs) n k) m q [] = bO (rb (ah qs) n k) (m - y.1.length) y.2.2.2.2.1 y.1) ∧ (y.2.2.2.2.2.1 = true → bO (rb (ah qs) n k) m q [] = none) ∧ (y.1.length ≤ m ∧ y.2.2.2.2.1.length ≤ q.length)) (fun y=>[(2,Pt x2 0),(3,Pt x3 0),(4,Pt x4 0),(5,I (m : Nat)),(6,Pt x5 0),(7,I (y.1.length : Nat))]) (fun y=>y.2.2.2.2.2.2) (fun y=>[.acc (.slice y.2.2.1 y.1.length y.2.2.2.1) mH 4 y.1.length (ax bG y.2.1),bQ r sc y.2.2.2.2.1 y.2.2.2.2.2.1 none 0 0 (d + 1),.blk x5 (.cells (List.toArray [U8 91,S [],I 0,.slice y.2.2.1 y.1.length y.2.2.2.1]) mH (0,0)),.blk x4 (.cells (List.toArray [U8 (0 : Nat),S [],I 0,aN]) mH (0,0)),.blk x3 (.cells (List.toArray [S (91 :: sg k),S (bs k),S (nm k)]) rW (0,0)),.blk x2 (.cells (List.toArray [Pt r 0]) fX (0,0))]) (fun y=>m - y.1.length) ([],[],none,0,q,false,G) ?_ tU F aZ (fun y Hy=>?_)
  ·exact ⟨⟨F,Gh.le.refl _⟩,fun _=>rfl,fun h=>(by cases h),Nat.zero_le _,Nat.le_refl _⟩
  obtain ⟨vs,cs,a,cap,t,b,Gq⟩:=y
  dsimp only at Hy ⊢
  obtain ⟨⟨hreps,hgq⟩,hI0,hI1,hlm,htl'⟩:=Hy
  have hcl:=ix hreps
  by_cases hi : b = false ∧ vs.length < m
  case neg =>
   have hres : tD (rb (ah qs) (n + 1) (91 :: k)) s false (.nd 91 [] 0 vs) t b:=by
    refine ⟨oM,fun h=>⟨F,?_⟩,fun h=>.inr ?_⟩
    ·have h2:=hI0 h
     have h9 : ¬ vs.length < m:=fun h3=>hi ⟨h,h3⟩
     have e0 : m - vs.length = 0:=oM
     rw [e0,bO] at h2
     rw [hrd,h2];rfl
    ·rw [hrd,hI1 h];rfl
   cases b with
   | true =>
    repeat' (first | refine jR ?_ | (refine jo ?_;first | refine al F ?_ | refine aQ F ?_ | refine jC F F F ?_ | refine aK F ?_ | refine aw F ?_) | refine eD F F (fun _=>?_) (fun _=>?_) | refine ad F F ?_)
    all_goals
     refine Nx.sealS (v:=.slice a vs.length cap) fun G2 hG2 hsl=>?_
     refine dl (.inl F) F (cQ (x0:=x2) (r:=r) (sc:=sc) (s:=t) (b:=true) (a:=none) (n:=0) (c:=0) (d:=d + 1) oM) F ?_
     rintro v G' L' ⟨rfl,rfl⟩
     dsimp only [zA,fA]
     exact ⟨[_],[bQ r sc t true none 0 0 (d + 1 - 1)],⟨ay F F F F,trivial⟩,sB,(hgq.trans hG2),cP (c:=⟨91,[],0,a,vs.length,cap⟩) (db dC dC (fun h=>absurd h dC) F (by rw [hcl];exact hsl) (cd hG2 hreps)) oM (fun _=>⟨F,F,F⟩) hres⟩
   | false =>
    have hi2 : ¬ vs.length < m:=fun h=>hi ⟨rfl,h⟩
    repeat' (first | refine jR ?_ | (refine jo ?_;first | refine aQ F ?_ | refine jC F F F ?_ | refine aw F ?_) | refine am F F (aE oM) ?_ | refine ad F F ?_)
    all_goals
     refine Nx.sealS (v:=.slice a vs.length cap) fun G2 hG2 hsl=>?_
     refine dl (.inl F) F (cQ (x0:=x2) (r:=r) (sc:=sc) (s:=t) (b:=false) (a:=none) (n:=0) (c:=0) (d:=d + 1) oM) F ?_
     rintro v G' L' ⟨rfl,rfl⟩
     dsimp only [zA,fA]
     exact ⟨[_],[bQ r sc t false none 0 0 (d + 1 - 1)],⟨ay F F F F,trivial⟩,sB,(hgq.trans hG2),cP (c:=⟨91,[],0,a,vs.length,cap⟩) (db dC dC (fun h=>absurd h dC) F (by rw [hcl];exact hsl) (cd hG2 hreps)) oM (fun _=>⟨F,F,F⟩) hres⟩
  obtain ⟨rfl,hi2⟩:=hi
  have hit:=hI0 rfl
  clear hI0 hI1
  obtain ⟨m',hm'⟩ : ∃ m',m - vs.length = m' + 1:=⟨m - vs.length - 1,oM⟩
  rw [hm'] at hit
  have cx_vl:=w9 (r:=r) (d:=d + 1) oM oM (hU Gq r k t false (hS.mono hgq) hk2 oM)
  have cx_pt:=cx_ptA Gq
  repeat' (first | refine jR ?_ | (refine jo ?_;first | refine al F ?_ | refine aK F ?_) | refine aA F F (aD oM) ?_ | refine ab F F ?_)
  (refine ak (ar (id:=16) [.blk x3 (.cells (List.toArray [S (91 :: sg k),S (bs k),S (nm k)]) rW (0,0)),.blk x2 (.cells (List.toArray [Pt r 0]) fX (0,0))] (by intro y hy;simp only [List.mem_cons,List.not_mem_nil,or_false] at hy ⊢;rcases hy with hy | hy <;> simp [hy]) aj ?_);refine jW 9 [0] (aa 10 1) ?_;(refine jG (aa 10 5) 2 F (aC F F F) ?_);(refine jG (aa 10 13) 3 F (bz F F F F) ?_);refine cX [1,4] kR dC ⟨?_,?_,trivial⟩;(focus (refine bE F F ?_;(refine al F ?_);refine jK (aa 10 15) ?_;refine jA 4 F ?_;(refine ac F F F cx_pt F ?_);refine jK (aa 10 31) ?_;refine jA 5 F ?_;(refine cY F F F cx_vl F ?_;rintro _ G1 _ hle ⟨u1,c1,t1,b1,rfl,hrep,rfl,hP⟩;dsimp only [zA,fA];skip);refine jK (aa 10 63) ?_;refine jA 6 F ?_;(refine jF fun _=>?_);refine jK (aa 10 127) ?_;refine jA 7 F ?_;((refine ci F F F F F F F F F ?_ fun _ _=>?_;focus omega));refine jK (aa 10 255) ?_;refine jW 1 [8] (aa 10 511) ?_;refine jA 9 F ?_;(refine jD F F F ?_);refine jK (aa 10 1023) ?_;refine jQ ?_));rotate_left 1;(focus (refine bE F F ?_;(refine ac F F F cx_pt F ?_);refine jK (aa 10 29) ?_;refine cX [1,5] kR dC ⟨?_,?_,trivial⟩;(focus (refine bE F F ?_;(refine al F ?_);refine jK (aa 10 31) ?_;refine jA 5 F ?_;(refine cY F F F cx_vl F ?_;rintro _ G1 _ hle ⟨u1,c1,t1,b1,rfl,hrep,rfl,hP⟩;dsimp only [zA,fA];skip);refine jK (aa 10 63) ?_;refine jA 6 F ?_;(refine jF fun _=>?_);refine jK (aa 10 127) ?_;refine jA 7 F ?_;((refine ci F F F F F F F F F ?_ fun _ _=>?_;focus omega));refine jK (aa 10 255) ?_;refine jW 1 [8] (aa 10 511) ?_;refine jA 9 F ?_;(refine jD F F F ?_);refine jK (aa 10 1023) ?_;refine jQ ?_));rotate_left 1;(focus (refine bE F F ?_;(refine cY F F F cx_vl F ?_;rintro _ G1 _ hle ⟨u1,c1,t1,b1,rfl,hrep,rfl,hP⟩;dsimp only [zA,fA];skip);refine jK (aa 10 61) ?_;refine cX [1,6] kR dC ⟨?_,?_,trivial⟩;(focus (refine bE F F ?_;(refine al F ?_);refine jK (aa 10 63) ?_;refine jA 6 F ?_;(refine jF fun _=>?_);refine jK (aa 10 127) ?_;refine jA 7 F ?_;((refine ci F F F F F F F F F ?_ fun _ _=>?_;focus omega));refine jK (aa 10 255) ?_;refine jW 1 [8] (aa 10 511) ?_;refine jA 9 F ?_;(refine jD F F F ?_);refine jK (aa 10 1023) ?_;refine jQ ?_));rotate_left 1;(focus (refine bE F F ?_;(refine jF fun _=>?_);refine jK (aa 10 125) ?_;refine jA 1 F ?_;(refine al F ?_);refine jK (aa 10 127) ?_;refine jA 7 F ?_;((refine ci F F F F F F F F F ?_ fun _ _=>?_;focus omega));refine jK (aa 10 255) ?_;refine jW 1 [8] (aa 10 511) ?_;refine jA 9 F ?_;(refine jD F F F ?_);refine jK (aa 10 1023) ?_;refine jQ ?_));rotate_left 1));rotate_left 2));rotate_left 3)
  all_goals
   rename_i y1 yc
   have hrow : ax bG cs ++ [U8 (c1.what : Nat),S c1.text,I c1.tag,c1.sl] = ax bG (cs ++ [c1]):=(b5 bG cs c1).symm
   have hr2 : V.reps G1 (vs ++ [u1]) (cs ++ [c1]):=iV hrep (cd hle hreps)
   have hvl : (vs ++ [u1]).length = vs.length + 1:=by simp
   have hgl:=hgq.trans hle
   obtain ⟨hQ1,hQ2,hQ3⟩:=lf hP
   rw [hrow]
   have hm2 : m - (vs ++ [u1]).length = m':=by rw [hvl];omega
   have hno1 : b1 = true → bO (rb (ah qs) n k) m q [] = none:=fun h=>by rw [hit,pz (hQ3 h)]
   have hyes1 : b1 = false → bO (rb (ah qs) n k) m q [] = bO (rb (ah qs) n k) (m - (vs ++ [u1]).length) t1 (vs ++ [u1]):=fun h2=>by rw [hit,mZ (hQ2 h2).1,hm2]
   repeat' (refine jM ?_)
   refine Nx.re (d:=7) (v':=I ((vs ++ [u1]).length : Nat)) F (congrArg (Value.int .i64) (by rw [hvl];omega)) ?_
   exact a7 (vs ++ [u1],cs ++ [c1],some ⟨y1,0,none⟩,yc,t1,b1,G1) ⟨⟨hr2,hgl⟩,hyes1,hno1,by dsimp only;omega,by dsimp only;omega⟩ (by dsimp only;omega) tU rfl (by rw [hvl];repeat (first | exact List.Sublist.refl _ | apply List.Sublist.cons_cons | apply List.Sublist.cons))
end Go.E
