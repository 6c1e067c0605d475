/- Contracts and plain laws that the statement rests on, part 8. Conditions: as each says. -/
import Derived.Test.YtlkjjgmfhafnaabGreatDoorQ7
set_option linter.unusedVariables false
set_option linter.unusedSimpArgs false
namespace Go.E
set_option maxRecDepth 20000
set_option maxHeartbeats 2000000
open Go.Proofs
variable {G : Gh}
abbrev nP : TypeId:=110
abbrev xE : TypeId:=100
abbrev xH : TypeId:=3
def pA (u : Value) (vs : List bS) (k : ac8) (deep cp : Int) (ct : Nat) : Prop:=∀ (G : Gh) (r : Nat) (code : Value) (p : Int) (l : ac8),SchR G u vs → be G code 1 l.length (bw l) → 0 ≤ p ∧ p + cp ≤ 600000000000 →
 dq ac7 105 [Pt r 0,u,S k,I deep] G [dE r code p cV] (fun v G' L'=>∃ w b q,v = Pt b 0 ∧ RepR G' (ag vs) w k b ∧ w.tot ≤ ct ∧ 1 ≤ w.out.length ∧ L' = [dE r code q cV] ∧ p ≤ q ∧ q ≤ p + cp)
theorem r4 {u : Value} {vs : List bS} {k : ac8} {deep cp : Int} {ct : Nat} (hD : pA u vs (64 :: k) deep cp ct) (hkl : k.length ≤ 1000) : eC u vs (64 :: k) deep cp ct:=by
 intro G r code p l hR hs hp
 have hkd0 : bt (64 :: k) (Int.toNat 0) = 64:=bi 64 k
 have hkl2 : (64 :: k).length = k.length + 1:=rfl
 have cx_dt:=fun {p : Int} (hp : 0 ≤ p ∧ p + cp ≤ 600000000000)=>hD G r code p l hR hs hp
 refine bL [(0,_),(1,_),(2,_),(3,_)] Tryz.func63 kR Tryz.ntmps63 F F tU fun B hB hW=>?_
 repeat' (first | refine jM ?_ | (refine jo ?_;first | refine jV (al F F) ?_ | refine jO fun _=>?_ | (refine cI F F F (cx_dt ‹_›) F ?_;rintro _ G1 _ hle ⟨w1,b1,q1,rfl,hrep,htot,hone,rfl,hq1,hq2⟩;dsimp only [zA,fA];skip)) | refine ad F F ?_)
 exact aP (vs:=[_]) F ⟨F,trivial⟩ F sB ⟨hle,w1,b1,q1,F,hrep,htot,hone,F,hq1,hq2⟩
section
variable {u : Value} {vs : List bS} {kd nm : ac8} {fs : List Fld} {a : Option Addr} {ca : Nat} {deep cp : Int} {ct : Nat}
theorem vX (hr : dX vs kd = some ((a,ca),⟨69,nm,fs⟩)) (hvl : vs.length ≤ 1000000) (hk : d1 kd = true) (hkl : kd.length ≤ 1000) (h0 : 0 < fs.length) (h8 : fs.length ≤ 8) (hw : SchW (ag vs)) : pA u vs kd deep 10 300:=by
 intro G r code p l hR hs hp
 have href:=dS vs kd
 rw [hr] at href
 have cx_rf:=gI (G:=G) (k:=kd) hR hvl hk oM
 rw [hr] at cx_rf
 have htm:=cj href.symm
 obtain ⟨bf,of,cf,ef,hsf⟩:=(hR.fl _ (eF hr)).expl h0
 simp only [gn,Value.slice.injEq] at ef
 obtain ⟨rfl,-,rfl⟩:=ef
 dsimp only at hsf
 have cx_rf : an ac7 141 [u,S kd] G (· = Tu [Ag [U8 (69 : Nat),S nm,.slice (some ⟨bf,of,none⟩) fs.length ca],Bo true]):=cx_rf
 refine bL [(0,_),(1,_),(2,_),(3,_)] Tryz.func105 kR Tryz.ntmps105 F F tU fun B hB hW=>?_
 repeat' (first | refine jR ?_ | (refine jo ?_;first | refine jL fun _=>?_ | refine jC F F F ?_ | refine ah F ?_ | refine jF fun _=>?_ | refine jV (cX F F (by (repeat (first | exact BL.nil | apply BL.lit rfl));done)) ?_ | refine jV (al F F) ?_ | refine jO fun _=>?_ | refine ab F F F cx_rf F ?_) | refine ac F F ?_)
 rename_i y9 _ y11
 (refine aj (am (id:=5) [.blk y9 (.cells (List.toArray [U8 (69 : Nat),S nm,.slice (some ⟨bf,of,none⟩) fs.length ca]) nP (0,0))] (by intro y hy;simp only [List.mem_cons,List.not_mem_nil,or_false] at hy ⊢;simp [hy]) ai ?_);refine jW 11 [0,1,3,4] (aa 15 27) ?_;(refine jG (aa 15 31) 2 F (aq F F F) ?_);(refine jG (aa 15 63) 5 F (aq F F F) ?_);(refine jG (aa 15 127) 6 F (av F) ?_);refine jA 7 F ?_;((refine af F F F (ci ?_ (by (repeat (assumption));done)) rfl ?_;(focus omega);rintro _ _ ⟨k,rfl,rfl,hk0,hk1⟩;dsimp only [zA,fA]));refine jK (aa 15 255) ?_;((refine jG (aa 15 511) 8 F (aN F F ?_) ?_;focus omega));refine jW 5 [9] (aa 15 1023) ?_;((refine jG (aa 15 2047) 10 F (bO F F aS ?_ F F) ?_;focus omega));refine jA 11 F ?_;(refine jF fun _=>?_);refine jK (aa 15 4095) ?_;refine jW 1 [12,13] (aa 15 16383) ?_;refine jA 14 F ?_;(refine jD F F F ?_);refine jK (aa 15 32767) ?_;refine jQ ?_)
 all_goals repeat' (refine jR ?_)
 all_goals
  rename_i y1
  refine Nx.sealC (b:=y1) fun G2 hG2 hsy=>?_
  refine Nx.sealC (b:=y11) fun G3 hG3 hsg=>?_
  have hdm : ae fs k.toNat ∈ fs:=bP oM
  exact aP (vs:=[_]) F ⟨F,trivial⟩ F sB ⟨hG2.trans hG3,.nd 69 [] (ae fs k.toNat).tag [],y11,_,F,.enm kd y11 y1 ⟨69,nm,fs⟩ (ae fs k.toNat) ⟨href.symm,F⟩ hdm hsg (hsy.mono hG3),by simp [b6,V.tots],by rw [V.out];simp [dp],rfl,oM,oM⟩
theorem vW (hr : dX vs kd = some ((a,ca),⟨85,nm,fs⟩)) (hvl : vs.length ≤ 1000000) (hk : d1 kd = true) (hkl : kd.length ≤ 1000) (h0 : 0 < fs.length) (h8 : fs.length ≤ 8) (hw : SchW (ag vs)) (hcp : 0 ≤ cp ∧ cp ≤ 100000000) (hct : ct ≤ 100000000)
  (hD : ∀ d ∈ fs,(0 < deep ∨ d = ae fs 0) → eC u vs d.kind (deep - 1) cp ct) (hd : -1000 ≤ deep ∧ deep ≤ 1000) : pA u vs kd deep (cp + 10) (ct + 20):=by
 intro G r code p l hR hs hp
 have href:=dS vs kd
 rw [hr] at href
 have cx_rf:=gI (G:=G) (k:=kd) hR hvl hk oM
 rw [hr] at cx_rf
 have htm:=cj href.symm
 obtain ⟨bf,of,cf,ef,hsf⟩:=(hR.fl _ (eF hr)).expl h0
 simp only [gn,Value.slice.injEq] at ef
 obtain ⟨rfl,-,rfl⟩:=ef
 dsimp only at hsf
 have cx_rf : an ac7 141 [u,S kd] G (· = Tu [Ag [U8 (85 : Nat),S nm,.slice (some ⟨bf,of,none⟩) fs.length ca],Bo true]):=cx_rf
 refine bL [(0,_),(1,_),(2,_),(3,_)] Tryz.func105 kR Tryz.ntmps105 F F tU fun B hB hW=>?_
 repeat' (first | refine jM ?_ | (refine jo ?_;first | refine jL fun _=>?_ | refine jD F F F ?_ | refine jC F F F ?_ | refine ah F ?_ | (refine jV (cM F F aS ?_) ?_;focus omega) | refine jF fun _=>?_ | refine jV (cX F F (by (repeat (first | exact BL.nil | apply BL.lit rfl));done)) ?_ | refine jV (al F F) ?_ | refine jO fun _=>?_ | refine jV (aA F F oM) ?_ | refine ab F F F cx_rf F ?_) | refine ac F F ?_ | refine ad F F ?_ | refine cB F (fun _=>?_) (fun _=>?_))
 ·rename_i y9 _ y11 y12 hd0
  (refine aj (am (id:=10) [.blk y9 (.cells (List.toArray [U8 (85 : Nat),S nm,.slice (some ⟨bf,of,none⟩) fs.length ca]) nP (0,0))] (by intro y hy;simp only [List.mem_cons,List.not_mem_nil,or_false] at hy ⊢;simp [hy]) ai ?_);refine jW 7 [0,2,3] (aa 10 13) ?_;(refine jG (aa 10 15) 1 F (aq F F F) ?_);(refine jG (aa 10 31) 4 F (aq F F F) ?_);(refine jG (aa 10 63) 5 F (av F) ?_);refine jA 6 F ?_;((refine af F F F (ci ?_ (by (repeat (assumption));done)) rfl ?_;(focus omega);rintro _ _ ⟨k,rfl,rfl,hk0,hk1⟩;dsimp only [zA,fA]));refine jK (aa 10 127) ?_;((refine jG (aa 10 255) 7 F (aN F F ?_) ?_;focus omega));((refine jG (aa 10 511) 8 F (cM F F aS ?_) ?_;focus omega));refine jA 9 F ?_;(refine jC F F F ?_);refine jK (aa 10 1023) ?_;refine jQ ?_)
  all_goals have hdm : ae fs k.toNat ∈ fs:=bP oM
  all_goals have cx_dv:=fun {p : Int} (hp : 0 ≤ p ∧ p + cp ≤ 600000000000)=>hD (ae fs k.toNat) hdm (.inl hd0) G r code p l hR hs hp
  all_goals repeat' (first | refine jM ?_ | (refine jo ?_;first | refine jD F F F ?_ | refine ah F ?_ | refine jF fun _=>?_ | (refine cI F F F (cx_dv oM) F ?_;rintro _ G1 _ hle ⟨w1,b1,q1,rfl,hrep,htot,hone,rfl,hq1,hq2⟩;dsimp only [zA,fA];skip)))
  all_goals
   rename_i y1 y2
   refine Nx.sealC (b:=y1) fun G2 hG2 hs1=>?_
   refine Nx.sealC (b:=y2) fun G3 hG3 hs2=>?_
   refine Nx.sealC (b:=y11) fun G4 hG4 hsg=>?_
   exact aP (vs:=[_]) F ⟨F,trivial⟩ F sB ⟨((hle.trans hG2).trans hG3).trans hG4,.nd 85 [] (ae fs k.toNat).tag [w1],y11,_,F,.uni kd y11 y1 y2 b1 1 ⟨85,nm,fs⟩ (ae fs k.toNat) w1 (Nat.le_refl _) ⟨href.symm,F⟩ hdm hsg (hs1.mono (hG3.trans hG4)) (hs2.mono hG4) (hrep.mono ((hG2.trans hG3).trans hG4)),by simp only [b6,V.tots,List.length_nil];omega,by rw [V.out];simp [dp],rfl,oM,oM⟩
 ·have cx_dv:=fun {p : Int} (hp : 0 ≤ p ∧ p + cp ≤ 600000000000)=>hD (ae fs 0) (bP h0) (.inr rfl) G r code p l hR hs hp
  repeat' (first | refine jR ?_ | (refine jo ?_;first | refine jD F F F ?_ | refine jF fun _=>?_ | (refine cI F F F (cx_dv oM) F ?_;rintro _ G1 _ hle ⟨w1,b1,q1,rfl,hrep,htot,hone,rfl,hq1,hq2⟩;dsimp only [zA,fA];skip)))
  all_goals
   rename_i y9 _ y11 y12 _ y1 y2
   refine Nx.sealC (b:=y1) fun G2 hG2 hs1=>?_
   refine Nx.sealC (b:=y2) fun G3 hG3 hs2=>?_
   refine Nx.sealC (b:=y11) fun G4 hG4 hsg=>?_
   exact aP (vs:=[_]) F ⟨F,trivial⟩ F sB ⟨((hle.trans hG2).trans hG3).trans hG4,.nd 85 [] (ae fs 0).tag [w1],y11,_,F,.uni kd y11 y1 y2 b1 1 ⟨85,nm,fs⟩ (ae fs 0) w1 (Nat.le_refl _) ⟨href.symm,F⟩ (bP h0) hsg (hs1.mono (hG3.trans hG4)) (hs2.mono hG4) (hrep.mono ((hG2.trans hG3).trans hG4)),by simp only [b6,V.tots,List.length_nil];omega,by rw [V.out];simp [dp],rfl,oM,oM⟩
theorem y7 (hr : dX vs kd = some ((a,ca),⟨82,nm,fs⟩)) (hvl : vs.length ≤ 1000000) (hk : d1 kd = true) (hkl : kd.length ≤ 1000) (h8 : fs.length ≤ 8) (hd : -1000 ≤ deep ∧ deep ≤ 0) : pA u vs kd deep 10 100:=by
 intro G r code p l hR hs hp
 have href:=dS vs kd
 rw [hr] at href
 have cx_rf:=gI (G:=G) (k:=kd) hR hvl hk oM
 rw [hr] at cx_rf
 have cx_rf : an ac7 141 [u,S kd] G (· = Tu [Ag [U8 (82 : Nat),S nm,.slice a fs.length ca],Bo true]):=cx_rf
 refine bL [(0,_),(1,_),(2,_),(3,_)] Tryz.func105 kR Tryz.ntmps105 F F tU fun B hB hW=>?_
 repeat' (first | refine jR ?_ | (refine jo ?_;first | refine jL fun _=>?_ | refine jC F F F ?_ | refine ah F ?_ | refine jF fun _=>?_ | refine jV (cX F F (by (repeat (first | exact BL.nil | apply BL.lit rfl));done)) ?_ | refine jV (al F F) ?_ | refine jO fun _=>?_ | refine ab F F F cx_rf F ?_) | refine ad F F ?_)
 rename_i y9 _ y11
 refine aT (ι:=Unit) (fun i=>True) (fun i=>[(0,Pt r 0),(1,u),(2,S kd),(3,I deep),(9,Pt y9 0),(11,Pt y11 0),(13,I 0)]) (fun _=>G) (fun i=>[.blk y11 (.cells (List.toArray [S kd,S [82],aI,aI]) qj (0,0)),.blk y9 (.cells (List.toArray [U8 (82 : Nat),S nm,.slice a fs.length ca]) nP (0,0)),dE r code p cV]) (fun i=>0) () ?_ tU F sB (fun i Hi=>?_)
 ·trivial
 by_cases h0 : 0 < fs.length
 all_goals repeat' (first | refine jR ?_ | (refine jo ?_;first | refine ah F ?_ | refine jV (av F) ?_ | refine aG F ?_ | refine ar F ?_) | refine ax F F (ay oM) ?_ | refine ak F F (aC oM) ?_ | (refine ad F (by first | rfl | (refine decide_eq_false ?_;(omega))) ?_))
 all_goals
  refine Nx.sealC (b:=y11) fun G2 hG2 hsg=>?_
  exact aP (vs:=[_]) F ⟨F,trivial⟩ F sB ⟨hG2,.nd 82 [] 0 [],y11,p,F,.recd kd y11 ⟨82,nm,fs⟩ [] [] none none 0 0 ⟨href.symm,F⟩ hsg ⟨F,.inl ⟨F,F⟩⟩ ⟨F,.inl ⟨F,F⟩⟩ F (fun i hi=>absurd hi (by simp)) (fun i hi=>absurd hi (by simp)),by simp [b6,V.tots],by rw [V.out];simp [dp],rfl,oM,oM⟩
theorem aaP (hr : dX vs kd = some ((a,ca),⟨82,nm,fs⟩)) (hvl : vs.length ≤ 1000000) (hk : d1 kd = true) (hkl : kd.length ≤ 1000) (h8 : fs.length ≤ 8) (hw : SchW (ag vs)) (hcp : 0 ≤ cp ∧ cp ≤ 100000000) (hct : ct ≤ 100000000)
  (hD : ∀ d ∈ fs,eC u vs d.kind (deep - 1) cp ct) (hd : 0 < deep ∧ deep ≤ 1000) : pA u vs kd deep (8 * cp + 20) (8 * ct + 200):=by
 intro G r code p l hR hs hp
 have href:=dS vs kd
 rw [hr] at href
 have cx_rf:=gI (G:=G) (k:=kd) hR hvl hk oM
 rw [hr] at cx_rf
 have htm:=cj href.symm
 have cx_rf : an ac7 141 [u,S kd] G (· = Tu [Ag [U8 (82 : Nat),S nm,.slice a fs.length ca],Bo true]):=cx_rf
 refine bL [(0,_),(1,_),(2,_),(3,_)] Tryz.func105 kR Tryz.ntmps105 F F tU fun B hB hW=>?_
 repeat' (first | refine jR ?_ | (refine jo ?_;first | refine jL fun _=>?_ | refine jC F F F ?_ | refine ah F ?_ | refine jF fun _=>?_ | refine jV (cX F F (by (repeat (first | exact BL.nil | apply BL.lit rfl));done)) ?_ | refine jV (al F F) ?_ | refine jO fun _=>?_ | refine ab F F F cx_rf F ?_) | refine ad F F ?_)
 rename_i y9 _ y11
 refine Nx.addNil xH 1 (Nx.addNil xE 1 ?_)
 refine Nx.perm (((List.perm_append_comm (l₁:=[_,_,_]) (l₂:=[_])).cons _).cons _) ?_
 dsimp only [zA,fA]
 refine aT (ι:=List (Fld × V) × List Nat × Option Addr × Nat × Option Addr × Nat × Nat × Int × Gh) (fun j=>((j.2.1.length = j.1.length ∧ (∀ i,i < j.1.length → (ae j.1 i).1 ∈ fs) ∧ ∀ i,i < j.1.length → RepR j.2.2.2.2.2.2.2.2 (ag vs) (ae j.1 i).2 (ae j.1 i).1.kind (ae j.2.1 i)) ∧ Gh.le G j.2.2.2.2.2.2.2.2) ∧ (j.1.length ≤ j.2.2.2.2.2.2.1 ∧ j.2.2.2.2.2.2.1 ≤ fs.length) ∧ V.tots (gA j.1) ≤ (ct + 20) * j.1.length ∧ p ≤ j.2.2.2.2.2.2.2.1 ∧ j.2.2.2.2.2.2.2.1 ≤ p + (cp + 1) * ((j.2.2.2.2.2.2.1 : Nat) : Int)) (fun j=>[(0,Pt r 0),(1,u),(2,S kd),(3,I deep),(9,Pt y9 0),(11,Pt y11 0),(13,I ((j.2.2.2.2.2.2.1 : Nat) : Int))]) (fun j=>j.2.2.2.2.2.2.2.2) (fun j=>[.acc (.slice j.2.2.2.2.1 j.1.length j.2.2.2.2.2.1) xE 1 j.1.length (aE eK j.2.1),.acc (.slice j.2.2.1 j.1.length j.2.2.2.1) xH 1 j.1.length (aE gu (j.1.map fun p=>p.1.tag)),dE r code j.2.2.2.2.2.2.2.1 cV,.blk y11 (.cells (List.toArray [S kd,S [82],.slice j.2.2.1 j.1.length j.2.2.2.1,.slice j.2.2.2.2.1 j.1.length j.2.2.2.2.2.1]) qj (0,0)),.blk y9 (.cells (List.toArray [U8 (82 : Nat),S nm,.slice a fs.length ca]) nP (0,0))]) (fun j=>fs.length - j.2.2.2.2.2.2.1) ([],[],none,0,none,0,0,p,G) ?_ tU F sB (fun j Hj=>?_)
 ·refine ⟨⟨⟨F,fun i hi=>absurd hi (by simp),fun i hi=>absurd hi (by simp)⟩,Gh.le.refl _⟩,?_,?_,?_,?_⟩
  ·exact ⟨Nat.le_refl _,Nat.zero_le _⟩
  ·simp [gA,V.tots]
  ·dsimp only;omega
  ·dsimp only;simp
 obtain ⟨gs,bs,a1,c1,a2,c2,i,q,Gq⟩:=j
 dsimp only at Hj ⊢
 obtain ⟨⟨⟨hbl,hfm,hreps⟩,hgq⟩,hil,htt,hq0,hq1⟩:=Hj
 have hcl : (cp + 1) * ((i : Nat) : Int) ≤ (cp + 1) * 8:=Int.mul_le_mul_of_nonneg_left oM oM
 have hcl0 : 0 ≤ (cp + 1) * ((i : Nat) : Int):=Int.mul_nonneg oM oM
 have htl : (ct + 20) * gs.length ≤ (ct + 20) * 8:=Nat.mul_le_mul_left _ oM
 by_cases hgo : i < fs.length
 ·have hcl3 : (cp + 1) * ((i : Nat) : Int) + (cp + 1) ≤ (cp + 1) * 8:=by
   have:=Int.mul_le_mul_of_nonneg_left (show ((i : Nat) : Int) + 1 ≤ 8 by omega) (show 0 ≤ cp + 1 by omega)
   rwa [Int.mul_add,Int.mul_one] at this
  obtain ⟨bf,of,cf,ef,hsf⟩:=(hR.fl _ (eF hr)).expl (by dsimp only;omega)
  simp only [gn,Value.slice.injEq] at ef
  obtain ⟨rfl,-,rfl⟩:=ef
  dsimp only at hsf
  have hdm : ae fs i ∈ fs:=bP hgo
  have hdk : aO (ag vs) (ae fs i).kind = true:=dT hw htm (by simp) hdm
  have cx_dv:=fun {p : Int} (hp : 0 ≤ p ∧ p + cp ≤ 600000000000)=>hD (ae fs i) hdm Gq r code p l (hR.mono hgq) (hs.mono hgq) hp
  have hsf:=hsf.mono hgq
  repeat' (first | refine jM ?_ | (refine jo ?_;first | refine ah F ?_ | (refine jV (bO F F aS ?_ F F) ?_;focus omega) | refine jV (av F) ?_ | refine jV (aA F F oM) ?_ | refine aG F ?_ | (refine cI F F F (cx_dv oM) F ?_;rintro _ G1 _ hle ⟨w1,b1,q1,rfl,hrep,htot,hone,rfl,hq1,hq2⟩;dsimp only [zA,fA];(try have hsf:=hsf.mono hle))) | refine ax F F (ay oM) ?_ | refine ac F (ay oM) ?_)
  have hgl:=hgq.trans hle
  have cx_pk3 : ∀ {p : Int},0 ≤ p ∧ p ≤ 1000000000000 → bM ac7 28 [Pt r 0,I 3] G1 [dE r code p cV] (fun v L'=>L' = [dE r code (p + 1) cV] ∧ (v = I 0 ∨ ∃ k,v = I k ∧ 0 < k)):=fun {p} hp=>(ci (b:=r) (p:=p) (n:=3) ⟨hp.1,hp.2,by decide⟩ (hs.mono hgl)).mono fun v G' L' ⟨h1,k,h2,h3,h4,h5⟩=>⟨h1,h3,by subst h2;rcases (show k = 0 ∨ 0 < k by omega) with rfl | h;exact .inl F;exact .inr ⟨k,F,h⟩⟩
  have cx_out:=iy hw hrep oM
  have cx_sta:=om (f:=ae fs i) (hR.mono hgl) hw hdk
  have hms : (cp + 1) * ((i + 1 : Nat) : Int) = (cp + 1) * ((i : Nat) : Int) + (cp + 1):=by rw [Int.natCast_succ,Int.mul_add,Int.mul_one]
  by_cases heq : w1.out = cW (ag vs) (ae fs i)
  ·(refine aj (am (id:=18) [.blk y9 (.cells (List.toArray [U8 (82 : Nat),S nm,.slice (some ⟨bf,of,none⟩) fs.length ca]) nP (0,0))] (by intro y hy;simp only [List.mem_cons,List.not_mem_nil,or_false] at hy ⊢;simp [hy]) ai ?_);refine jW 14 [0] (aa 15 1) ?_;refine bA [1] kR dC ⟨?_,trivial⟩;(refine aM F F ?_;(refine af F F F (cx_pk3 oM) F ?_;rintro _ _ ⟨rfl,rfl | ⟨k,rfl,hk0⟩⟩ <;> dsimp only [zA,fA])) <;> (refine jS (aa 15 3) ?_;refine jT 11 [2,3] (aa 15 15) ?_;(try (first | (refine Nx.re (d:=107) (v':=Bo true) F (congrArg Value.bool (ay ‹_›)) ?_) | refine Nx.re (d:=107) (v':=Bo false) F (congrArg Value.bool F) ?_));refine jT 7 [4,6,7,9] (aa 15 735) ?_;(first | refine jG (aa 15 991) 8 F (aq F F F) ?_ | refine jN (aa 15 991) 8 F ?_);(first | refine jG (aa 15 2015) 10 F (aA F F oM) ?_ | refine jN (aa 15 2015) 10 F ?_);(first | (refine jG (aa 15 4063) 11 F (cM F F aS ?_) ?_;focus omega) | refine jN (aa 15 4063) 11 F ?_);(first | refine jN (aa 15 4095) 5 F ?_ | (refine jA 5 F ?_;(refine ab F F F cx_out F ?_);refine jS (aa 15 4095) ?_));(first | refine jN (aa 15 8191) 12 F ?_ | (refine jA 12 F ?_;(refine ab F F F cx_sta F ?_);refine jS (aa 15 8191) ?_));refine jT 1 [13] (aa 15 16383) ?_;(first | refine jG (aa 15 32767) 14 F (a6 F F F) ?_ | refine jG (aa 15 32767) 14 F (aJ F F F) ?_);refine jQ ?_))
   all_goals repeat' (first | refine jM ?_ | (refine ad F ?_ ?_;(focus ((first | rfl | (simp [*];done));done))))
   all_goals
    refine Nx.perm ((List.Perm.swap _ _ _).trans ((List.Perm.swap _ _ _).cons _)) ?_
    exact aY (gs,bs,a1,c1,a2,c2,i + 1,q1 + 1,G1) ⟨⟨⟨hbl,hfm,fun i hi=>(hreps i hi).mono hle⟩,hgl⟩,⟨by dsimp only;omega,by dsimp only;omega⟩,htt,by dsimp only;omega,by dsimp only;rw [hms];omega⟩ (by dsimp only;omega) tU rfl aZ
  ·(refine aj (am (id:=18) [.blk y9 (.cells (List.toArray [U8 (82 : Nat),S nm,.slice (some ⟨bf,of,none⟩) fs.length ca]) nP (0,0))] (by intro y hy;simp only [List.mem_cons,List.not_mem_nil,or_false] at hy ⊢;simp [hy]) ai ?_);refine jW 14 [0] (aa 15 1) ?_;refine bA [1] kR dC ⟨?_,trivial⟩;(refine aM F F ?_;(refine af F F F (cx_pk3 oM) F ?_;rintro _ _ ⟨rfl,rfl | ⟨k,rfl,hk0⟩⟩ <;> dsimp only [zA,fA])) <;> (refine jS (aa 15 3) ?_;refine jT 11 [2,3] (aa 15 15) ?_;(try (first | (refine Nx.re (d:=107) (v':=Bo true) F (congrArg Value.bool (ay ‹_›)) ?_) | refine Nx.re (d:=107) (v':=Bo false) F (congrArg Value.bool F) ?_));refine jT 7 [4,6,7,9] (aa 15 735) ?_;(first | refine jG (aa 15 991) 8 F (aq F F F) ?_ | refine jN (aa 15 991) 8 F ?_);(first | refine jG (aa 15 2015) 10 F (aA F F oM) ?_ | refine jN (aa 15 2015) 10 F ?_);(first | (refine jG (aa 15 4063) 11 F (cM F F aS ?_) ?_;focus omega) | refine jN (aa 15 4063) 11 F ?_);(first | refine jN (aa 15 4095) 5 F ?_ | (refine jA 5 F ?_;(refine ab F F F cx_out F ?_);refine jS (aa 15 4095) ?_));(first | refine jN (aa 15 8191) 12 F ?_ | (refine jA 12 F ?_;(refine ab F F F cx_sta F ?_);refine jS (aa 15 8191) ?_));refine jT 1 [13] (aa 15 16383) ?_;(first | refine jG (aa 15 32767) 14 F (a6 F F F) ?_ | refine jG (aa 15 32767) 14 F (aJ F F F) ?_);refine jQ ?_))
   ·repeat' (first | refine jM ?_ | refine ad F F ?_)
    refine Nx.perm ((List.Perm.swap _ _ _).trans ((List.Perm.swap _ _ _).cons _)) ?_
    exact aY (gs,bs,a1,c1,a2,c2,i + 1,q1 + 1,G1) ⟨⟨⟨hbl,hfm,fun i hi=>(hreps i hi).mono hle⟩,hgl⟩,⟨by dsimp only;omega,by dsimp only;omega⟩,htt,by dsimp only;omega,by dsimp only;rw [hms];omega⟩ (by dsimp only;omega) tU rfl aZ
   ·repeat' (first | refine jR ?_ | refine ac F (ay ‹_›) ?_)
    have hl' : (gs ++ [(ae fs i,w1)]).length = gs.length + 1:=by simp
    have hbl' : (bs ++ [b1]).length = (gs ++ [(ae fs i,w1)]).length:=by simp [hbl]
    have hnth : ∀ j,j < (gs ++ [(ae fs i,w1)]).length → (j < gs.length ∧ ae (gs ++ [(ae fs i,w1)]) j = ae gs j ∧ ae (bs ++ [b1]) j = ae bs j) ∨ (ae (gs ++ [(ae fs i,w1)]) j = (ae fs i,w1) ∧ ae (bs ++ [b1]) j = b1):=fun j hj=>by
     by_cases h1 : j < gs.length
     ·exact .inl ⟨h1,by rw [aW hj,aW h1,List.getElem_append_left h1],by rw [aW oM,aW oM,List.getElem_append_left oM]⟩
     ·have h2 : j = gs.length:=oM
      exact .inr ⟨by rw [aW hj];simp [h2],by rw [aW oM];simp [h2,hbl]⟩
    have hfm' : ∀ j,j < (gs ++ [(ae fs i,w1)]).length → (ae (gs ++ [(ae fs i,w1)]) j).1 ∈ fs:=fun j hj=>by
     rcases hnth j hj with ⟨h1,h2,_⟩ | ⟨h2,_⟩
     ·rw [h2];exact hfm j h1
     ·rw [h2];exact hdm
    have hreps' : ∀ j,j < (gs ++ [(ae fs i,w1)]).length → RepR G1 (ag vs) (ae (gs ++ [(ae fs i,w1)]) j).2 (ae (gs ++ [(ae fs i,w1)]) j).1.kind (ae (bs ++ [b1]) j):=fun j hj=>by
     rcases hnth j hj with ⟨h1,h2,h3⟩ | ⟨h2,h3⟩
     ·rw [h2,h3];exact (hreps j h1).mono hle
     ·rw [h2,h3];exact hrep
    have hrow1 : aE gu (gs.map fun p=>p.1.tag) ++ [I (ae fs i).tag] = aE gu ((gs ++ [(ae fs i,w1)]).map fun p=>p.1.tag):=by rw [List.map_append];exact (co gu _ (ae fs i).tag).symm
    have hrow2 : aE eK bs ++ [Pt b1 0] = aE eK (bs ++ [b1]):=(co eK bs b1).symm
    have hnd : V.tots (gA (gs ++ [(ae fs i,w1)])) = V.tots (gA gs) + (20 + w1.tot):=by simp [gA,eY,V.tots,b6]
    have hmt : (ct + 20) * (gs.length + 1) = (ct + 20) * gs.length + (ct + 20):=Nat.mul_succ _ _
    (refine aj (am (id:=19) [.blk y9 (.cells (List.toArray [U8 (82 : Nat),S nm,.slice (some ⟨bf,of,none⟩) fs.length ca]) nP (0,0))] (by intro y hy;simp only [List.mem_cons,List.not_mem_nil,or_false] at hy ⊢;simp [hy]) ai ?_);refine jW 10 [0,1,2,3,5,7] (aa 16 175) ?_;(refine jG (aa 16 239) 6 F (aq F F F) ?_);((refine jG (aa 16 495) 8 F (aA F F ?_) ?_;focus omega));refine jW 7 [9] (aa 16 1007) ?_;((refine jG (aa 16 2031) 10 F (bO F F aS ?_ F F) ?_;focus omega));refine bA [4,11] kR dC ⟨?_,?_,trivial⟩;(focus (refine aM F F ?_;(refine ah F ?_);refine jK (aa 16 2047) ?_;refine jA 11 F ?_;(refine jF fun _=>?_);refine jK (aa 16 4095) ?_;refine jA 12 F ?_;((refine bY F F F F F F F F F ?_ fun _ _=>?_;focus omega));refine jK (aa 16 8191) ?_;refine jW 1 [13,14] (aa 16 32767) ?_;refine jA 15 F ?_;(refine jD F F F ?_);refine jK (aa 16 65535) ?_;refine jQ ?_));rotate_left 1;(focus (refine aM F F ?_;(refine jF fun _=>?_);refine jK (aa 16 4079) ?_;refine jA 4 F ?_;(refine ah F ?_);refine jK (aa 16 4095) ?_;refine jA 12 F ?_;((refine bY F F F F F F F F F ?_ fun _ _=>?_;focus omega));refine jK (aa 16 8191) ?_;refine jW 1 [13,14] (aa 16 32767) ?_;refine jA 15 F ?_;(refine jD F F F ?_);refine jK (aa 16 65535) ?_;refine jQ ?_));rotate_left 1)
    all_goals repeat' (first | refine jM ?_ | (refine jo ?_;first | refine jD F F F ?_ | refine ah F ?_ | refine jF fun _=>?_ | refine bY F F F F F F F F F oM fun _ _=>?_))
    all_goals
     rename_i _ y1 yc1 _ y2 yc2
     rw [hrow1,hrow2]
     exact aY (gs ++ [(ae fs i,w1)],bs ++ [b1],some ⟨y1,0,none⟩,yc1,some ⟨y2,0,none⟩,yc2,i + 1,q1 + 1,G1) ⟨⟨⟨hbl',hfm',hreps'⟩,hgl⟩,⟨by dsimp only;rw [hl'];omega,by dsimp only;omega⟩,by dsimp only;rw [hl',hmt,hnd];omega,by dsimp only;omega,by dsimp only;rw [hms];omega⟩ (by dsimp only;omega) tU rfl (by rw [hl'];repeat (first | exact List.Sublist.refl _ | apply List.Sublist.cons_cons | apply List.Sublist.cons))
 ·repeat' (first | refine jR ?_ | (refine jo ?_;first | refine ah F ?_ | refine jV (av F) ?_ | refine ar F ?_) | refine ak F F (aC oM) ?_ | refine ad F F ?_)
  refine Nx.sealS (v:=.slice a2 gs.length c2) fun G2 hG2 hs1=>?_
  refine Nx.sealS (v:=.slice a1 gs.length c1) fun G3 hG3 hs2=>?_
  refine Nx.sealC (b:=y11) fun G4 hG4 hsg=>?_
  exact aP (vs:=[_]) F ⟨F,trivial⟩ F sB ⟨hgq.trans ((hG2.trans hG3).trans hG4),.nd 82 [] 0 (gA gs),y11,q,F,.recd kd y11 ⟨82,nm,fs⟩ gs bs a1 a2 c1 c2 ⟨href.symm,F⟩ hsg (hs2.mono hG4) (hs1.mono (hG3.trans hG4)) hbl hfm (fun i hi=>(hreps i hi).mono ((hG2.trans hG3).trans hG4)),by rw [b6];simp only [List.length_nil];omega,by rw [V.out];simp [dp],rfl,oM,oM⟩
end
theorem nW {ts : List Ty} {k : ac8} (h : aO ts k = true) : ∃ c r,k = c :: r:=by
 cases k with
 | nil=>unfold aO bB d1 at h;simp at h
 | cons c r=>exact ⟨c,r,F⟩
def nE : Nat → Int
 | 0=>105
 | d + 1=>8 * nE d + 40
def mG : Nat → Nat
 | 0=>480
 | d + 1=>8 * mG d + 400
theorem v1 : ∀ d,d ≤ 4 → 0 ≤ nE d ∧ nE d ≤ 500000 ∧ mG d ≤ 3000000 ∧ 105 ≤ nE d ∧ 480 ≤ mG d:=by decide
theorem abX {u : Value} {vs : List bS} (hw : SchW (ag vs)) (hu : u.oneCell' = true) : ∀ (n : Nat) {k : ac8} {deep : Int},n ≤ 9 → deep ≤ 0 → (n : Int) - 900 ≤ deep → aO (ag vs) k = true → (∀ t,a7 (ag vs) k = some t → bV (ag vs) n t = true) → eC u vs k deep (15 + 10 * n) (300 + 20 * n):=by
 have hvl : vs.length ≤ 8:=by have:=hw.len;unfold ag at this;simpa using this
 intro n
 induction n with
 | zero =>
  intro k deep _ hd hd2 hk he
  obtain ⟨c,r,rfl⟩:=nW hk
  have hkk:=cT (db hk)
  simp only [List.length_cons] at hkk
  by_cases h1 : c.toNat = 91
  ·obtain rfl:=bm h1 dC
   exact (pX (cp:=0) (ct:=0) oM oM (fun h=>absurd h oM) hu oM oM).le oM oM
  by_cases h2 : c.toNat = 63
  ·obtain rfl:=bm h2 dC
   exact (r6 (cp:=0) (ct:=0) oM oM (fun h=>absurd h oM) hu oM oM).le oM oM
  have h91 : ¬ (c.toNat = 91 ∨ c.toNat = 63):=fun h=>by rcases h with h | h <;> omega
  cases hr : a7 (ag vs) (c :: r) with
  | some t=>have:=he t hr;simp [bV] at this
  | none =>
   rcases eG hk h91 hr with e1 | e1 | e1
   ·rw [e1];exact r7.le oM oM
   ·rw [e1];exact r5.le oM oM
   ·rw [e1];exact pY.le oM oM
 | succ n ih =>
  intro k deep hn hd hd2 hk he
  obtain ⟨c,r,rfl⟩:=nW hk
  have hkk:=cT (db hk)
  have hkk1:=hkk.1
  simp only [List.length_cons] at hkk
  by_cases h1 : c.toNat = 91
  ·obtain rfl:=bm h1 dC
   exact (pX (cp:=0) (ct:=0) oM oM (fun h=>absurd h oM) hu oM oM).le oM oM
  by_cases h2 : c.toNat = 63
  ·obtain rfl:=bm h2 dC
   exact (r6 (cp:=0) (ct:=0) oM oM (fun h=>absurd h oM) hu oM oM).le oM oM
  have h91 : ¬ (c.toNat = 91 ∨ c.toNat = 63):=fun h=>by rcases h with h | h <;> omega
  cases hr : a7 (ag vs) (c :: r) with
  | none =>
   rcases eG hk h91 hr with e1 | e1 | e1
   ·rw [e1];exact r7.le oM oM
   ·rw [e1];exact r5.le oM oM
   ·rw [e1];exact pY.le oM oM
  | some t =>
   obtain ⟨r',e⟩:=fp hr
   simp only [List.cons.injEq] at e
   obtain ⟨rfl,rfl⟩:=e
   have href:=dS vs (64 :: r)
   rw [hr] at href
   rcases hrv : dX vs (64 :: r) with _ | ⟨⟨a,ca⟩,⟨so,nm,fs⟩⟩
   ·rw [hrv] at href;cases href
   rw [hrv] at href
   obtain rfl:=(Option.some.inj href).symm
   dsimp only at hr he
   have hTW:=hw.ty _ (cj hr)
   have h8 : fs.length ≤ 8:=hTW.len
   refine r4 ?_ oM
   rcases hTW.sort with h3 | h3 | h3 <;> dsimp only at h3 <;> subst h3
   ·exact fun G r code p l g1 g2 g3=>((y7 hrv oM hkk1 (by simp only [List.length_cons];omega) h8 oM) G r code p l g1 g2 ⟨g3.1,oM⟩).mono fun _ _ _ ⟨h6,w,b,q,h7,h8,h9,h10,h11,h12,h13⟩=>⟨h6,w,b,q,h7,h8,oM,h10,h11,h12,oM⟩
   ·have h0 : 0 < fs.length:=List.length_pos_iff.2 (hTW.ne (by simp))
    refine fun G r code p l g1 g2 g3=>((vW (cp:=15 + 10 * n) (ct:=300 + 20 * n) hrv oM hkk1 (by simp only [List.length_cons];omega) h0 h8 hw oM oM (fun d hdm hc=>?_) oM) G r code p l g1 g2 ⟨g3.1,oM⟩).mono fun _ _ _ ⟨h6,w,b,q,h7,h8,h9,h10,h11,h12,h13⟩=>⟨h6,w,b,q,h7,h8,oM,h10,h11,h12,oM⟩
    rcases hc with hc | rfl
    ·omega
    refine ih oM oM oM (dT hw (cj hr) (by simp) hdm) fun t' ht'=>?_
    have:=he _ hr
    rw [bV,if_neg (by simp),ir] at this
    dsimp only at this
    rw [ht'] at this
    exact this
   ·have h0 : 0 < fs.length:=List.length_pos_iff.2 (hTW.ne (by simp))
    exact fun G r code p l g1 g2 g3=>((vX hrv oM hkk1 (by simp only [List.length_cons];omega) h0 h8 hw) G r code p l g1 g2 ⟨g3.1,oM⟩).mono fun _ _ _ ⟨h6,w,b,q,h7,h8,h9,h10,h11,h12,h13⟩=>⟨h6,w,b,q,h7,h8,oM,h10,h11,h12,oM⟩
theorem r9 {u : Value} {vs : List bS} (hw : SchW (ag vs)) (hu : u.oneCell' = true) : ∀ (m : Nat) {k : ac8} {deep : Int},m ≤ 4 → deep ≤ m → -800 ≤ deep → aO (ag vs) k = true → eC u vs k deep (nE m) (mG m):=by
 have hvl : vs.length ≤ 8:=by have:=hw.len;unfold ag at this;simpa using this
 have hz : ∀ {k : ac8} {deep : Int},deep ≤ 0 → -800 ≤ deep → aO (ag vs) k = true → eC u vs k deep 105 480:=fun {k deep} h1 h2 h3=>(abX hw hu ((ag vs).length + 1) (by have:=hw.len;omega) h1 (by have:=hw.len;omega) h3 (fun t ht=>pW hw t ht)).le (by have:=hw.len;omega) (by have:=hw.len;omega)
 intro m
 induction m with
 | zero=>intro k deep _ hd hd2 hk;exact hz hd hd2 hk
 | succ m ih =>
  intro k deep hm hd hd2 hk
  have hcm:=v1 m oM
  have e1 : nE (m + 1) = 8 * nE m + 40:=rfl
  have e2 : mG (m + 1) = 8 * mG m + 400:=rfl
  by_cases hd0 : deep ≤ 0
  ·exact (hz hd0 hd2 hk).le oM oM
  have hD : ∀ {k : ac8},aO (ag vs) k = true → eC u vs k (deep - 1) (nE m) (mG m):=fun {k} hk=>ih oM oM oM hk
  obtain ⟨c,r,rfl⟩:=nW hk
  have hkk:=cT (db hk)
  have hkk1:=hkk.1
  simp only [List.length_cons] at hkk
  by_cases h1 : c.toNat = 91
  ·obtain rfl:=bm h1 dC
   exact (pX oM oM (fun _=>hD (dz (.inl F) hk)) hu oM oM).le oM oM
  by_cases h2 : c.toNat = 63
  ·obtain rfl:=bm h2 dC
   exact (r6 oM oM (fun _=>hD (dz (.inr F) hk)) hu oM oM).le oM oM
  have h91 : ¬ (c.toNat = 91 ∨ c.toNat = 63):=fun h=>by rcases h with h | h <;> omega
  cases hr : a7 (ag vs) (c :: r) with
  | none =>
   rcases eG hk h91 hr with e1 | e1 | e1
   ·rw [e1];exact r7.le oM oM
   ·rw [e1];exact r5.le oM oM
   ·rw [e1];exact pY.le oM oM
  | some t =>
   obtain ⟨r',e⟩:=fp hr
   simp only [List.cons.injEq] at e
   obtain ⟨rfl,rfl⟩:=e
   have href:=dS vs (64 :: r)
   rw [hr] at href
   rcases hrv : dX vs (64 :: r) with _ | ⟨⟨a,ca⟩,⟨so,nm,fs⟩⟩
   ·rw [hrv] at href;cases href
   rw [hrv] at href
   obtain rfl:=(Option.some.inj href).symm
   dsimp only at hr
   have hTW:=hw.ty _ (cj hr)
   have h8 : fs.length ≤ 8:=hTW.len
   refine r4 ?_ oM
   rcases hTW.sort with h3 | h3 | h3 <;> dsimp only at h3 <;> subst h3
   ·exact fun G r code p l g1 g2 g3=>((aaP hrv oM hkk1 (by simp only [List.length_cons];omega) h8 hw oM oM (fun d hdm=>hD (dT hw (cj hr) (by simp) hdm)) oM) G r code p l g1 g2 ⟨g3.1,oM⟩).mono fun _ _ _ ⟨h6,w,b,q,h7,h8,h9,h10,h11,h12,h13⟩=>⟨h6,w,b,q,h7,h8,oM,h10,h11,h12,oM⟩
   ·have h0 : 0 < fs.length:=List.length_pos_iff.2 (hTW.ne (by simp))
    exact fun G r code p l g1 g2 g3=>((vW hrv oM hkk1 (by simp only [List.length_cons];omega) h0 h8 hw oM oM (fun d hdm _=>hD (dT hw (cj hr) (by simp) hdm)) oM) G r code p l g1 g2 ⟨g3.1,oM⟩).mono fun _ _ _ ⟨h6,w,b,q,h7,h8,h9,h10,h11,h12,h13⟩=>⟨h6,w,b,q,h7,h8,oM,h10,h11,h12,oM⟩
   ·have h0 : 0 < fs.length:=List.length_pos_iff.2 (hTW.ne (by simp))
    exact fun G r code p l g1 g2 g3=>((vX hrv oM hkk1 (by simp only [List.length_cons];omega) h0 h8 hw) G r code p l g1 g2 ⟨g3.1,oM⟩).mono fun _ _ _ ⟨h6,w,b,q,h7,h8,h9,h10,h11,h12,h13⟩=>⟨h6,w,b,q,h7,h8,oM,h10,h11,h12,oM⟩
theorem eR {r : Nat} {code : Value} {p : Int} {l s k : ac8} (hp : 0 ≤ p ∧ p ≤ 500000000000) (hs : be G code 1 l.length (bw l)) (hsl : s.length ≤ 10000000) (hkl : k.length ≤ 1048576) :
  bM ac7 30 [Pt r 0,S s,S k] G [dE r code p cV] (fun v L'=>∃ x q,v = S x ∧ x.length ≤ 20000 ∧ L' = [dE r code q cV] ∧ p ≤ q ∧ q ≤ p + 3000000):=by
 by_cases hk : bQ s k = true
 case neg =>
  have hk2 : bQ s k = false:=by simpa using hk
  have cx_lk1 : ∀ G,bn ac7 62 [S s,S k] G (fun v _=>∃ u,v = Tu [u,Bo false]):=fun G=>by
   refine (eh (G:=G) (s:=s) (k:=k) oM oM).mono ?_
   rintro v G' L' ⟨h1,h2,u,vs,rfl,_⟩
   exact ⟨h1,h2,u,by rw [hk2]⟩
  refine jB (Post:=fun v G' L'=>G' = G ∧ _) [(0,_),(1,_),(2,_)] Tryz.func30 Tryz.ntmps30 fun B hok hB hW=>?_
  repeat' (first | refine jR ?_ | (refine jo ?_;(refine aK F F F (cx_lk1 _) F ?_;rintro _ G hle ⟨u1,rfl⟩;skip)) | refine ac F F ?_)
  all_goals refine Nx.base hok hB ?_
  all_goals exact aP (vs:=[_]) F ⟨F,trivial⟩ F aZ ⟨F,_,_,F,by (simp only [List.length_append,List.length_cons,List.length_nil,List.length_take,List.length_drop];omega),rfl,oM,oM⟩
 obtain ⟨ts,hsc,hki,hw⟩:=ik hk
 have cx_lka : ∀ G,bn ac7 62 [S s,S k] G (fun v G'=>∃ a c vs,v = Tu [.slice a vs.length c,Bo true] ∧ SchR G' (.slice a vs.length c) vs ∧ ag vs = ts):=fun G=>by
  refine (eh (G:=G) (s:=s) (k:=k) oM oM).mono ?_
  rintro v G' L' ⟨h1,h2,u,vs,rfl,h4,_,h6⟩
  obtain ⟨_,⟨rfl,h0⟩ | ⟨b,o,cap,rfl,_,_⟩⟩:=h4.sl
  ·exact ⟨h1,h2,none,0,vs,by rw [hk,h0],by rw [h0];exact h4,h6 ts hsc hki⟩
  ·exact ⟨h1,h2,_,cap,vs,by rw [hk],h4,h6 ts hsc hki⟩
 refine jB (Post:=fun v G' L'=>G' = G ∧ _) [(0,_),(1,_),(2,_)] Tryz.func30 Tryz.ntmps30 fun B hok hB hW=>?_
 repeat' (first | refine jR ?_ | (refine jo ?_;(refine aK F F F (cx_lka _) F ?_;rintro _ G hle ⟨av1,cv1,vs1,rfl,hR1,hT1⟩;skip)) | refine ad F F ?_)
 subst hT1
 have hg0:=hle
 have hu1:=hR1.sl.one
 have cx_dv:=fun {p : Int} (hp : 0 ≤ p ∧ p + nE 4 ≤ 600000000000)=>r9 hw hu1 4 (k:=k) (deep:=4) oM oM oM hki G r code p l hR1 (hs.mono hle) hp
 have hc4 : nE 4 = 453480:=by decide
 have ht4 : mG 4 = 2200080:=by decide
 rw [hc4,ht4] at cx_dv
 repeat' ((refine jo ?_;(refine cI F F F (cx_dv oM) F ?_;rintro _ G1 _ hle ⟨w1,b1,q1,rfl,hrep,htot,hone,rfl,hq1,hq2⟩;dsimp only [zA,fA];skip)))
 have hg1:=hle
 have hob:=lh hw hrep
 unfold gO at hob
 have cx_out:=iy hw hrep oM
 repeat' (first | refine jR ?_ | (refine jo ?_;refine ab F F F cx_out F ?_))
 refine aT (ι:=ac8 × Int × Int × Gh) (fun j=>Gh.le G1 j.2.2.2 ∧ (0 ≤ j.2.1 ∧ j.2.1 ≤ 3) ∧ (1 ≤ j.1.length ∧ j.1.length ≤ 2 * mG (j.2.1.toNat + 1)) ∧ p ≤ j.2.2.1 ∧ j.2.2.1 ≤ p + 500000 * (4 - j.2.1)) (fun j=>[(0,Pt r 0),(2,S k),(7,.slice av1 vs1.length cv1),(9,S j.1),(10,I j.2.1)]) (fun j=>j.2.2.2) (fun j=>[dE r code j.2.2.1 cV]) (fun j=>j.2.1.toNat) (w1.out,3,q1,G1) ?_ tU F aZ (fun j Hj=>?_)
 ·refine ⟨Gh.le.refl _,by dsimp only;omega,⟨hone,?_⟩,by dsimp only;omega,by dsimp only;omega⟩
  show w1.out.length ≤ 2 * mG 4
  omega
 obtain ⟨t,d,q,Gq⟩:=j
 dsimp only at Hj ⊢
 obtain ⟨hgq,hd,⟨ht1,ht2⟩,hq3,hq4⟩:=Hj
 have hs2:=hs.mono ((hg0.trans hg1).trans hgq)
 clear cx_dv cx_out hrep
 by_cases hgo : 150 < t.length ∧ 0 < d
 ·obtain ⟨hgo1,hgo2⟩:=hgo
  have hcm:=v1 d.toNat oM
  have cx_dv:=fun {p : Int} (hp : 0 ≤ p ∧ p + 500000 ≤ 600000000000)=>((r9 hw hu1 d.toNat (k:=k) (deep:=d) oM oM oM hki).le hcm.2.1 (Nat.le_refl _)) Gq r code p l (hR1.mono (hg1.trans hgq)) hs2 hp
  repeat' (first | refine jR ?_ | (refine jo ?_;first | refine aG F ?_ | (refine cI F F F (cx_dv oM) F ?_;rintro _ G1 _ hle ⟨w1,b1,q1,rfl,hrep,htot,hone,rfl,hq1,hq2⟩;dsimp only [zA,fA];skip)) | refine ax F F (ay oM) ?_ | refine ac F (ay ‹_›) ?_)
  have hob:=lh hw hrep
  unfold gO at hob
  have cx_out:=iy hw hrep oM
  have e : (d - 1).toNat + 1 = d.toNat:=oM
  repeat' (first | refine jM ?_ | (refine jo ?_;refine ab F F F cx_out F ?_))
  exact aY (w1.out,d - 1,q1,G1) ⟨hgq.trans hle,by dsimp only;omega,⟨hone,by dsimp only;rw [e];omega⟩,by dsimp only;omega,by dsimp only;omega⟩ (by dsimp only;omega) tU rfl aZ
 ·have hx : t.length ≤ 150 ∨ d ≤ 0:=oM
  have hl : t.length ≤ 8480:=by
   rcases hx with hx | hx
   ·omega
   ·have e : d = 0:=oM
    subst e
    have : mG (Int.toNat 0 + 1) = 4240:=by decide
    omega
  repeat' (first | refine jR ?_ | (refine jo ?_;first | refine aG F ?_ | refine ar F ?_ | (refine af F F F (ci ?_ (by (repeat (assumption));done)) rfl ?_;(focus omega);rintro _ _ ⟨k,rfl,rfl,hk0,hk1⟩;dsimp only [zA,fA])) | refine dN F F (fun _=>?_) (fun _=>?_) | (refine ad F (by first | rfl | (refine decide_eq_false ?_;(omega))) ?_) | refine cB F (fun _=>?_) (fun _=>?_))
  all_goals refine Nx.base hok hB ?_
  all_goals (first | exact aP (vs:=[_]) F ⟨F,trivial⟩ F aZ ⟨F,_,_,F,by (omega),F,oM,oM⟩ | skip)
  all_goals (refine aj (am (id:=11) [] (fun _ h=>absurd h (by simp)) ai ?_);refine jW 7 [0,1,2,4,9,10,11,12] (aa 15 7703) ?_;refine bA [3,5] kR dC ⟨?_,?_,trivial⟩;(focus (refine aM F F ?_;(refine jF fun _=>?_);refine jK (aa 15 7711) ?_;refine jA 5 F ?_;((refine af F F F (ci ?_ (by (repeat (assumption));done)) rfl ?_;(focus omega);rintro _ _ ⟨k,rfl,rfl,hk0,hk1⟩;dsimp only [zA,fA]));refine jK (aa 15 7743) ?_;((refine jG (aa 15 7807) 6 F (aN F F ?_) ?_;focus omega));refine jA 7 F ?_;((refine eg 64 F F F ?_ F (fun xs hxs=>?_);(focus ((simp only [List.length_append,List.length_cons,List.length_nil,List.length_take];omega);done))));refine jK (aa 15 7935) ?_;refine jW 0 [8,13,14] (aa 15 32767) ?_;refine jQ ?_));rotate_left 1;(focus (refine aM F F ?_;((refine af F F F (ci ?_ (by (repeat (assumption));done)) rfl ?_;(focus omega);rintro _ _ ⟨k,rfl,rfl,hk0,hk1⟩;dsimp only [zA,fA]));refine jK (aa 15 7735) ?_;refine jA 3 F ?_;(refine jF fun _=>?_);refine jK (aa 15 7743) ?_;((refine jG (aa 15 7807) 6 F (aN F F ?_) ?_;focus omega));refine jA 7 F ?_;((refine eg 64 F F F ?_ F (fun xs hxs=>?_);(focus ((simp only [List.length_append,List.length_cons,List.length_nil,List.length_take];omega);done))));refine jK (aa 15 7935) ?_;refine jW 0 [8,13,14] (aa 15 32767) ?_;refine jQ ?_));rotate_left 1)
  all_goals repeat' (refine jR ?_)
  all_goals exact aP (vs:=[_]) F ⟨F,trivial⟩ F sB ⟨F,_,_,F,by (simp only [List.length_append,List.length_cons,List.length_nil,List.length_take,List.length_drop];omega),rfl,oM,oM⟩
abbrev zY : TypeId:=42
abbrev zS : TypeId:=25
abbrev zU : TypeId:=9
theorem qR {r : Nat} {code : Value} {p : Int} {l : ac8} (hp : 0 ≤ p ∧ p ≤ 500000000000) (hs : be G code 1 l.length (bw l)) :
  bM ac7 61 [Pt r 0] G [dE r code p cV] (fun v L'=>∃ x q,v = S x ∧ x.length ≤ 64 ∧ L' = [dE r code q cV] ∧ p ≤ q ∧ q ≤ p + 10):=by
 refine jH [(0,_)] Tryz.func61 Tryz.ntmps61 fun B hB hW=>?_
 repeat' (first | refine jR ?_ | (refine jo ?_;first | refine jF fun _=>?_ | refine jV (aN F F oM) ?_ | (refine eg 64 F F F ?_ F (fun xs hxs=>?_);(focus ((simp only [List.length_append,List.length_cons,List.length_nil,List.length_take];omega);done))) | (refine af F F F (ci ?_ (by (repeat (assumption));done)) rfl ?_;(focus omega);rintro _ _ ⟨k,rfl,rfl,hk0,hk1⟩;dsimp only [zA,fA])) | refine cB F (fun _=>?_) (fun _=>?_))
 all_goals exact aP (vs:=[_]) F ⟨F,trivial⟩ F sB ⟨F,_,_,F,oM,F,oM,oM⟩
theorem m5 {ms : List Mt} {a b c : ac8} : aE eL ms ++ [S a,S b,S c] = aE eL (ms ++ [(a,b,c)]):=(co eL ms (a,b,c)).symm
theorem iq {ms : List Mt} {x : Mt} : ms.length + 1 = (ms ++ [x]).length:=by simp
theorem o4 {ms : List Mt} {x : Mt} (h : ∀ y ∈ ms,gP y) (hx : gP x) : ∀ y ∈ ms ++ [x],gP y:=by
 intro y hy
 rcases List.mem_append.mp hy with hy | hy
 ·exact h y hy
 ·rw [List.mem_singleton.mp hy];exact hx
theorem jt {r : Nat} {code : Value} {p : Int} {l : ac8} (hp : 0 ≤ p ∧ p ≤ 400000000000) (hs : be G code 1 l.length (bw l)) :
  dq ac7 27 [Pt r 0] G [dE r code p cV] (fun v G' L'=>∃ s a ms c q,v = Ag [S s,.slice a (ms : List Mt).length c] ∧ be G' (.slice a ms.length c) 3 ms.length (aE eL ms) ∧ (s.length ≤ 20000 ∧ ms.length ≤ 4 ∧ ∀ x ∈ ms,gP x) ∧ L' = [dE r code q cV] ∧ p ≤ q ∧ q ≤ p + 2000):=by
 refine bL [(0,_)] Tryz.func27 kR Tryz.ntmps27 F F tU fun B hB hW=>?_
 repeat' (first | refine jR ?_ | (refine jo ?_;first | refine jL fun _=>?_ | refine jV (al F F) ?_ | refine jC F F F ?_ | refine jF fun _=>?_ | (refine af F F F (td ?_ (by (repeat (assumption));done)) rfl ?_;(focus omega);rintro _ _ ⟨sc,q1,rfl,hsc,rfl,hq1,hq2⟩;dsimp only [zA,fA])))
 rename_i y2 y4 yN
 refine Nx.addNil zY 3 (Nx.perm ((List.perm_middle (l₁:=[_,_])).cons _) ?_)
 dsimp only [zA,fA]
 refine aT (ι:=List Mt × Option Addr × Nat × Nat × Int) (fun j=>(j.1.length ≤ j.2.2.2.1 ∧ j.2.2.2.1 ≤ 3) ∧ (∀ x ∈ j.1,gP x) ∧ p ≤ j.2.2.2.2 ∧ j.2.2.2.2 ≤ p + 701 + 100 * ((j.2.2.2.1 : Nat) : Int)) (fun j=>[(0,Pt r 0),(2,Pt y2 0),(3,S sc),(4,Pt y4 0),(5,.slice (some ⟨yN,0,none⟩) 3 3),(6,I ((j.2.2.2.1 : Nat) : Int))]) (fun _=>G) (fun j=>[.acc (.slice j.2.1 j.1.length j.2.2.1) zY 3 j.1.length (aE eL j.1),dE r code j.2.2.2.2 cV,.blk yN (.cells (List.toArray [S [97,100,100],S [103,101,116],S [112,117,116]]) zU (0,0)),.blk y4 (.cells (List.toArray [S sc,.slice j.2.1 j.1.length j.2.2.1]) zS (0,0)),.blk y2 (.cells (List.toArray [S [],aI]) zS (0,0))]) (fun j=>3 - j.2.2.2.1) ([],none,0,0,q1) ?_ tU F aZ (fun j Hj=>?_)
 ·exact ⟨⟨by dsimp only;exact Nat.le_refl _,by dsimp only;omega⟩,by simp,by dsimp only;omega,by dsimp only;omega⟩
 obtain ⟨ms,a,c,i,q⟩:=j
 dsimp only at Hj ⊢
 obtain ⟨hil,hms,hq3,hq4⟩:=Hj
 by_cases hi : i < 3
 ·rcases (show i = 0 ∨ i = 1 ∨ i = 2 by omega) with rfl | rfl | rfl
  all_goals
   repeat' (first | refine jM ?_ | (refine jo ?_;(refine af F F F (ci ?_ (by (repeat (assumption));done)) rfl ?_;(focus omega);rintro _ _ ⟨k,rfl,rfl,hk0,hk1⟩;dsimp only [zA,fA])) | refine ac F F ?_ | refine cB F (fun _=>?_) (fun _=>?_))
   ·(refine aj (am (id:=8) [.blk yN (.cells (List.toArray [S [97,100,100],S [103,101,116],S [112,117,116]]) zU (0,0))] (by intro y hy;simp only [List.mem_cons,List.not_mem_nil,or_false] at hy ⊢;simp [hy]) ai ?_);refine jW 10 [0,2,3,6,7,9,10] (aa 17 1741) ?_;((refine jG (aa 17 1757) 4 F (aA F F ?_) ?_;focus omega));(refine jG (aa 17 1789) 5 F (aq F F F) ?_);refine bA [1,8] kR dC ⟨?_,?_,trivial⟩;(focus (refine aM F F ?_;(refine ah F ?_);refine jK (aa 17 1791) ?_;refine jA 8 F ?_;((refine af F F F (iA ?_ (by (repeat (assumption));done) ?_) rfl ?_;(focus omega);(focus omega);rintro _ _ ⟨kd,q1,rfl,hkd,rfl,hq1,hq2⟩;dsimp only [zA,fA]));refine jK (aa 17 2047) ?_;refine jA 11 F ?_;((refine af F F F (iA ?_ (by (repeat (assumption));done) ?_) rfl ?_;(focus omega);(focus omega);rintro _ _ ⟨kd,q1,rfl,hkd,rfl,hq1,hq2⟩;dsimp only [zA,fA]));refine jK (aa 17 4095) ?_;(refine jG (aa 17 8191) 12 F (al F F) ?_);refine jA 13 F ?_;(refine jF fun _=>?_);refine jK (aa 17 16383) ?_;refine jA 14 F ?_;((refine bY F F F F F F F F F ?_ fun _ _=>?_;focus omega));refine jK (aa 17 32767) ?_;refine jW 1 [15] (aa 17 65535) ?_;refine jA 16 F ?_;(refine jD F F F ?_);refine jK (aa 17 131071) ?_;refine jQ ?_));rotate_left 1;(focus (refine aM F F ?_;((refine af F F F (iA ?_ (by (repeat (assumption));done) ?_) rfl ?_;(focus omega);(focus omega);rintro _ _ ⟨kd,q1,rfl,hkd,rfl,hq1,hq2⟩;dsimp only [zA,fA]));refine jK (aa 17 2045) ?_;refine bA [1,11] kR dC ⟨?_,?_,trivial⟩;(focus (refine aM F F ?_;(refine ah F ?_);refine jK (aa 17 2047) ?_;refine jA 11 F ?_;((refine af F F F (iA ?_ (by (repeat (assumption));done) ?_) rfl ?_;(focus omega);(focus omega);rintro _ _ ⟨kd,q1,rfl,hkd,rfl,hq1,hq2⟩;dsimp only [zA,fA]));refine jK (aa 17 4095) ?_;(refine jG (aa 17 8191) 12 F (al F F) ?_);refine jA 13 F ?_;(refine jF fun _=>?_);refine jK (aa 17 16383) ?_;refine jA 14 F ?_;((refine bY F F F F F F F F F ?_ fun _ _=>?_;focus omega));refine jK (aa 17 32767) ?_;refine jW 1 [15] (aa 17 65535) ?_;refine jA 16 F ?_;(refine jD F F F ?_);refine jK (aa 17 131071) ?_;refine jQ ?_));rotate_left 1;(focus (refine aM F F ?_;((refine af F F F (iA ?_ (by (repeat (assumption));done) ?_) rfl ?_;(focus omega);(focus omega);rintro _ _ ⟨kd,q1,rfl,hkd,rfl,hq1,hq2⟩;dsimp only [zA,fA]));refine jK (aa 17 4093) ?_;(refine jG (aa 17 8189) 12 F (al F F) ?_);refine bA [1,13] kR dC ⟨?_,?_,trivial⟩;(focus (refine aM F F ?_;(refine ah F ?_);refine jK (aa 17 8191) ?_;refine jA 13 F ?_;(refine jF fun _=>?_);refine jK (aa 17 16383) ?_;refine jA 14 F ?_;((refine bY F F F F F F F F F ?_ fun _ _=>?_;focus omega));refine jK (aa 17 32767) ?_;refine jW 1 [15] (aa 17 65535) ?_;refine jA 16 F ?_;(refine jD F F F ?_);refine jK (aa 17 131071) ?_;refine jQ ?_));rotate_left 1;(focus (refine aM F F ?_;(refine jF fun _=>?_);refine jK (aa 17 16381) ?_;refine jA 1 F ?_;(refine ah F ?_);refine jK (aa 17 16383) ?_;refine jA 14 F ?_;((refine bY F F F F F F F F F ?_ fun _ _=>?_;focus omega));refine jK (aa 17 32767) ?_;refine jW 1 [15] (aa 17 65535) ?_;refine jA 16 F ?_;(refine jD F F F ?_);refine jK (aa 17 131071) ?_;refine jQ ?_));rotate_left 1));rotate_left 2));rotate_left 3)
    all_goals repeat' (refine jM ?_)
    all_goals
     rename_i kd1 q0 hkd1 hqa hqb n1 n2 n3
     first | (rw [m5 (ms:=ms) (a:=[97,100,100]) (b:=kd1) (c:=kd),iq (ms:=ms) (x:=([97,100,100],kd1,kd))];exact aY (ms ++ [([97,100,100],kd1,kd)],some ⟨n2,0,none⟩,n3,0 + 1,q1) ⟨⟨by dsimp only;rw [← iq];omega,by dsimp only;omega⟩,o4 hms ⟨by simp,by dsimp only;omega,by dsimp only;omega⟩,by dsimp only;omega,by dsimp only;omega⟩ (by dsimp only;omega) tU rfl sB) | (rw [m5 (ms:=ms) (a:=[103,101,116]) (b:=kd1) (c:=kd),iq (ms:=ms) (x:=([103,101,116],kd1,kd))];exact aY (ms ++ [([103,101,116],kd1,kd)],some ⟨n2,0,none⟩,n3,1 + 1,q1) ⟨⟨by dsimp only;rw [← iq];omega,by dsimp only;omega⟩,o4 hms ⟨by simp,by dsimp only;omega,by dsimp only;omega⟩,by dsimp only;omega,by dsimp only;omega⟩ (by dsimp only;omega) tU rfl sB) | (rw [m5 (ms:=ms) (a:=[112,117,116]) (b:=kd1) (c:=kd),iq (ms:=ms) (x:=([112,117,116],kd1,kd))];exact aY (ms ++ [([112,117,116],kd1,kd)],some ⟨n2,0,none⟩,n3,2 + 1,q1) ⟨⟨by dsimp only;rw [← iq];omega,by dsimp only;omega⟩,o4 hms ⟨by simp,by dsimp only;omega,by dsimp only;omega⟩,by dsimp only;omega,by dsimp only;omega⟩ (by dsimp only;omega) tU rfl sB)
   ·refine Nx.perm (List.Perm.swap _ _ _) ?_
    first | (exact aY (ms,a,c,0 + 1,q + 1) ⟨⟨by dsimp only;omega,by dsimp only;omega⟩,hms,by dsimp only;omega,by dsimp only;omega⟩ (by dsimp only;omega) tU rfl aZ) | (exact aY (ms,a,c,1 + 1,q + 1) ⟨⟨by dsimp only;omega,by dsimp only;omega⟩,hms,by dsimp only;omega,by dsimp only;omega⟩ (by dsimp only;omega) tU rfl aZ) | (exact aY (ms,a,c,2 + 1,q + 1) ⟨⟨by dsimp only;omega,by dsimp only;omega⟩,hms,by dsimp only;omega,by dsimp only;omega⟩ (by dsimp only;omega) tU rfl aZ)
 ·repeat' (first | refine jR ?_ | (refine jo ?_;first | refine jC F F F ?_ | refine aB F ?_ | (refine af F F F (ci ?_ (by (repeat (assumption));done)) rfl ?_;(focus omega);rintro _ _ ⟨k,rfl,rfl,hk0,hk1⟩;dsimp only [zA,fA])) | refine ad F (aC oM) ?_ | refine cB F (fun _=>?_) (fun _=>?_))
  ·(refine aj (am (id:=10) [] (fun _ h=>absurd h (by simp)) ai ?_);refine jW 7 [0,2] (aa 9 5) ?_;refine bA [1,3] kR dC ⟨?_,?_,trivial⟩;(focus (refine aM F F ?_;(refine ah F ?_);refine jK (aa 9 7) ?_;refine jA 3 F ?_;((refine af F F F (qR ?_ (by (repeat (assumption));done)) rfl ?_;(focus omega);rintro _ _ ⟨nx,q1,rfl,hnx,rfl,hq1,hq2⟩;dsimp only [zA,fA]));refine jK (aa 9 15) ?_;(refine jG (aa 9 31) 4 F (al F F) ?_);refine jA 5 F ?_;(refine jF fun _=>?_);refine jK (aa 9 63) ?_;refine jA 6 F ?_;((refine bY F F F F F F F F F ?_ fun _ _=>?_;focus omega));refine jK (aa 9 127) ?_;refine jW 1 [7] (aa 9 255) ?_;refine jA 8 F ?_;(refine jD F F F ?_);refine jK (aa 9 511) ?_;refine jQ ?_));rotate_left 1;(focus (refine aM F F ?_;((refine af F F F (qR ?_ (by (repeat (assumption));done)) rfl ?_;(focus omega);rintro _ _ ⟨nx,q1,rfl,hnx,rfl,hq1,hq2⟩;dsimp only [zA,fA]));refine jK (aa 9 13) ?_;(refine jG (aa 9 29) 4 F (al F F) ?_);refine bA [1,5] kR dC ⟨?_,?_,trivial⟩;(focus (refine aM F F ?_;(refine ah F ?_);refine jK (aa 9 31) ?_;refine jA 5 F ?_;(refine jF fun _=>?_);refine jK (aa 9 63) ?_;refine jA 6 F ?_;((refine bY F F F F F F F F F ?_ fun _ _=>?_;focus omega));refine jK (aa 9 127) ?_;refine jW 1 [7] (aa 9 255) ?_;refine jA 8 F ?_;(refine jD F F F ?_);refine jK (aa 9 511) ?_;refine jQ ?_));rotate_left 1;(focus (refine aM F F ?_;(refine jF fun _=>?_);refine jK (aa 9 61) ?_;refine jA 1 F ?_;(refine ah F ?_);refine jK (aa 9 63) ?_;refine jA 6 F ?_;((refine bY F F F F F F F F F ?_ fun _ _=>?_;focus omega));refine jK (aa 9 127) ?_;refine jW 1 [7] (aa 9 255) ?_;refine jA 8 F ?_;(refine jD F F F ?_);refine jK (aa 9 511) ?_;refine jQ ?_));rotate_left 1));rotate_left 2)
   all_goals repeat' (first | refine jR ?_ | (refine jo ?_;first | refine jC F F F ?_ | refine aB F ?_))
   all_goals
    rename_i n1 n2 n3
    rw [show aE eL ms ++ [S nx,.string ⟨#[110]⟩,.string ⟨#[110]⟩] = aE eL (ms ++ [(nx,[110],[110])]) from m5,iq (x:=(nx,[110],[110]))]
    refine Nx.sealS (v:=.slice (some ⟨n2,0,none⟩) (ms ++ [(nx,[110],[110])]).length n3) fun G2 hG2 hsl=>?_
    exact aP (vs:=[_]) F ⟨aF F F F F,trivial⟩ F sB ⟨hG2,sc,some ⟨n2,0,none⟩,ms ++ [(nx,[110],[110])],n3,_,F,hsl,⟨oM,by rw [← iq];omega,o4 hms ⟨by dsimp only;omega,by simp,by simp⟩⟩,rfl,oM,oM⟩
  ·refine Nx.sealS (v:=.slice a ms.length c) fun G2 hG2 hsl=>?_
   exact aP (vs:=[_]) F ⟨aF F F F F,trivial⟩ F sB ⟨hG2,sc,a,ms,c,_,F,hsl,⟨oM,oM,hms⟩,F,oM,oM⟩
def nL (n : Int) : ac8:=if 0 ≤ n ∧ n ≤ 999 then frame (aX n ++ [u8 1]) else []
def sV (n : Int) : Bool:=decide (0 ≤ n ∧ n ≤ 999)
theorem wG {n : Int} (h : 0 ≤ n ∧ n ≤ 999) : Tu [S (fZ (aX n ++ [u8 1])),Bo (mz (aX n ++ [u8 1]))] = Tu [S (nL n),Bo (sV n)]:=by
 have h1 : (aX n ++ [u8 1]).length ≤ 100:=by have:=bx (n:=n) oM;simp;omega
 rw [← rV h1,nL,if_pos h,sV,decide_eq_true h]
theorem yh {n : Int} (h : ¬ (0 ≤ n ∧ n ≤ 999)) : Tu [S [],Bo false] = Tu [S (nL n),Bo (sV n)]:=by
 rw [nL,if_neg h,sV,decide_eq_false h]
theorem lZ {n : Int} : an ac7 15 [I n] G (· = Tu [S (nL n),Bo (sV n)]):=by
 have h3:=rD n
 by_cases h : 0 ≤ n ∧ n ≤ 999
 ·have h3:=bx (n:=n) oM
  refine jE [(0,_)] Tryz.func15 Tryz.ntmps15 fun B hB=>?_
  repeat' (first | refine jX ?_ | (refine jo ?_;first | refine ab F F F dJ F ?_ | refine ab F F F (eB oM) F ?_ | (refine ab F F F (im ?_) F ?_;(focus ((simp;omega);done)))) | (refine ad F ?_ ?_;(focus ((simp [*];done);done))))
  refine jY (vs:=[_,_]) ?_
  exact wG h
 ·refine jE [(0,_)] Tryz.func15 Tryz.ntmps15 fun B hB=>?_
  repeat' (first | refine jR ?_ | (refine jo ?_;refine ab F F F dJ F ?_) | (refine ac F ?_ ?_;(focus ((simp;omega);done))))
  refine jY (vs:=[_,_]) ?_
  exact yh h
theorem q7 {n : Int} : an ac7 44 [I n] G (· = Tu [S (nL n),Bo (sV n)]):=by
 by_cases h : 0 ≤ n ∧ n ≤ 999
 ·have h3:=bx (n:=n) oM
  refine jE [(0,_)] Tryz.func44 Tryz.ntmps44 fun B hB=>?_
  repeat' (first | refine jR ?_ | (refine jo ?_;refine ab F F F mJ F ?_) | (refine ad F ?_ ?_;(focus ((simp [*];done);done))) | (refine aj (am (id:=3) _ (fun _ h=>h) ai ?_);refine jT 9 [0] (aa 10 1) ?_;refine bA [1,2] kR dC ⟨?_,?_,trivial⟩;(focus (refine aM F F ?_;((refine ab F F F (dy ?_) F ?_;focus omega));refine jS (aa 10 3) ?_;refine jA 2 F ?_;(refine jF fun _=>?_);refine jS (aa 10 7) ?_;((refine jG (aa 10 15) 3 F (cX F F (by (repeat (first | exact BL.nil | apply BL.lit rfl));done)) ?_));refine jW 5 [4] (aa 10 31) ?_;refine jA 5 F ?_;((refine ab F F F (kG ?_) F ?_;(focus ((simp;omega);done))));refine jS (aa 10 63) ?_;refine jW 0 [6,7,8,9] (aa 10 1023) ?_;refine jQ ?_));rotate_left 1;(focus (refine aM F F ?_;(refine jF fun _=>?_);refine jS (aa 10 5) ?_;((refine jG (aa 10 13) 3 F (cX F F (by (repeat (first | exact BL.nil | apply BL.lit rfl));done)) ?_));refine jA 1 F ?_;((refine ab F F F (dy ?_) F ?_;focus omega));refine jS (aa 10 15) ?_;refine jW 5 [4] (aa 10 31) ?_;refine jA 5 F ?_;((refine ab F F F (kG ?_) F ?_;(focus ((simp;omega);done))));refine jS (aa 10 63) ?_;refine jW 0 [6,7,8,9] (aa 10 1023) ?_;refine jQ ?_));rotate_left 1))
  all_goals refine jY (vs:=[_,_]) ?_
  all_goals exact wG h
 ·refine jE [(0,_)] Tryz.func44 Tryz.ntmps44 fun B hB=>?_
  repeat' (first | refine jR ?_ | (refine jo ?_;refine ab F F F mJ F ?_) | (refine ac F ?_ ?_;(focus ((simp;omega);done))))
  all_goals refine jY (vs:=[_,_]) ?_
  all_goals exact yh h
section
variable {P : Program} {n : Nat} {D : List Deferred} {E : bo} {M : World → Prop} {d : Option Nat} {ty : TypeId} {pos : String} {aft : Array Edge} {gd : Option (Nat × Bool)}
theorem rQ {T : TypeId} {x : Operand} {desc : TypeDesc} {size bytes : Nat} {zero : Value} {b o : Nat} {v : Value} {G0 : Gh} {L0 : List Own} {cs : List Value} [TI P T desc size bytes zero] [Kn M G0 L0] (hx : ev E x = some (Pt b o)) (ha : dh desc = false) (hs : b7 G0 b o cs) (hc : cs[0]? = some v) :
  Gives P n D E M ⟨d,.load T x,ty,pos,aft,gd⟩ v:=fh hx ha (by have:=(dP (S:=M) hs).go 0 v hc;simpa using this)
theorem m7 {T : TypeId} {x : Operand} {desc : TypeDesc} {size bytes : Nat} {zero : Value} {b o : Nat} {vs : List Value} {G0 : Gh} {L0 : List Own} {cs : List Value} [TI P T desc size bytes zero] [Kn M G0 L0] (hx : ev E x = some (Pt b o)) (ha : dh desc = true) (hs : b7 G0 b o cs) (hc : jJ cs 0 size = some vs) (hl : Nat.beq vs.length size = true) :
  Gives P n D E M ⟨d,.load T x,ty,pos,aft,gd⟩ (Ag vs):=gZ hx ha (Nat.eq_of_beq_eq_true hl) (by have:=(dP (S:=M) hs).take hc;simpa using this)
end
--?s0
open Go.Proofs
variable {G : Gh}
theorem pG {s x w t : ac8} {a : List Mt} {n : Int} {out : Bool} (h : bW s a n x out w = (t,true)) : x.length ≤ 3 ∧ w.length ≤ 400 ∧ t.length ≤ 200:=by
 obtain ⟨m,b,h1,h2,h3,h4,h5,rfl⟩:=pH h
 obtain ⟨v,hc,ho⟩:=mj h4
 obtain ⟨ts,_,_,_,_,_,h6,_⟩:=kq hc
 have h7:=fG _ (Nat.le_trans h5 oM)
 exact ⟨jh h2 h1,by rw [← ho];exact h6,oM⟩
theorem yX {b : ac8} : (fZ b).length ≤ 200:=by
 unfold fZ
 split
 ·rename_i hl
  have h7:=fG _ (Nat.le_trans hl oM)
  omega
 ·simp
theorem ux {s x w : ac8} {a : List Mt} {n : Int} {out : Bool} : (bW s a n x out w).1.length ≤ 200:=by
 unfold bW
 cases cS a x with
 | none=>simp
 | some m =>
  dsimp only
  by_cases h : cL s a = true ∧ 0 ≤ n ∧ n ≤ 999
  ·rw [if_pos h]
   cases c6 s (bif out then m.2.2 else m.2.1) w with
   | none=>simp
   | some b=>exact yX
  ·rw [if_neg h];simp
theorem zH {n : Int} : (nL n).length ≤ 200:=by
 unfold nL
 split
 ·have h3:=bx (n:=n) oM
  have h7:=fG (aX n ++ [u8 1]) (by simp only [List.length_append,List.length_cons,List.length_nil];omega)
  simp only [List.length_append,List.length_cons,List.length_nil] at h7
  omega
 ·simp
theorem xS {v : Value} (h : v ∈ [Value.int IntKind.i64 0,Value.int IntKind.i64 7,Value.int IntKind.i64 999,Value.int IntKind.i64 1000,Value.int IntKind.i64 (-1)]) : ∃ n : Int,v = I n:=by
 simp only [List.mem_cons,List.not_mem_nil,or_false] at h
 rcases h with rfl | rfl | rfl | rfl | rfl
 all_goals exact ⟨_,F⟩
theorem qc {s x : ac8} {u : Value} {a : List Mt} (hu : be G u 3 a.length (aE eL a)) (hn : a.length ≤ 1048576) (ha : ∀ x ∈ a,gP x) : an ac7 29 [Ag [S s,u],S x] G (fun v=>∃ m1 m2 m3 b,v = Tu [Ag [S m1,S m2,S m3],Bo b] ∧ (m2.length ≤ 1048576 ∧ m3.length ≤ 1048576)):=by
 have h2:=kV (s:=s) (x:=x) hu hn
 cases hf : cS a x with
 | none=>rw [hf] at h2;exact h2.mono fun v G' L' h=>⟨h.1,h.2.1,[],[],[],_,h.2.2,by simp,by simp⟩
 | some m =>
  have hm:=ha m (List.mem_of_find?_eq_some hf)
  rw [hf] at h2
  exact h2.mono fun v G' L' h=>⟨h.1,h.2.1,m.1,m.2.1,m.2.2,_,h.2.2,hm.2.1,hm.2.2⟩
theorem q4 {v : Value} {l : ac8} (hs : be G v 1 l.length (bw l)) : bn ac7 8 [v] G (fun r G'=>∃ s a ms c n x w,r = Tu [Ag [S s,.slice a (ms : List Mt).length c],I n,S x,S w] ∧ be G' (.slice a ms.length c) 3 ms.length (aE eL ms) ∧ ((s.length ≤ 1048576 ∧ ms.length ≤ 1048576) ∧ x.length ≤ 1048576 ∧ w.length ≤ 1048576) ∧ (∀ x ∈ ms,gP x)):=by
 refine jB [(0,_)] Tryz.func8 Tryz.ntmps8 fun B hok hB hW=>?_
 repeat' (first | refine jM ?_ | (refine jo ?_;first | refine jL fun _=>?_ | refine jC F F F ?_ | refine jF fun _=>?_ | refine jV (aN F F oM) ?_ | (refine eg 64 F F F ?_ F (fun xs hxs=>?_);(focus ((simp only [List.length_append,List.length_cons,List.length_nil,List.length_take];omega);done))) | refine aB F ?_ | (refine dl F F F (oo (by (repeat (assumption));done)) rfl ?_;rintro _ _ ⟨b,code,l,rfl,rfl,hcd,hcl⟩;dsimp only [zA,fA]) | (refine cI F F F (jt ?_ (by (repeat (assumption));done)) rfl ?_;(focus omega);rintro _ G1 _ hle ⟨sv,a1,ms,ca,q1,rfl,hsl1,hb1,rfl,hq1,hq2⟩;dsimp only [zA,fA];skip) | (refine af F F F (ci ?_ (by (repeat (first | assumption | refine be.mono ?_ aS));done)) rfl ?_;(focus omega);rintro _ _ ⟨k,rfl,rfl,hk0,hk1⟩;dsimp only [zA,fA])))
 rename_i x2 x7 xA
 refine Nx.sealC (b:=x7) fun G2 h2 s7=>?_
 have hsl1:=hsl1.mono h2
 have hcd:=(hcd.mono hle).mono h2
 have hms:=hb1.2.2
 refine jo ?_
 refine cN F F F (qc hsl1 oM hb1.2.2) F ?_
 rintro _ ⟨m1,m2,m3,mb,rfl,hm2,hm3⟩
 repeat' (first | refine jR ?_ | (refine jo ?_;first | refine jL fun _=>?_ | refine jC F F F ?_ | refine ah F ?_) | refine gX F (fun _=>?_) (fun _=>?_))
 all_goals (refine aj (am (id:=8) [] (fun _ h=>absurd h (by simp)) ai ?_);refine jW 12 [2,7,8,9,11] (aa 17 2948) ?_;(refine jG (aa 17 2949) 0 F (m7 F F aS F F) ?_);(refine jG (aa 17 3973) 10 F (rQ F F aS F) ?_);refine bA [1,3] kR dC ⟨?_,?_,trivial⟩;(focus (refine aM F F ?_;(refine jF fun _=>?_);refine jK (aa 17 3975) ?_;refine jA 3 F ?_;((refine af F F F (ci ?_ (by (repeat (assumption));done)) rfl ?_;(focus omega);rintro _ _ ⟨k,rfl,rfl,hk0,hk1⟩;dsimp only [zA,fA]));refine jK (aa 17 3983) ?_;refine jW 7 [4] (aa 17 3999) ?_;((refine jG (aa 17 4031) 5 F (aN F F ?_) ?_;focus omega));refine bA [6,12] kR dC ⟨?_,?_,trivial⟩;(focus (refine aM F F ?_;((refine dV F F F ?_ (fun _ _=>?_);(focus ((simp only [List.length_append,List.length_cons,List.length_nil,List.length_take];omega);done))));refine jK (aa 17 4095) ?_;refine jA 12 F ?_;((refine af F F F (eR ?_ (by (repeat (assumption));done) ?_ ?_) rfl ?_;(focus omega);(focus omega);(focus ((first | assumption | (simp;done));done));rintro _ _ ⟨tx,q1,rfl,htx,rfl,hq1,hq2⟩;dsimp only [zA,fA]));refine jK (aa 17 8191) ?_;refine jA 13 F ?_;(refine jC F F F ?_);refine jK (aa 17 16383) ?_;refine jW 0 [14,15,16] (aa 17 131071) ?_;refine jQ ?_));rotate_left 1;(focus (refine aM F F ?_;((refine af F F F (eR ?_ (by (repeat (assumption));done) ?_ ?_) rfl ?_;(focus omega);(focus omega);(focus ((first | assumption | (simp;done));done));rintro _ _ ⟨tx,q1,rfl,htx,rfl,hq1,hq2⟩;dsimp only [zA,fA]));refine jK (aa 17 8127) ?_;refine bA [6,13] kR dC ⟨?_,?_,trivial⟩;(focus (refine aM F F ?_;((refine dV F F F ?_ (fun _ _=>?_);(focus ((simp only [List.length_append,List.length_cons,List.length_nil,List.length_take];omega);done))));refine jK (aa 17 8191) ?_;refine jA 13 F ?_;(refine jC F F F ?_);refine jK (aa 17 16383) ?_;refine jW 0 [14,15,16] (aa 17 131071) ?_;refine jQ ?_));rotate_left 1;(focus (refine aM F F ?_;(refine jC F F F ?_);refine jK (aa 17 16319) ?_;refine jA 6 F ?_;((refine dV F F F ?_ (fun _ _=>?_);(focus ((simp only [List.length_append,List.length_cons,List.length_nil,List.length_take];omega);done))));refine jK (aa 17 16383) ?_;refine jW 0 [14,15,16] (aa 17 131071) ?_;refine jQ ?_));rotate_left 1));rotate_left 2));rotate_left 3;(focus (refine aM F F ?_;((refine af F F F (ci ?_ (by (repeat (assumption));done)) rfl ?_;(focus omega);rintro _ _ ⟨k,rfl,rfl,hk0,hk1⟩;dsimp only [zA,fA]));refine jK (aa 17 3981) ?_;refine jW 8 [4] (aa 17 3997) ?_;refine bA [1,12] kR dC ⟨?_,?_,trivial⟩;(focus (refine aM F F ?_;(refine jF fun _=>?_);refine jK (aa 17 3999) ?_;((refine jG (aa 17 4031) 5 F (aN F F ?_) ?_;focus omega));refine bA [6,12] kR dC ⟨?_,?_,trivial⟩;(focus (refine aM F F ?_;((refine dV F F F ?_ (fun _ _=>?_);(focus ((simp only [List.length_append,List.length_cons,List.length_nil,List.length_take];omega);done))));refine jK (aa 17 4095) ?_;refine jA 12 F ?_;((refine af F F F (eR ?_ (by (repeat (assumption));done) ?_ ?_) rfl ?_;(focus omega);(focus omega);(focus ((first | assumption | (simp;done));done));rintro _ _ ⟨tx,q1,rfl,htx,rfl,hq1,hq2⟩;dsimp only [zA,fA]));refine jK (aa 17 8191) ?_;refine jA 13 F ?_;(refine jC F F F ?_);refine jK (aa 17 16383) ?_;refine jW 0 [14,15,16] (aa 17 131071) ?_;refine jQ ?_));rotate_left 1;(focus (refine aM F F ?_;((refine af F F F (eR ?_ (by (repeat (assumption));done) ?_ ?_) rfl ?_;(focus omega);(focus omega);(focus ((first | assumption | (simp;done));done));rintro _ _ ⟨tx,q1,rfl,htx,rfl,hq1,hq2⟩;dsimp only [zA,fA]));refine jK (aa 17 8127) ?_;refine bA [6,13] kR dC ⟨?_,?_,trivial⟩;(focus (refine aM F F ?_;((refine dV F F F ?_ (fun _ _=>?_);(focus ((simp only [List.length_append,List.length_cons,List.length_nil,List.length_take];omega);done))));refine jK (aa 17 8191) ?_;refine jA 13 F ?_;(refine jC F F F ?_);refine jK (aa 17 16383) ?_;refine jW 0 [14,15,16] (aa 17 131071) ?_;refine jQ ?_));rotate_left 1;(focus (refine aM F F ?_;(refine jC F F F ?_);refine jK (aa 17 16319) ?_;refine jA 6 F ?_;((refine dV F F F ?_ (fun _ _=>?_);(focus ((simp only [List.length_append,List.length_cons,List.length_nil,List.length_take];omega);done))));refine jK (aa 17 16383) ?_;refine jW 0 [14,15,16] (aa 17 131071) ?_;refine jQ ?_));rotate_left 1));rotate_left 2));rotate_left 3;(focus (refine aM F F ?_;((refine af F F F (eR ?_ (by (repeat (assumption));done) ?_ ?_) rfl ?_;(focus omega);(focus omega);(focus ((first | assumption | (simp;done));done));rintro _ _ ⟨tx,q1,rfl,htx,rfl,hq1,hq2⟩;dsimp only [zA,fA]));refine jK (aa 17 8093) ?_;refine bA [1,13] kR dC ⟨?_,?_,trivial⟩;(focus (refine aM F F ?_;(refine jF fun _=>?_);refine jK (aa 17 8095) ?_;((refine jG (aa 17 8127) 5 F (aN F F ?_) ?_;focus omega));refine bA [6,13] kR dC ⟨?_,?_,trivial⟩;(focus (refine aM F F ?_;((refine dV F F F ?_ (fun _ _=>?_);(focus ((simp only [List.length_append,List.length_cons,List.length_nil,List.length_take];omega);done))));refine jK (aa 17 8191) ?_;refine jA 13 F ?_;(refine jC F F F ?_);refine jK (aa 17 16383) ?_;refine jW 0 [14,15,16] (aa 17 131071) ?_;refine jQ ?_));rotate_left 1;(focus (refine aM F F ?_;(refine jC F F F ?_);refine jK (aa 17 16319) ?_;refine jA 6 F ?_;((refine dV F F F ?_ (fun _ _=>?_);(focus ((simp only [List.length_append,List.length_cons,List.length_nil,List.length_take];omega);done))));refine jK (aa 17 16383) ?_;refine jW 0 [14,15,16] (aa 17 131071) ?_;refine jQ ?_));rotate_left 1));rotate_left 2;(focus (refine aM F F ?_;(refine jC F F F ?_);refine jK (aa 17 16285) ?_;refine jA 1 F ?_;(refine jF fun _=>?_);refine jK (aa 17 16287) ?_;((refine jG (aa 17 16319) 5 F (aN F F ?_) ?_;focus omega));refine jA 6 F ?_;((refine dV F F F ?_ (fun _ _=>?_);(focus ((simp only [List.length_append,List.length_cons,List.length_nil,List.length_take];omega);done))));refine jK (aa 17 16383) ?_;refine jW 0 [14,15,16] (aa 17 131071) ?_;refine jQ ?_));rotate_left 1));rotate_left 3));rotate_left 6)
 all_goals repeat' (refine jR ?_)
 all_goals rename_i vI hvI
 all_goals obtain ⟨nI,rfl⟩:=xS hvI
 all_goals exact jZ (vs:=[_,_,_,_]) F ⟨aF F F F F,F,F,F,trivial⟩ F ⟨hle.trans h2,F,_,_,_,_,_,_,_,F,hsl1,⟨⟨oM,oM⟩,oM,oM⟩,hms⟩
theorem pt {v : Value} {l : ac8} (hs : be G v 1 l.length (bw l)) : bn ac7 17 [v] G (fun r G'=>∃ s a ms c n x w,r = Tu [Ag [S s,.slice a (ms : List Mt).length c],I n,S x,S w] ∧ be G' (.slice a ms.length c) 3 ms.length (aE eL ms) ∧ ((s.length ≤ 1048576 ∧ ms.length ≤ 1048576) ∧ x.length ≤ 1048576 ∧ w.length ≤ 1048576) ∧ (∀ x ∈ ms,gP x)):=by
 refine jB [(0,_)] Tryz.func17 Tryz.ntmps17 fun B hok hB hW=>?_
 repeat' (first | refine jM ?_ | (refine jo ?_;first | refine jL fun _=>?_ | refine jC F F F ?_ | refine jF fun _=>?_ | refine jV (aN F F oM) ?_ | (refine eg 64 F F F ?_ F (fun xs hxs=>?_);(focus ((simp only [List.length_append,List.length_cons,List.length_nil,List.length_take];omega);done))) | refine aB F ?_ | (refine dl F F F (oo (by (repeat (assumption));done)) rfl ?_;rintro _ _ ⟨b,code,l,rfl,rfl,hcd,hcl⟩;dsimp only [zA,fA]) | (refine cI F F F (jt ?_ (by (repeat (assumption));done)) rfl ?_;(focus omega);rintro _ G1 _ hle ⟨sv,a1,ms,ca,q1,rfl,hsl1,hb1,rfl,hq1,hq2⟩;dsimp only [zA,fA];skip) | (refine af F F F (ci ?_ (by (repeat (first | assumption | refine be.mono ?_ aS));done)) rfl ?_;(focus omega);rintro _ _ ⟨k,rfl,rfl,hk0,hk1⟩;dsimp only [zA,fA])))
 rename_i x2 x7 xA
 refine Nx.sealC (b:=x7) fun G2 h2 s7=>?_
 have hsl1:=hsl1.mono h2
 have hcd:=(hcd.mono hle).mono h2
 have hms:=hb1.2.2
 refine jo ?_
 refine cN F F F (qc hsl1 oM hb1.2.2) F ?_
 rintro _ ⟨m1,m2,m3,mb,rfl,hm2,hm3⟩
 repeat' (first | refine jR ?_ | (refine jo ?_;first | refine jL fun _=>?_ | refine jC F F F ?_ | refine ah F ?_) | refine gX F (fun _=>?_) (fun _=>?_))
 all_goals (refine aj (am (id:=8) [] (fun _ h=>absurd h (by simp)) ai ?_);refine jW 12 [2,7,8,9,11] (aa 17 2948) ?_;(refine jG (aa 17 2949) 0 F (m7 F F aS F F) ?_);(refine jG (aa 17 3973) 10 F (rQ F F aS F) ?_);refine bA [1,3] kR dC ⟨?_,?_,trivial⟩;(focus (refine aM F F ?_;(refine jF fun _=>?_);refine jK (aa 17 3975) ?_;refine jA 3 F ?_;((refine af F F F (ci ?_ (by (repeat (assumption));done)) rfl ?_;(focus omega);rintro _ _ ⟨k,rfl,rfl,hk0,hk1⟩;dsimp only [zA,fA]));refine jK (aa 17 3983) ?_;refine jW 7 [4] (aa 17 3999) ?_;((refine jG (aa 17 4031) 5 F (aN F F ?_) ?_;focus omega));refine bA [6,12] kR dC ⟨?_,?_,trivial⟩;(focus (refine aM F F ?_;((refine dV F F F ?_ (fun _ _=>?_);(focus ((simp only [List.length_append,List.length_cons,List.length_nil,List.length_take];omega);done))));refine jK (aa 17 4095) ?_;refine jA 12 F ?_;((refine af F F F (eR ?_ (by (repeat (assumption));done) ?_ ?_) rfl ?_;(focus omega);(focus omega);(focus ((first | assumption | (simp;done));done));rintro _ _ ⟨tx,q1,rfl,htx,rfl,hq1,hq2⟩;dsimp only [zA,fA]));refine jK (aa 17 8191) ?_;refine jA 13 F ?_;(refine jC F F F ?_);refine jK (aa 17 16383) ?_;refine jW 0 [14,15,16] (aa 17 131071) ?_;refine jQ ?_));rotate_left 1;(focus (refine aM F F ?_;((refine af F F F (eR ?_ (by (repeat (assumption));done) ?_ ?_) rfl ?_;(focus omega);(focus omega);(focus ((first | assumption | (simp;done));done));rintro _ _ ⟨tx,q1,rfl,htx,rfl,hq1,hq2⟩;dsimp only [zA,fA]));refine jK (aa 17 8127) ?_;refine bA [6,13] kR dC ⟨?_,?_,trivial⟩;(focus (refine aM F F ?_;((refine dV F F F ?_ (fun _ _=>?_);(focus ((simp only [List.length_append,List.length_cons,List.length_nil,List.length_take];omega);done))));refine jK (aa 17 8191) ?_;refine jA 13 F ?_;(refine jC F F F ?_);refine jK (aa 17 16383) ?_;refine jW 0 [14,15,16] (aa 17 131071) ?_;refine jQ ?_));rotate_left 1;(focus (refine aM F F ?_;(refine jC F F F ?_);refine jK (aa 17 16319) ?_;refine jA 6 F ?_;((refine dV F F F ?_ (fun _ _=>?_);(focus ((simp only [List.length_append,List.length_cons,List.length_nil,List.length_take];omega);done))));refine jK (aa 17 16383) ?_;refine jW 0 [14,15,16] (aa 17 131071) ?_;refine jQ ?_));rotate_left 1));rotate_left 2));rotate_left 3;(focus (refine aM F F ?_;((refine af F F F (ci ?_ (by (repeat (assumption));done)) rfl ?_;(focus omega);rintro _ _ ⟨k,rfl,rfl,hk0,hk1⟩;dsimp only [zA,fA]));refine jK (aa 17 3981) ?_;refine jW 8 [4] (aa 17 3997) ?_;refine bA [1,12] kR dC ⟨?_,?_,trivial⟩;(focus (refine aM F F ?_;(refine jF fun _=>?_);refine jK (aa 17 3999) ?_;((refine jG (aa 17 4031) 5 F (aN F F ?_) ?_;focus omega));refine bA [6,12] kR dC ⟨?_,?_,trivial⟩;(focus (refine aM F F ?_;((refine dV F F F ?_ (fun _ _=>?_);(focus ((simp only [List.length_append,List.length_cons,List.length_nil,List.length_take];omega);done))));refine jK (aa 17 4095) ?_;refine jA 12 F ?_;((refine af F F F (eR ?_ (by (repeat (assumption));done) ?_ ?_) rfl ?_;(focus omega);(focus omega);(focus ((first | assumption | (simp;done));done));rintro _ _ ⟨tx,q1,rfl,htx,rfl,hq1,hq2⟩;dsimp only [zA,fA]));refine jK (aa 17 8191) ?_;refine jA 13 F ?_;(refine jC F F F ?_);refine jK (aa 17 16383) ?_;refine jW 0 [14,15,16] (aa 17 131071) ?_;refine jQ ?_));rotate_left 1;(focus (refine aM F F ?_;((refine af F F F (eR ?_ (by (repeat (assumption));done) ?_ ?_) rfl ?_;(focus omega);(focus omega);(focus ((first | assumption | (simp;done));done));rintro _ _ ⟨tx,q1,rfl,htx,rfl,hq1,hq2⟩;dsimp only [zA,fA]));refine jK (aa 17 8127) ?_;refine bA [6,13] kR dC ⟨?_,?_,trivial⟩;(focus (refine aM F F ?_;((refine dV F F F ?_ (fun _ _=>?_);(focus ((simp only [List.length_append,List.length_cons,List.length_nil,List.length_take];omega);done))));refine jK (aa 17 8191) ?_;refine jA 13 F ?_;(refine jC F F F ?_);refine jK (aa 17 16383) ?_;refine jW 0 [14,15,16] (aa 17 131071) ?_;refine jQ ?_));rotate_left 1;(focus (refine aM F F ?_;(refine jC F F F ?_);refine jK (aa 17 16319) ?_;refine jA 6 F ?_;((refine dV F F F ?_ (fun _ _=>?_);(focus ((simp only [List.length_append,List.length_cons,List.length_nil,List.length_take];omega);done))));refine jK (aa 17 16383) ?_;refine jW 0 [14,15,16] (aa 17 131071) ?_;refine jQ ?_));rotate_left 1));rotate_left 2));rotate_left 3;(focus (refine aM F F ?_;((refine af F F F (eR ?_ (by (repeat (assumption));done) ?_ ?_) rfl ?_;(focus omega);(focus omega);(focus ((first | assumption | (simp;done));done));rintro _ _ ⟨tx,q1,rfl,htx,rfl,hq1,hq2⟩;dsimp only [zA,fA]));refine jK (aa 17 8093) ?_;refine bA [1,13] kR dC ⟨?_,?_,trivial⟩;(focus (refine aM F F ?_;(refine jF fun _=>?_);refine jK (aa 17 8095) ?_;((refine jG (aa 17 8127) 5 F (aN F F ?_) ?_;focus omega));refine bA [6,13] kR dC ⟨?_,?_,trivial⟩;(focus (refine aM F F ?_;((refine dV F F F ?_ (fun _ _=>?_);(focus ((simp only [List.length_append,List.length_cons,List.length_nil,List.length_take];omega);done))));refine jK (aa 17 8191) ?_;refine jA 13 F ?_;(refine jC F F F ?_);refine jK (aa 17 16383) ?_;refine jW 0 [14,15,16] (aa 17 131071) ?_;refine jQ ?_));rotate_left 1;(focus (refine aM F F ?_;(refine jC F F F ?_);refine jK (aa 17 16319) ?_;refine jA 6 F ?_;((refine dV F F F ?_ (fun _ _=>?_);(focus ((simp only [List.length_append,List.length_cons,List.length_nil,List.length_take];omega);done))));refine jK (aa 17 16383) ?_;refine jW 0 [14,15,16] (aa 17 131071) ?_;refine jQ ?_));rotate_left 1));rotate_left 2;(focus (refine aM F F ?_;(refine jC F F F ?_);refine jK (aa 17 16285) ?_;refine jA 1 F ?_;(refine jF fun _=>?_);refine jK (aa 17 16287) ?_;((refine jG (aa 17 16319) 5 F (aN F F ?_) ?_;focus omega));refine jA 6 F ?_;((refine dV F F F ?_ (fun _ _=>?_);(focus ((simp only [List.length_append,List.length_cons,List.length_nil,List.length_take];omega);done))));refine jK (aa 17 16383) ?_;refine jW 0 [14,15,16] (aa 17 131071) ?_;refine jQ ?_));rotate_left 1));rotate_left 3));rotate_left 6)
 all_goals repeat' (refine jR ?_)
 all_goals rename_i vI hvI
 all_goals obtain ⟨nI,rfl⟩:=xS hvI
 all_goals exact jZ (vs:=[_,_,_,_]) F ⟨aF F F F F,F,F,F,trivial⟩ F ⟨hle.trans h2,F,_,_,_,_,_,_,_,F,hsl1,⟨⟨oM,oM⟩,oM,oM⟩,hms⟩
theorem pu {v : Value} {l : ac8} (hs : be G v 1 l.length (bw l)) : bn ac7 12 [v] G (fun r G'=>∃ s a ms c n x,r = Tu [Ag [S s,.slice a (ms : List Mt).length c],S n,S x] ∧ be G' (.slice a ms.length c) 3 ms.length (aE eL ms) ∧ ((s.length ≤ 1048576 ∧ ms.length ≤ 1048576) ∧ n.length ≤ 1048576 ∧ x.length ≤ 1048576) ∧ (∀ x ∈ ms,gP x)):=by
 refine jB [(0,_)] Tryz.func12 Tryz.ntmps12 fun B hok hB hW=>?_
 repeat' (first | refine jR ?_ | (refine jo ?_;first | refine jL fun _=>?_ | refine jC F F F ?_ | refine jF fun _=>?_ | refine jV (aN F F oM) ?_ | (refine eg 64 F F F ?_ F (fun xs hxs=>?_);(focus ((simp only [List.length_append,List.length_cons,List.length_nil,List.length_take];omega);done))) | refine aB F ?_ | (refine dl F F F (oo (by (repeat (assumption));done)) rfl ?_;rintro _ _ ⟨b,code,l,rfl,rfl,hcd,hcl⟩;dsimp only [zA,fA]) | (refine cI F F F (jt ?_ (by (repeat (assumption));done)) rfl ?_;(focus omega);rintro _ G1 _ hle ⟨sv,a1,ms,ca,q1,rfl,hsl1,hb1,rfl,hq1,hq2⟩;dsimp only [zA,fA];skip) | (refine af F F F (ci ?_ (by (repeat (first | assumption | refine be.mono ?_ aS));done)) rfl ?_;(focus omega);rintro _ _ ⟨k,rfl,rfl,hk0,hk1⟩;dsimp only [zA,fA])))
 rename_i x2 x6 xA
 refine Nx.sealC (b:=x6) fun G2 h2 s7=>?_
 have hsl1:=hsl1.mono h2
 have hcd:=(hcd.mono hle).mono h2
 have hms:=hb1.2.2
 refine jo ?_
 refine cN F F F (qc hsl1 oM hb1.2.2) F ?_
 rintro _ ⟨m1,m2,m3,mb,rfl,hm2,hm3⟩
 repeat' (first | refine jR ?_ | (refine jo ?_;first | refine jL fun _=>?_ | refine jC F F F ?_ | refine ah F ?_) | refine gX F (fun _=>?_) (fun _=>?_))
 all_goals (refine aj (am (id:=8) [] (fun _ h=>absurd h (by simp)) ai ?_);refine jW 10 [1,3,4,5,7] (aa 15 186) ?_;(refine jG (aa 15 187) 0 F (m7 F F aS F F) ?_);(refine jG (aa 15 251) 6 F (rQ F F aS F) ?_);refine jA 2 F ?_;((refine af F F F (ci ?_ (by (repeat (assumption));done)) rfl ?_;(focus omega);rintro _ _ ⟨k,rfl,rfl,hk0,hk1⟩;dsimp only [zA,fA]));refine jK (aa 15 255) ?_;refine jA 8 F ?_;((refine af F F F (eR ?_ (by (repeat (assumption));done) ?_ ?_) rfl ?_;(focus omega);(focus omega);(focus ((first | assumption | (simp;done));done));rintro _ _ ⟨tx,q1,rfl,htx,rfl,hq1,hq2⟩;dsimp only [zA,fA]));refine jK (aa 15 511) ?_;refine jA 9 F ?_;((refine ab F F F (mM oM (by (repeat (assumption));done) oM (by (repeat (assumption));done) ?_) rfl ?_;focus omega));refine jK (aa 15 1023) ?_;refine jW 0 [10,11,12,13,14] (aa 15 32767) ?_;refine jQ ?_)
 all_goals
  have hpl:=ux (s:=sv) (a:=ms) (n:=k) (x:=xs) (out:=true) (w:=tx)
  generalize (bW sv ms k xs true tx).1 = t at *
  generalize (bW sv ms k xs true tx).2 = ok at *
  repeat' (first | refine jR ?_ | (refine jo ?_;first | refine jC F F F ?_ | refine jV (m7 F F aS F F) ?_ | (refine af F F F (ci ?_ (by (repeat (assumption));done)) rfl ?_;(focus omega);rintro _ _ ⟨k,rfl,rfl,hk0,hk1⟩;dsimp only [zA,fA]) | refine ab F F F q7 F ?_) | refine cB F (fun _=>?_) (fun _=>?_))
 all_goals have han:=zH (n:=k)
 all_goals exact jZ (vs:=[_,_,_]) F ⟨aF F F F F,F,F,trivial⟩ F ⟨hle.trans h2,F,_,_,_,_,_,_,F,hsl1,⟨⟨oM,oM⟩,oM,oM⟩,hms⟩
theorem tf {v : Value} {l : ac8} (hs : be G v 1 l.length (bw l)) : an ac7 3 [v] G (· = Bo true):=by
 obtain ⟨a,cap,rfl⟩:=hs.sl
 refine jB (Post:=fun v G' L'=>G' = G ∧ L' = [] ∧ _) [(0,_)] Tryz.func3 Tryz.ntmps3 fun B hok hB hW=>?_
 repeat' (first | refine jR ?_ | (refine jo ?_;first | refine jV (av F) ?_ | refine jL fun _=>?_ | refine jC F F F ?_ | refine aB F ?_ | refine aG F ?_ | refine ar F ?_ | (refine aK F F F (q4 (by (repeat (assumption));done)) rfl ?_;rintro _ G hle ⟨sv,a1,ms,ca,n1,x1,w1,rfl,hsl1,hsz,hms⟩;skip) | (refine ab F F F (ve oM (by (repeat (assumption));done) oM (by (repeat (assumption));done) ?_) rfl ?_;focus omega) | (refine ab F F F (vd oM (by (repeat (assumption));done) oM (by (repeat (assumption));done) ?_) rfl ?_;focus omega)) | refine ax F F (ay F) ?_ | (refine ak F F ?_ ?_;(focus ((simp [*];done);done))) | refine cB F (fun _=>?_) (fun _=>?_) | refine gX F (fun _=>?_) (fun _=>?_))
 ·refine Nx.base hok hB ?_
  refine jY (vs:=[_]) ?_
  rfl
 ·refine Nx.base hok hB ?_
  refine jY (vs:=[_]) ?_
  rw [aw];simp
 rename_i hb
 have hb : (bW sv ms n1 x1 false w1).2 = true:=by simpa using hb
 have hl:=pG (Prod.ext rfl hb : bW sv ms n1 x1 false w1 = ((bW sv ms n1 x1 false w1).1,true))
 obtain ⟨u,hc,ho⟩:=xd (Prod.ext rfl hb : bW sv ms n1 x1 false w1 = ((bW sv ms n1 x1 false w1).1,true))
 have cx_cg1:=vg (s:=sv) (a:=ms) (x:=(bW sv ms n1 x1 false w1).1) ⟨oM,oM⟩ hsl1 oM hms
 rw [hc] at cx_cg1
 unfold uV at cx_cg1
 dsimp only at cx_cg1
 rw [ho] at cx_cg1
 clear hc
 generalize (bW sv ms n1 x1 false w1).1 = t at *
 repeat' (first | refine jR ?_ | (refine jo ?_;first | refine aG F ?_ | refine ab F F F cx_cg1 F ?_) | (refine ax F F (by first | rfl | (refine decide_eq_true ?_;(rfl))) ?_))
 all_goals refine Nx.base hok hB ?_
 all_goals refine jY (vs:=[_]) ?_
 all_goals (rw [aw];simp)
theorem qZ {v : Value} {l : ac8} (hs : be G v 1 l.length (bw l)) : an ac7 5 [v] G (· = Bo true):=by
 obtain ⟨a,cap,rfl⟩:=hs.sl
 refine jB (Post:=fun v G' L'=>G' = G ∧ L' = [] ∧ _) [(0,_)] Tryz.func5 Tryz.ntmps5 fun B hok hB hW=>?_
 repeat' (first | refine jR ?_ | (refine jo ?_;first | refine jV (av F) ?_ | refine jL fun _=>?_ | refine jC F F F ?_ | refine aB F ?_ | refine aG F ?_ | refine ar F ?_ | (refine aK F F F (pt (by (repeat (assumption));done)) rfl ?_;rintro _ G hle ⟨sv,a1,ms,ca,n1,x1,w1,rfl,hsl1,hsz,hms⟩;skip) | (refine ab F F F (mN oM (by (repeat (assumption));done) oM (by (repeat (assumption));done) ?_) rfl ?_;focus omega) | (refine ab F F F (mM oM (by (repeat (assumption));done) oM (by (repeat (assumption));done) ?_) rfl ?_;focus omega)) | refine ax F F (ay F) ?_ | (refine ak F F ?_ ?_;(focus ((simp [*];done);done))) | refine cB F (fun _=>?_) (fun _=>?_) | refine gX F (fun _=>?_) (fun _=>?_))
 ·refine Nx.base hok hB ?_
  refine jY (vs:=[_]) ?_
  rfl
 ·refine Nx.base hok hB ?_
  refine jY (vs:=[_]) ?_
  rw [aw];simp
 rename_i hb
 have hb : (bW sv ms n1 x1 true w1).2 = true:=by simpa using hb
 have hl:=pG (Prod.ext rfl hb : bW sv ms n1 x1 true w1 = ((bW sv ms n1 x1 true w1).1,true))
 obtain ⟨u,hc,ho⟩:=zE (Prod.ext rfl hb : bW sv ms n1 x1 true w1 = ((bW sv ms n1 x1 true w1).1,true))
 have cx_ag1:=mO (s:=sv) (a:=ms) (nm:=x1) (x:=(bW sv ms n1 x1 true w1).1) ⟨oM,oM⟩ hsl1 oM hms
 rw [hc] at cx_ag1
 unfold mR at cx_ag1
 dsimp only at cx_ag1
 rw [ho] at cx_ag1
 clear hc
 generalize (bW sv ms n1 x1 true w1).1 = t at *
 repeat' (first | refine jR ?_ | (refine jo ?_;first | refine aG F ?_ | refine ab F F F cx_ag1 F ?_) | (refine ax F F (by first | rfl | (refine decide_eq_true ?_;(rfl))) ?_))
 all_goals refine Nx.base hok hB ?_
 all_goals refine jY (vs:=[_]) ?_
 all_goals (rw [aw];simp)
theorem q3 {v : Value} {l : ac8} (hs : be G v 1 l.length (bw l)) : an ac7 4 [v] G (· = Bo true):=by
 obtain ⟨a,cap,rfl⟩:=hs.sl
 refine jB (Post:=fun v G' L'=>G' = G ∧ L' = [] ∧ _) [(0,_)] Tryz.func4 Tryz.ntmps4 fun B hok hB hW=>?_
 repeat' (first | refine jR ?_ | (refine jo ?_;first | refine jV (av F) ?_ | refine jL fun _=>?_ | refine jC F F F ?_ | refine aB F ?_ | (refine aK F F F (pu (by (repeat (assumption));done)) rfl ?_;rintro _ G hle ⟨sv,a1,ms,ca,n1,x1,rfl,hsl1,hsz,hms⟩;skip)) | refine cB F (fun _=>?_) (fun _=>?_))
 ·refine Nx.base hok hB ?_
  refine jY (vs:=[_]) ?_
  rfl
 have cx_ag1:=mO (s:=sv) (a:=ms) (nm:=n1) (x:=x1) ⟨oM,oM⟩ hsl1 oM hms
 have cx_ag2:=sT (s:=sv) (a:=ms) (nm:=n1) (x:=x1) ⟨oM,oM⟩ hsl1 oM hms
 cases h : hZ sv ms n1 x1 with
 | none =>
  rw [h] at cx_ag1 cx_ag2
  unfold mR at cx_ag1 cx_ag2
  dsimp only at cx_ag1 cx_ag2
  repeat' (first | refine jR ?_ | (refine jo ?_;first | refine aB F ?_ | refine aG F ?_ | refine ar F ?_ | refine ab F F F cx_ag1 F ?_ | refine ab F F F cx_ag2 F ?_) | refine ax F F F ?_ | refine ak F F F ?_ | refine ac F F ?_)
  all_goals refine Nx.base hok hB ?_
  all_goals refine jY (vs:=[_]) ?_
  all_goals rfl
 | some z =>
  obtain ⟨n,o⟩:=z
  rw [h] at cx_ag1 cx_ag2
  cases o with
  | none =>
   obtain ⟨h0,h1⟩:=xz h
   unfold mR at cx_ag1 cx_ag2
   dsimp only at cx_ag1 cx_ag2
   have ha : nL n = x1:=by rw [h1];unfold nL;rw [if_pos h0];rfl
   have hb : sV n = true:=decide_eq_true h0
   clear h h1
   repeat' (first | refine jR ?_ | (refine jo ?_;first | refine aB F ?_ | refine aG F ?_ | refine ar F ?_ | refine ab F F F cx_ag1 F ?_ | refine ab F F F cx_ag2 F ?_ | refine ab F F F lZ F ?_) | (refine ax F F (by first | rfl | assumption | (refine decide_eq_true ?_;(rfl))) ?_) | refine ak F F F ?_ | refine ad F F ?_)
   all_goals refine Nx.base hok hB ?_
   all_goals refine jY (vs:=[_]) ?_
   all_goals (rw [aw];simp [*])
  | some u =>
  have hp:=zG h
  have hl:=pG hp
  have cx_cp1:=mN (s:=sv) (a:=ms) (x:=n1) (w:=u.out) (n:=n) oM hsl1 oM hms ⟨oM,oM⟩
  rw [hp] at cx_cp1
  dsimp only at cx_cp1
  unfold mR at cx_ag1 cx_ag2
  dsimp only at cx_ag1 cx_ag2
  clear h hp
  generalize u.out = uo at *
  repeat' (first | refine jR ?_ | (refine jo ?_;first | refine aB F ?_ | refine aG F ?_ | refine ar F ?_ | refine ab F F F cx_ag1 F ?_ | refine ab F F F cx_ag2 F ?_ | refine ab F F F lZ F ?_ | refine ab F F F cx_cp1 F ?_) | (refine ax F F (by first | rfl | (refine decide_eq_true ?_;(rfl))) ?_) | refine ak F F F ?_ | refine ac F F ?_ | refine ad F F ?_)
  all_goals refine Nx.base hok hB ?_
  all_goals refine jY (vs:=[_]) ?_
  all_goals (exact congrArg Value.bool (decide_eq_true F))
end Go.E
