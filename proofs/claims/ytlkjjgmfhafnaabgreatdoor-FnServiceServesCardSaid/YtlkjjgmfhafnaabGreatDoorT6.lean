/- Contracts and plain laws that the statement rests on, part 6. Conditions: as each says. -/
import Derived.Test.YtlkjjgmfhafnaabGreatDoorT5
set_option linter.unusedVariables false
set_option linter.unusedSimpArgs false
namespace Go.E
set_option maxRecDepth 20000
set_option maxHeartbeats 2000000
open Go.Proofs
variable {G : Gh}
abbrev wt : TypeId:=112
abbrev wr : TypeId:=112
abbrev nA : TypeId:=110
theorem eB {gs : List Fld} {a : Int} {b c d : abu} : ao cF gs ++ [I a,S b,S c,S d] = ao cF (gs ++ [⟨a,b,c,d⟩]):=(cn cF gs ⟨a,b,c,d⟩).symm
theorem c7 {gs : List Fld} {f : Fld} : gs.length + 1 = (gs ++ [f]).length:=by simp
theorem fL {gs : List Fld} {f : Fld} (h : ∀ x ∈ gs,li x) (hf : li f) : ∀ x ∈ gs ++ [f],li x:=by
 intro x hx
 rcases List.mem_append.1 hx with hx | hx
 ·exact h x hx
 ·rw [List.mem_singleton.1 hx];exact hf
theorem yZ {k : Nat} {f : Fld} (h : FldW k f) : li f:=by
 have h1:=h.tag
 have h2:=h.name
 unfold bQ at h2
 simp only [Bool.and_eq_true,decide_eq_true_eq] at h2
 refine ⟨oM,oM,?_,?_⟩
 ·by_cases h3 : k = 69
  ·rw [(h.enm h3).1];simp
  ·have:=(dy (h.kind h3)).2;omega
 ·by_cases h3 : f.stand = []
  ·rw [h3];simp
  ·have h4:=(h.stand h3).2
   unfold bx at h4
   split at h4
   ·rw [Bool.and_eq_true] at h4
    obtain ⟨n,hn⟩:=Option.isSome_iff_exists.1 h4.1
    have:=(eh hn).2.2
    omega
   ·split at h4
    ·rw [Bool.and_eq_true] at h4
     have h5:=h4.1
     unfold dn at h5
     have h6:=of_decide_eq_true h5
     have:=h6.1.2
     omega
    ·split at h4
     ·rw [of_decide_eq_true h4];decide
     ·cases h4
set_option maxHeartbeats 8000000 in
theorem tM {r : Nat} {code : Value} {p : Int} {l : abu} (hp : 0 ≤ p ∧ p ≤ 400000000000) (hs : bh G code 1 l.length (bB l)) :
  cX abt 49 [Pt r 0] G [en r code p dm] (fun v G' L'=>∃ a b c d q,v = Tu [S a,S b,S c,S d] ∧ (a.length ≤ 400000 ∧ b.length ≤ 400 ∧ c.length ≤ 20000 ∧ d.length ≤ 400) ∧ L' = [en r code q dm] ∧ p ≤ q ∧ q ≤ p + 10000):=by
 refine b7 [(0,_)] Tryz.func49 kR Tryz.ntmps49 F F tU fun B hB hW=>?_
 repeat' (first | refine jR ?_ | (refine jo ?_;first | refine aP F ?_ | refine aH F ?_ | refine jV (aq F) ?_ | (refine ai F F F (mN ?_ (by (repeat (assumption));done)) rfl ?_;(focus omega);rintro _ _ ⟨sc,q1,rfl,hsc,rfl,hq1,hq2⟩;dsimp only [zA,fA]) | (refine ai F F F (gg ?_ (by (repeat (assumption));done) ?_) rfl ?_;(focus omega);(focus omega);rintro _ _ ⟨kd,q1,rfl,hkd,rfl,hq1,hq2⟩;dsimp only [zA,fA]) | (refine aM F F F (lZ oM) F ?_;rintro _ G hle ⟨u,vs,rfl,hsch,hvl,hvs⟩;(try have hs:=hs.mono hle);(try obtain ⟨_,_,rfl⟩:=hsch.sl.sl)) | (refine ai F F F (cQ ?_ (by (repeat (assumption));done)) rfl ?_;(focus omega);rintro _ _ ⟨k,rfl,rfl,hk0,hk1⟩;dsimp only [zA,fA])) | refine kN F F (fun _=>?_) (fun _=>?_) | refine ae F F ?_ | refine cJ F (fun _=>?_) (fun _=>?_))
 ·refine aN (vs:=[_,_,_,_]) F ⟨F,F,F,F,trivial⟩ F a6 ⟨hle,_,_,_,_,_,F,⟨oM,oM,oM,oM⟩,F,oM,oM⟩
 ·refine aN (vs:=[_,_,_,_]) F ⟨F,F,F,F,trivial⟩ F a6 ⟨hle,_,_,_,_,_,F,⟨oM,oM,oM,oM⟩,F,oM,oM⟩
 rename_i Ga hs0 q0 hqa hqb ua uc hsome _
 have hts : ∃ ts,ax sc = some ts:=by
  cases hx : ax sc with
  | none=>rw [hx] at hsome;cases hsome
  | some ts=>exact ⟨ts,F⟩
 obtain ⟨ts,hts⟩:=hts
 have hT1:=hvs ts hts
 have hw:=co hts
 subst hT1
 clear hvs hsome
 refine aU (ι:=abu × Nat × Int × Gh) (fun j=>(Gh.le G j.2.2.2 ∧ j.2.1 ≤ vs.length) ∧ j.1.length ≤ 40000 * j.2.1 ∧ (q1 + 1 ≤ j.2.2.1 ∧ j.2.2.1 ≤ q1 + 1 + 200 * (j.2.1 : Int))) (fun j=>[(0,Pt r 0),(6,S sc),(7,S kd),(10,S j.1),(39,.slice ua vs.length uc),(40,I (vs.length : Nat)),(41,I (j.2.1 : Nat))]) (fun j=>j.2.2.2) (fun j=>[en r code j.2.2.1 dm]) (fun j=>vs.length - j.2.1) ([],0,q1 + 1,G) ?_ tU F a6 (fun j Hj=>?_)
 ·exact ⟨⟨Gh.le.refl _,Nat.zero_le _⟩,by simp,by dsimp only;omega,by dsimp only;omega⟩
 obtain ⟨out,i,q,Gq⟩:=j
 dsimp only at Hj ⊢
 obtain ⟨⟨hgq,hi0⟩,hol,hqc,hqd⟩:=Hj
 by_cases hi : i < vs.length
 case neg =>
  repeat' (first | refine jR ?_ | refine af F (aF oM) ?_)
  all_goals refine aN (vs:=[_,_,_,_]) F ⟨F,F,F,F,trivial⟩ F a6 ⟨hle.trans hgq,_,_,_,_,_,F,⟨oM,oM,oM,oM⟩,F,oM,oM⟩
 have hxm : ac vs i ∈ vs:=a7 hi
 obtain ⟨bv,ov,cv,e,hseg⟩:=hsch.sl.expl oM
 simp only [Value.slice.injEq] at e
 obtain ⟨rfl,-,rfl⟩:=e
 have hseg:=hseg.mono hgq
 have hfl:=(hsch.fl _ hxm).mono hgq
 have hTW:=hw.ty _ (List.mem_map_of_mem hxm)
 have hf8:=hTW.len
 rcases hnx : ac vs i with ⟨⟨fa,fc⟩,⟨so,nm,fs⟩⟩
 rw [hnx] at hfl hTW hf8 hxm
 unfold iB at hfl
 dsimp only at hfl hf8
 have hso : so ≤ 255:=by have:=hTW.sort;dsimp only at this;rcases this with h | h | h <;> omega
 have hnm : nm.length ≤ 100:=by
  have h2:=hTW.name
  unfold bQ at h2
  simp only [Bool.and_eq_true,decide_eq_true_eq] at h2
  omega
 have hs1:=hs.mono hgq
 clear hs hs0
 have hs:=hs1
 clear hs1
 repeat' (first | refine jR ?_ | (refine jo ?_;first | refine jV (aq F) ?_ | refine jV (al F F oM) ?_ | refine ah F ?_ | (refine jV (yS F F aS ?_ aS) ?_;focus omega) | refine jL fun _=>?_ | refine jC F F F ?_ | refine jV (am F F) ?_) | refine ae F (aC oM) ?_)
 rename_i x12 x13
 dsimp only [iB,iX]
 refine Nx.addNil wt 4 (Nx.perm (List.perm_append_comm (l₁:=[_,_,_]) (l₂:=[_])) ?_)
 dsimp only [zA,fA]
 refine aU (ι:=List Fld × Option Addr × Nat × Nat × Int × Int) (fun y=>(y.2.2.2.1 ≤ fs.length ∧ y.1.length ≤ 2 * y.2.2.2.1) ∧ (∀ f ∈ y.1,li f) ∧ (0 ≤ y.2.2.2.2.1 ∧ y.2.2.2.2.1 ≤ 200) ∧ (q ≤ y.2.2.2.2.2 ∧ y.2.2.2.2.2 ≤ q + 20 * (y.2.2.2.1 : Int))) (fun y=>[(0,Pt r 0),(6,S sc),(7,S kd),(10,S out),(39,.slice (some ⟨bv,ov,none⟩) vs.length uc),(40,I (vs.length : Nat)),(41,I (i : Nat)),(12,Pt x12 0),(13,Pt x13 0),(14,I y.2.2.2.2.1),(51,.slice fa fs.length fc),(52,I (fs.length : Nat)),(53,I (y.2.2.2.1 : Nat))]) (fun y=>Gq) (fun y=>[en r code y.2.2.2.2.2 dm,.acc (.slice y.2.1 y.1.length y.2.2.1) wt 4 y.1.length (ao cF y.1),.blk x13 (.cells (List.toArray [U8 so,S nm,.slice y.2.1 y.1.length y.2.2.1]) nA (0,0)),.blk x12 (.cells (List.toArray [U8 so,S nm,.slice fa fs.length fc]) nA (0,0))]) (fun y=>fs.length - y.2.2.2.1) ([],none,0,0,0,q) ?_ tU F a6 (fun y Hy=>?_)
 ·exact ⟨⟨Nat.zero_le _,by simp⟩,fun f hf=>(by cases hf),⟨Int.le_refl 0,by show (0 : Int) ≤ 200;omega⟩,by dsimp only;omega,by dsimp only;omega⟩
 obtain ⟨gs,ga,gc,jj,last,qq⟩:=y
 dsimp only at Hy ⊢
 obtain ⟨⟨hj0,hgl⟩,hgb,⟨hla0,hla1⟩,hqe,hqf⟩:=Hy
 by_cases hj : jj < fs.length
 case neg =>
  repeat' (first | refine jR ?_ | (refine jo ?_;first | refine aP F ?_ | refine aH F ?_ | refine aK F ?_ | (refine ai F F F (cQ ?_ (by (repeat (assumption));done)) rfl ?_;(focus omega);rintro _ _ ⟨k,rfl,rfl,hk0,hk1⟩;dsimp only [zA,fA])) | refine dR F F (fun _=>?_) (fun _=>?_) | (refine af F (by first | rfl | (refine decide_eq_false ?_;(omega))) ?_) | refine cJ F (fun _=>?_) (fun _=>?_))
  ·(refine ak (ar (id:=25) [.blk x12 (.cells (List.toArray [U8 so,S nm,.slice fa fs.length fc]) nA (0,0))] (by intro y hy;simp only [List.mem_cons,List.not_mem_nil,or_false] at hy ⊢;simp [hy]) aj ?_);refine jW 11 [0,2,3,4,7] (aa 16 157) ?_;(refine jG (aa 16 413) 8 F (an F F F) ?_);refine jW 9 [9] (aa 16 925) ?_;refine cd [1,5] kR dC ⟨?_,?_,trivial⟩;(focus (refine aX F F ?_;(refine ah F ?_);refine jK (aa 16 927) ?_;refine jA 5 F ?_;((refine ai F F F (cQ ?_ (by (repeat (assumption));done)) rfl ?_;(focus omega);rintro _ _ ⟨k,rfl,rfl,hk0,hk1⟩;dsimp only [zA,fA]));refine jK (aa 16 959) ?_;refine jW 6 [6] (aa 16 1023) ?_;refine jA 10 F ?_;(refine ad F F F eD F ?_);refine jK (aa 16 2047) ?_;(refine jG (aa 16 4095) 11 F (am F F) ?_);refine jA 12 F ?_;(refine jF fun _=>?_);refine jK (aa 16 8191) ?_;refine jA 13 F ?_;((refine bj F F F F F F F F F ?_ fun _ _=>?_;focus omega));refine jK (aa 16 16383) ?_;refine jW 1 [14] (aa 16 32767) ?_;refine jA 15 F ?_;(refine jD F F F ?_);refine jK (aa 16 65535) ?_;refine jQ ?_));rotate_left 1;(focus (refine aX F F ?_;((refine ai F F F (cQ ?_ (by (repeat (assumption));done)) rfl ?_;(focus omega);rintro _ _ ⟨k,rfl,rfl,hk0,hk1⟩;dsimp only [zA,fA]));refine jK (aa 16 957) ?_;refine jW 7 [6] (aa 16 1021) ?_;refine cd [1,10] kR dC ⟨?_,?_,trivial⟩;(focus (refine aX F F ?_;(refine ah F ?_);refine jK (aa 16 1023) ?_;refine jA 10 F ?_;(refine ad F F F eD F ?_);refine jK (aa 16 2047) ?_;(refine jG (aa 16 4095) 11 F (am F F) ?_);refine jA 12 F ?_;(refine jF fun _=>?_);refine jK (aa 16 8191) ?_;refine jA 13 F ?_;((refine bj F F F F F F F F F ?_ fun _ _=>?_;focus omega));refine jK (aa 16 16383) ?_;refine jW 1 [14] (aa 16 32767) ?_;refine jA 15 F ?_;(refine jD F F F ?_);refine jK (aa 16 65535) ?_;refine jQ ?_));rotate_left 1;(focus (refine aX F F ?_;(refine ad F F F eD F ?_);refine jK (aa 16 2045) ?_;(refine jG (aa 16 4093) 11 F (am F F) ?_);refine cd [1,12] kR dC ⟨?_,?_,trivial⟩;(focus (refine aX F F ?_;(refine ah F ?_);refine jK (aa 16 4095) ?_;refine jA 12 F ?_;(refine jF fun _=>?_);refine jK (aa 16 8191) ?_;refine jA 13 F ?_;((refine bj F F F F F F F F F ?_ fun _ _=>?_;focus omega));refine jK (aa 16 16383) ?_;refine jW 1 [14] (aa 16 32767) ?_;refine jA 15 F ?_;(refine jD F F F ?_);refine jK (aa 16 65535) ?_;refine jQ ?_));rotate_left 1;(focus (refine aX F F ?_;(refine jF fun _=>?_);refine jK (aa 16 8189) ?_;refine jA 1 F ?_;(refine ah F ?_);refine jK (aa 16 8191) ?_;refine jA 13 F ?_;((refine bj F F F F F F F F F ?_ fun _ _=>?_;focus omega));refine jK (aa 16 16383) ?_;refine jW 1 [14] (aa 16 32767) ?_;refine jA 15 F ?_;(refine jD F F F ?_);refine jK (aa 16 65535) ?_;refine jQ ?_));rotate_left 1));rotate_left 2));rotate_left 3)
   all_goals repeat' (first | refine jR ?_ | (refine jo ?_;refine aK F ?_))
   all_goals
    rename_i k2 _ _ _ hk2a hk2b _ y1 yc
    rw [show ao cF gs ++ [I (last + 1 + k),S [122,122],S (if decide ((so : Int) = 69) = true then [] else [116]),S []] = ao cF (gs ++ [⟨last + 1 + k,[122,122],if decide ((so : Int) = 69) = true then [] else [116],[]⟩]) from eB]
    refine Nx.sealS (v:=.slice (some ⟨y1,0,none⟩) (gs.length + 1) yc) fun G2 hG2 hsl=>?_
    have hln : (gs ++ [(⟨last + 1 + k,[122,122],if decide ((so : Int) = 69) = true then [] else [116],[]⟩ : Fld)]).length = gs.length + 1:=by simp
    rw [← hln] at hsl
    have hgb2 : ∀ f ∈ gs ++ [(⟨last + 1 + k,[122,122],if decide ((so : Int) = 69) = true then [] else [116],[]⟩ : Fld)],li f:=fun f hf=>by
     rcases List.mem_append.1 hf with hf | hf
     ·exact hgb f hf
     ·simp only [List.mem_singleton] at hf
      subst hf
      exact ⟨by dsimp only;omega,by dsimp only;decide,by dsimp only;split <;> decide,by dsimp only;decide⟩
    have cx_tyo:=oU hsl hgb2 oM hnm hso
    rw [hln] at cx_tyo
    repeat' (first | refine jM ?_ | (refine jo ?_;(refine dO F F F cx_tyo F ?_;rintro _ ⟨ox,rfl,hox⟩)))
    refine Nx.re (d:=41) (v':=I (i + 1 : Nat)) F (congrArg (Value.int .i64) oM) ?_
    exact aT (out ++ ox,i + 1,qq + 1 + 1,G2) ⟨⟨hgq.trans hG2,by dsimp only;omega⟩,by dsimp only;simp only [List.length_append];omega,by dsimp only;omega,by dsimp only;omega⟩ (by dsimp only;omega) tU rfl sB
  ·refine Nx.sealS (v:=.slice ga gs.length gc) fun G2 hG2 hsl=>?_
   have cx_tyo:=oU hsl hgb oM hnm hso
   repeat' (first | refine jM ?_ | (refine jo ?_;(refine dO F F F cx_tyo F ?_;rintro _ ⟨ox,rfl,hox⟩)))
   refine Nx.re (d:=41) (v':=I (i + 1 : Nat)) F (congrArg (Value.int .i64) oM) ?_
   exact aT (out ++ ox,i + 1,qq + 1,G2) ⟨⟨hgq.trans hG2,by dsimp only;omega⟩,by dsimp only;simp only [List.length_append];omega,by dsimp only;omega,by dsimp only;omega⟩ (by dsimp only;omega) tU rfl sB
  ·refine Nx.sealS (v:=.slice ga gs.length gc) fun G2 hG2 hsl=>?_
   have cx_tyo:=oU hsl hgb oM hnm hso
   repeat' (first | refine jM ?_ | (refine jo ?_;(refine dO F F F cx_tyo F ?_;rintro _ ⟨ox,rfl,hox⟩)))
   refine Nx.re (d:=41) (v':=I (i + 1 : Nat)) F (congrArg (Value.int .i64) oM) ?_
   exact aT (out ++ ox,i + 1,qq + 1,G2) ⟨⟨hgq.trans hG2,by dsimp only;omega⟩,by dsimp only;simp only [List.length_append];omega,by dsimp only;omega,by dsimp only;omega⟩ (by dsimp only;omega) tU rfl sB
 have hfm : ac fs jj ∈ fs:=a7 hj
 have hFW:=hTW.fld _ hfm
 obtain ⟨bw,ow,cw,e,hsw⟩:=hfl.expl oM
 simp only [Value.slice.injEq] at e
 obtain ⟨rfl,-,rfl⟩:=e
 have hFB : li (ac fs jj):=yZ hFW
 obtain ⟨⟨ht0,ht1⟩,hb1,hb2,hb3⟩:=hFB
 have htg : 1 ≤ (ac fs jj).tag ∧ (ac fs jj).tag ≤ 200:=hFW.tag
 by_cases h82 : so = 82
 ·repeat' (first | refine jM ?_ | (refine jo ?_;first | refine aP F ?_ | refine aH F ?_ | refine jV (al F F oM) ?_ | refine ah F ?_ | (refine jV (bz F F aS ?_) ?_;focus omega) | refine aK F ?_ | refine jL fun _=>?_ | refine jD F F F ?_ | refine jC F F F ?_ | refine jF fun _=>?_ | refine bj F F F F F F F F F oM fun _ _=>?_ | (refine ai F F F (cQ ?_ (by (repeat (assumption));done)) rfl ?_;(focus omega);rintro _ _ ⟨k,rfl,rfl,hk0,hk1⟩;dsimp only [zA,fA]) | (refine ai F F F (gh ?_ (by (repeat (assumption));done)) rfl ?_;(focus omega);rintro _ _ ⟨kd,q1,rfl,hkd,rfl,hq1,hq2⟩;dsimp only [zA,fA])) | refine aO F F (aC oM) ?_ | refine dR F F (fun _=>?_) (fun _=>?_) | refine ae F (aC oM) ?_ | refine af F F ?_ | refine cJ F (fun _=>?_) (fun _=>?_))
  ·refine Nx.re (d:=53) (v':=I (jj + 1 : Nat)) F (congrArg (Value.int .i64) oM) ?_
   exact aT (gs,ga,gc,jj + 1,last,qq + 1) ⟨⟨by dsimp only;omega,by dsimp only;omega⟩,hgb,⟨hla0,hla1⟩,by dsimp only;omega,by dsimp only;omega⟩ (by dsimp only;omega) tU rfl sB
  ·rename_i x16 k4 hk4a hk4b hne h0 hlt
   (refine ak (ar (id:=17) [.blk x16 (.cells (List.toArray [I (ac fs jj).tag,S (ac fs jj).name,S (ac fs jj).kind,S (ac fs jj).stand]) wr (0,0)),.blk x12 (.cells (List.toArray [U8 so,S nm,.slice (some ⟨bw,ow,none⟩) fs.length fc]) nA (0,0))] (by intro y hy;simp only [List.mem_cons,List.not_mem_nil,or_false] at hy ⊢;rcases hy with hy | hy <;> simp [hy]) aj ?_);refine jW 13 [0,2,5,6,7,10] (aa 19 1253) ?_;(refine jG (aa 19 1261) 3 F (an F F F) ?_);refine jW 11 [4] (aa 19 1277) ?_;(refine jG (aa 19 3325) 11 F (an F F F) ?_);refine jW 9 [12] (aa 19 7421) ?_;refine cd [1,8,13] kR dC ⟨?_,?_,?_,trivial⟩;(focus (refine aX F F ?_;(refine ah F ?_);refine jK (aa 19 7423) ?_;refine cd [8,13] kR dC ⟨?_,?_,trivial⟩;(focus (refine aX F F ?_;(refine jF fun _=>?_);refine jr mM sB (listed':=(aa 19 7679)) kR ?_;((refine jG (aa 19 8191) 9 F (dJ F F (by (repeat (first | exact BL.nil | apply BL.cons));done)) ?_));refine jA 13 F ?_;(refine ad F F F eD F ?_);refine jK (aa 19 16383) ?_;(refine jG (aa 19 32767) 14 F (am F F) ?_);refine jA 15 F ?_;(refine jF fun _=>?_);refine jK (aa 19 65535) ?_;refine jA 16 F ?_;((refine bj F F F F F F F F F ?_ fun _ _=>?_;focus omega));refine jK (aa 19 131071) ?_;refine jW 1 [17] (aa 19 262143) ?_;refine jA 18 F ?_;(refine jD F F F ?_);refine jK (aa 19 524287) ?_;refine jQ ?_));rotate_left 1;(focus (refine aX F F ?_;(refine ad F F F eD F ?_);refine jK (aa 19 15615) ?_;refine jA 8 F ?_;(refine jF fun _=>?_);refine jr mM sB (listed':=(aa 19 15871)) kR ?_;((refine jG (aa 19 16383) 9 F (dJ F F (by (repeat (first | exact BL.nil | apply BL.cons));done)) ?_));(refine jG (aa 19 32767) 14 F (am F F) ?_);refine jA 15 F ?_;(refine jF fun _=>?_);refine jK (aa 19 65535) ?_;refine jA 16 F ?_;((refine bj F F F F F F F F F ?_ fun _ _=>?_;focus omega));refine jK (aa 19 131071) ?_;refine jW 1 [17] (aa 19 262143) ?_;refine jA 18 F ?_;(refine jD F F F ?_);refine jK (aa 19 524287) ?_;refine jQ ?_));rotate_left 1));rotate_left 2;(focus (refine aX F F ?_;(refine jF fun _=>?_);refine jr mM sB (listed':=(aa 19 7677)) kR ?_;((refine jG (aa 19 8189) 9 F (dJ F F (by (repeat (first | exact BL.nil | apply BL.cons));done)) ?_));refine cd [1,13] kR dC ⟨?_,?_,trivial⟩;(focus (refine aX F F ?_;(refine ah F ?_);refine jK (aa 19 8191) ?_;refine jA 13 F ?_;(refine ad F F F eD F ?_);refine jK (aa 19 16383) ?_;(refine jG (aa 19 32767) 14 F (am F F) ?_);refine jA 15 F ?_;(refine jF fun _=>?_);refine jK (aa 19 65535) ?_;refine jA 16 F ?_;((refine bj F F F F F F F F F ?_ fun _ _=>?_;focus omega));refine jK (aa 19 131071) ?_;refine jW 1 [17] (aa 19 262143) ?_;refine jA 18 F ?_;(refine jD F F F ?_);refine jK (aa 19 524287) ?_;refine jQ ?_));rotate_left 1;(focus (refine aX F F ?_;(refine ad F F F eD F ?_);refine jK (aa 19 16381) ?_;(refine jG (aa 19 32765) 14 F (am F F) ?_);refine cd [1,15] kR dC ⟨?_,?_,trivial⟩;(focus (refine aX F F ?_;(refine ah F ?_);refine jK (aa 19 32767) ?_;refine jA 15 F ?_;(refine jF fun _=>?_);refine jK (aa 19 65535) ?_;refine jA 16 F ?_;((refine bj F F F F F F F F F ?_ fun _ _=>?_;focus omega));refine jK (aa 19 131071) ?_;refine jW 1 [17] (aa 19 262143) ?_;refine jA 18 F ?_;(refine jD F F F ?_);refine jK (aa 19 524287) ?_;refine jQ ?_));rotate_left 1;(focus (refine aX F F ?_;(refine jF fun _=>?_);refine jK (aa 19 65533) ?_;refine jA 1 F ?_;(refine ah F ?_);refine jK (aa 19 65535) ?_;refine jA 16 F ?_;((refine bj F F F F F F F F F ?_ fun _ _=>?_;focus omega));refine jK (aa 19 131071) ?_;refine jW 1 [17] (aa 19 262143) ?_;refine jA 18 F ?_;(refine jD F F F ?_);refine jK (aa 19 524287) ?_;refine jQ ?_));rotate_left 1));rotate_left 2));rotate_left 3;(focus (refine aX F F ?_;(refine ad F F F eD F ?_);refine jK (aa 19 15613) ?_;refine cd [1,8] kR dC ⟨?_,?_,trivial⟩;(focus (refine aX F F ?_;(refine ah F ?_);refine jK (aa 19 15615) ?_;refine jA 8 F ?_;(refine jF fun _=>?_);refine jr mM sB (listed':=(aa 19 15871)) kR ?_;((refine jG (aa 19 16383) 9 F (dJ F F (by (repeat (first | exact BL.nil | apply BL.cons));done)) ?_));(refine jG (aa 19 32767) 14 F (am F F) ?_);refine jA 15 F ?_;(refine jF fun _=>?_);refine jK (aa 19 65535) ?_;refine jA 16 F ?_;((refine bj F F F F F F F F F ?_ fun _ _=>?_;focus omega));refine jK (aa 19 131071) ?_;refine jW 1 [17] (aa 19 262143) ?_;refine jA 18 F ?_;(refine jD F F F ?_);refine jK (aa 19 524287) ?_;refine jQ ?_));rotate_left 1;(focus (refine aX F F ?_;(refine jF fun _=>?_);refine jr mM sB (listed':=(aa 19 15869)) kR ?_;((refine jG (aa 19 16381) 9 F (dJ F F (by (repeat (first | exact BL.nil | apply BL.cons));done)) ?_));(refine jG (aa 19 32765) 14 F (am F F) ?_);refine cd [1,15] kR dC ⟨?_,?_,trivial⟩;(focus (refine aX F F ?_;(refine ah F ?_);refine jK (aa 19 32767) ?_;refine jA 15 F ?_;(refine jF fun _=>?_);refine jK (aa 19 65535) ?_;refine jA 16 F ?_;((refine bj F F F F F F F F F ?_ fun _ _=>?_;focus omega));refine jK (aa 19 131071) ?_;refine jW 1 [17] (aa 19 262143) ?_;refine jA 18 F ?_;(refine jD F F F ?_);refine jK (aa 19 524287) ?_;refine jQ ?_));rotate_left 1;(focus (refine aX F F ?_;(refine jF fun _=>?_);refine jK (aa 19 65533) ?_;refine jA 1 F ?_;(refine ah F ?_);refine jK (aa 19 65535) ?_;refine jA 16 F ?_;((refine bj F F F F F F F F F ?_ fun _ _=>?_;focus omega));refine jK (aa 19 131071) ?_;refine jW 1 [17] (aa 19 262143) ?_;refine jA 18 F ?_;(refine jD F F F ?_);refine jK (aa 19 524287) ?_;refine jQ ?_));rotate_left 1));rotate_left 2));rotate_left 3)
   all_goals rename_i n1 n2 n3
   all_goals
    rw [show ao cF gs ++ [I ((ac fs jj).tag - 1),S [u8 (101 + (jj : Int))],S (if decide ((so : Int) = 69) = true then [] else [110]),S []] = ao cF (gs ++ [⟨(ac fs jj).tag - 1,[u8 (101 + (jj : Int))],if decide ((so : Int) = 69) = true then [] else [110],[]⟩]) from eB,c7 (f:=⟨(ac fs jj).tag - 1,[u8 (101 + (jj : Int))],if decide ((so : Int) = 69) = true then [] else [110],[]⟩)]
    have hgb:=fL (f:=⟨(ac fs jj).tag - 1,[u8 (101 + (jj : Int))],if decide ((so : Int) = 69) = true then [] else [110],[]⟩) hgb ⟨by dsimp only;omega,by simp,by dsimp only;split <;> decide,by simp⟩
    have hgl : (gs ++ [(⟨(ac fs jj).tag - 1,[u8 (101 + (jj : Int))],if decide ((so : Int) = 69) = true then [] else [110],[]⟩ : Fld)]).length ≤ 2 * jj + 1:=by rw [← c7];omega
    generalize gs ++ [(⟨(ac fs jj).tag - 1,[u8 (101 + (jj : Int))],if decide ((so : Int) = 69) = true then [] else [110],[]⟩ : Fld)] = gs at *
    repeat' (first | refine jM ?_ | (refine jo ?_;first | refine aP F ?_ | refine aH F ?_ | refine ah F ?_ | refine aK F ?_ | refine jD F F F ?_ | refine jF fun _=>?_ | refine bj F F F F F F F F F oM fun _ _=>?_ | (refine ai F F F (cQ ?_ (by (repeat (assumption));done)) rfl ?_;(focus omega);rintro _ _ ⟨k,rfl,rfl,hk0,hk1⟩;dsimp only [zA,fA]) | (refine ai F F F (gh ?_ (by (repeat (assumption));done)) rfl ?_;(focus omega);rintro _ _ ⟨kd,q1,rfl,hkd,rfl,hq1,hq2⟩;dsimp only [zA,fA])) | refine dR F F (fun _=>?_) (fun _=>?_) | refine ae F (aC oM) ?_ | refine af F F ?_)
   all_goals (focus (rename_i y1 yc;refine Nx.re (d:=53) (v':=I (jj + 1 : Nat)) F (congrArg (Value.int .i64) oM) ?_;refine Nx.perm (List.perm_middle (l₁:=[_,_])) ?_;dsimp only [zA,fA];first | (rw [show ao cF gs ++ [I (ac fs jj).tag,S (ac fs jj).name,S kd,.string ⟨#[]⟩] = ao cF (gs ++ [⟨(ac fs jj).tag,(ac fs jj).name,kd,[]⟩]) from eB,c7 (f:=⟨(ac fs jj).tag,(ac fs jj).name,kd,[]⟩)];refine aT (gs ++ [⟨(ac fs jj).tag,(ac fs jj).name,kd,[]⟩],some ⟨y1,0,none⟩,yc,jj + 1,(ac fs jj).tag,q1) ⟨⟨by dsimp only;omega,by dsimp only;rw [← c7];omega⟩,fL hgb ⟨by dsimp only;omega,hb1,by dsimp only;omega,by simp⟩,⟨by dsimp only;omega,by dsimp only;omega⟩,by dsimp only;omega,by dsimp only;omega⟩ (by dsimp only;omega) tU rfl ?_;(focus (repeat (first | exact List.Sublist.refl _ | apply List.Sublist.cons_cons | apply List.Sublist.cons)))) | (rw [show ao cF gs ++ [I (ac fs jj).tag,S (ac fs jj).name,S (ac fs jj).kind,S (ac fs jj).stand] = ao cF (gs ++ [ac fs jj]) from eB,c7 (f:=ac fs jj)];refine aT (gs ++ [ac fs jj],some ⟨y1,0,none⟩,yc,jj + 1,(ac fs jj).tag,qq + 1 + 1 + 1) ⟨⟨by dsimp only;omega,by dsimp only;rw [← c7];omega⟩,fL hgb ⟨⟨ht0,ht1⟩,hb1,hb2,hb3⟩,⟨by dsimp only;omega,by dsimp only;omega⟩,by dsimp only;omega,by dsimp only;omega⟩ (by dsimp only;omega) tU rfl ?_;(focus (repeat (first | exact List.Sublist.refl _ | apply List.Sublist.cons_cons | apply List.Sublist.cons))));done))
  all_goals (focus (rename_i y1 yc;refine Nx.re (d:=53) (v':=I (jj + 1 : Nat)) F (congrArg (Value.int .i64) oM) ?_;refine Nx.perm (List.perm_middle (l₁:=[_,_])) ?_;dsimp only [zA,fA];first | (rw [show ao cF gs ++ [I (ac fs jj).tag,S (ac fs jj).name,S kd,.string ⟨#[]⟩] = ao cF (gs ++ [⟨(ac fs jj).tag,(ac fs jj).name,kd,[]⟩]) from eB,c7 (f:=⟨(ac fs jj).tag,(ac fs jj).name,kd,[]⟩)];refine aT (gs ++ [⟨(ac fs jj).tag,(ac fs jj).name,kd,[]⟩],some ⟨y1,0,none⟩,yc,jj + 1,(ac fs jj).tag,q1) ⟨⟨by dsimp only;omega,by dsimp only;rw [← c7];omega⟩,fL hgb ⟨by dsimp only;omega,hb1,by dsimp only;omega,by simp⟩,⟨by dsimp only;omega,by dsimp only;omega⟩,by dsimp only;omega,by dsimp only;omega⟩ (by dsimp only;omega) tU rfl ?_;(focus (repeat (first | exact List.Sublist.refl _ | apply List.Sublist.cons_cons | apply List.Sublist.cons)))) | (rw [show ao cF gs ++ [I (ac fs jj).tag,S (ac fs jj).name,S (ac fs jj).kind,S (ac fs jj).stand] = ao cF (gs ++ [ac fs jj]) from eB,c7 (f:=ac fs jj)];refine aT (gs ++ [ac fs jj],some ⟨y1,0,none⟩,yc,jj + 1,(ac fs jj).tag,qq + 1 + 1 + 1) ⟨⟨by dsimp only;omega,by dsimp only;rw [← c7];omega⟩,fL hgb ⟨⟨ht0,ht1⟩,hb1,hb2,hb3⟩,⟨by dsimp only;omega,by dsimp only;omega⟩,by dsimp only;omega,by dsimp only;omega⟩ (by dsimp only;omega) tU rfl ?_;(focus (repeat (first | exact List.Sublist.refl _ | apply List.Sublist.cons_cons | apply List.Sublist.cons))));done))
 ·repeat' (first | refine jM ?_ | (refine jo ?_;first | refine aP F ?_ | refine aH F ?_ | refine jV (al F F oM) ?_ | refine ah F ?_ | (refine jV (bz F F aS ?_) ?_;focus omega) | refine aK F ?_ | refine jL fun _=>?_ | refine jD F F F ?_ | refine jC F F F ?_ | refine jF fun _=>?_ | refine bj F F F F F F F F F oM fun _ _=>?_ | (refine ai F F F (cQ ?_ (by (repeat (assumption));done)) rfl ?_;(focus omega);rintro _ _ ⟨k,rfl,rfl,hk0,hk1⟩;dsimp only [zA,fA]) | (refine ai F F F (gh ?_ (by (repeat (assumption));done)) rfl ?_;(focus omega);rintro _ _ ⟨kd,q1,rfl,hkd,rfl,hq1,hq2⟩;dsimp only [zA,fA])) | refine aD F F (aF oM) ?_ | refine dR F F (fun _=>?_) (fun _=>?_) | refine ae F (aC oM) ?_ | refine af F F ?_ | refine cJ F (fun _=>?_) (fun _=>?_))
  ·rename_i x16 h0 hlt
   (refine ak (ar (id:=17) [.blk x16 (.cells (List.toArray [I (ac fs jj).tag,S (ac fs jj).name,S (ac fs jj).kind,S (ac fs jj).stand]) wr (0,0)),.blk x12 (.cells (List.toArray [U8 so,S nm,.slice (some ⟨bw,ow,none⟩) fs.length fc]) nA (0,0))] (by intro y hy;simp only [List.mem_cons,List.not_mem_nil,or_false] at hy ⊢;rcases hy with hy | hy <;> simp [hy]) aj ?_);refine jW 13 [0,2,5,6,7,10] (aa 19 1253) ?_;(refine jG (aa 19 1261) 3 F (an F F F) ?_);refine jW 11 [4] (aa 19 1277) ?_;(refine jG (aa 19 3325) 11 F (an F F F) ?_);refine jW 9 [12] (aa 19 7421) ?_;refine cd [1,8,13] kR dC ⟨?_,?_,?_,trivial⟩;(focus (refine aX F F ?_;(refine ah F ?_);refine jK (aa 19 7423) ?_;refine cd [8,13] kR dC ⟨?_,?_,trivial⟩;(focus (refine aX F F ?_;(refine jF fun _=>?_);refine jr mM sB (listed':=(aa 19 7679)) kR ?_;((refine jG (aa 19 8191) 9 F (dJ F F (by (repeat (first | exact BL.nil | apply BL.cons));done)) ?_));refine jA 13 F ?_;(refine ad F F F eD F ?_);refine jK (aa 19 16383) ?_;(refine jG (aa 19 32767) 14 F (am F F) ?_);refine jA 15 F ?_;(refine jF fun _=>?_);refine jK (aa 19 65535) ?_;refine jA 16 F ?_;((refine bj F F F F F F F F F ?_ fun _ _=>?_;focus omega));refine jK (aa 19 131071) ?_;refine jW 1 [17] (aa 19 262143) ?_;refine jA 18 F ?_;(refine jD F F F ?_);refine jK (aa 19 524287) ?_;refine jQ ?_));rotate_left 1;(focus (refine aX F F ?_;(refine ad F F F eD F ?_);refine jK (aa 19 15615) ?_;refine jA 8 F ?_;(refine jF fun _=>?_);refine jr mM sB (listed':=(aa 19 15871)) kR ?_;((refine jG (aa 19 16383) 9 F (dJ F F (by (repeat (first | exact BL.nil | apply BL.cons));done)) ?_));(refine jG (aa 19 32767) 14 F (am F F) ?_);refine jA 15 F ?_;(refine jF fun _=>?_);refine jK (aa 19 65535) ?_;refine jA 16 F ?_;((refine bj F F F F F F F F F ?_ fun _ _=>?_;focus omega));refine jK (aa 19 131071) ?_;refine jW 1 [17] (aa 19 262143) ?_;refine jA 18 F ?_;(refine jD F F F ?_);refine jK (aa 19 524287) ?_;refine jQ ?_));rotate_left 1));rotate_left 2;(focus (refine aX F F ?_;(refine jF fun _=>?_);refine jr mM sB (listed':=(aa 19 7677)) kR ?_;((refine jG (aa 19 8189) 9 F (dJ F F (by (repeat (first | exact BL.nil | apply BL.cons));done)) ?_));refine cd [1,13] kR dC ⟨?_,?_,trivial⟩;(focus (refine aX F F ?_;(refine ah F ?_);refine jK (aa 19 8191) ?_;refine jA 13 F ?_;(refine ad F F F eD F ?_);refine jK (aa 19 16383) ?_;(refine jG (aa 19 32767) 14 F (am F F) ?_);refine jA 15 F ?_;(refine jF fun _=>?_);refine jK (aa 19 65535) ?_;refine jA 16 F ?_;((refine bj F F F F F F F F F ?_ fun _ _=>?_;focus omega));refine jK (aa 19 131071) ?_;refine jW 1 [17] (aa 19 262143) ?_;refine jA 18 F ?_;(refine jD F F F ?_);refine jK (aa 19 524287) ?_;refine jQ ?_));rotate_left 1;(focus (refine aX F F ?_;(refine ad F F F eD F ?_);refine jK (aa 19 16381) ?_;(refine jG (aa 19 32765) 14 F (am F F) ?_);refine cd [1,15] kR dC ⟨?_,?_,trivial⟩;(focus (refine aX F F ?_;(refine ah F ?_);refine jK (aa 19 32767) ?_;refine jA 15 F ?_;(refine jF fun _=>?_);refine jK (aa 19 65535) ?_;refine jA 16 F ?_;((refine bj F F F F F F F F F ?_ fun _ _=>?_;focus omega));refine jK (aa 19 131071) ?_;refine jW 1 [17] (aa 19 262143) ?_;refine jA 18 F ?_;(refine jD F F F ?_);refine jK (aa 19 524287) ?_;refine jQ ?_));rotate_left 1;(focus (refine aX F F ?_;(refine jF fun _=>?_);refine jK (aa 19 65533) ?_;refine jA 1 F ?_;(refine ah F ?_);refine jK (aa 19 65535) ?_;refine jA 16 F ?_;((refine bj F F F F F F F F F ?_ fun _ _=>?_;focus omega));refine jK (aa 19 131071) ?_;refine jW 1 [17] (aa 19 262143) ?_;refine jA 18 F ?_;(refine jD F F F ?_);refine jK (aa 19 524287) ?_;refine jQ ?_));rotate_left 1));rotate_left 2));rotate_left 3;(focus (refine aX F F ?_;(refine ad F F F eD F ?_);refine jK (aa 19 15613) ?_;refine cd [1,8] kR dC ⟨?_,?_,trivial⟩;(focus (refine aX F F ?_;(refine ah F ?_);refine jK (aa 19 15615) ?_;refine jA 8 F ?_;(refine jF fun _=>?_);refine jr mM sB (listed':=(aa 19 15871)) kR ?_;((refine jG (aa 19 16383) 9 F (dJ F F (by (repeat (first | exact BL.nil | apply BL.cons));done)) ?_));(refine jG (aa 19 32767) 14 F (am F F) ?_);refine jA 15 F ?_;(refine jF fun _=>?_);refine jK (aa 19 65535) ?_;refine jA 16 F ?_;((refine bj F F F F F F F F F ?_ fun _ _=>?_;focus omega));refine jK (aa 19 131071) ?_;refine jW 1 [17] (aa 19 262143) ?_;refine jA 18 F ?_;(refine jD F F F ?_);refine jK (aa 19 524287) ?_;refine jQ ?_));rotate_left 1;(focus (refine aX F F ?_;(refine jF fun _=>?_);refine jr mM sB (listed':=(aa 19 15869)) kR ?_;((refine jG (aa 19 16381) 9 F (dJ F F (by (repeat (first | exact BL.nil | apply BL.cons));done)) ?_));(refine jG (aa 19 32765) 14 F (am F F) ?_);refine cd [1,15] kR dC ⟨?_,?_,trivial⟩;(focus (refine aX F F ?_;(refine ah F ?_);refine jK (aa 19 32767) ?_;refine jA 15 F ?_;(refine jF fun _=>?_);refine jK (aa 19 65535) ?_;refine jA 16 F ?_;((refine bj F F F F F F F F F ?_ fun _ _=>?_;focus omega));refine jK (aa 19 131071) ?_;refine jW 1 [17] (aa 19 262143) ?_;refine jA 18 F ?_;(refine jD F F F ?_);refine jK (aa 19 524287) ?_;refine jQ ?_));rotate_left 1;(focus (refine aX F F ?_;(refine jF fun _=>?_);refine jK (aa 19 65533) ?_;refine jA 1 F ?_;(refine ah F ?_);refine jK (aa 19 65535) ?_;refine jA 16 F ?_;((refine bj F F F F F F F F F ?_ fun _ _=>?_;focus omega));refine jK (aa 19 131071) ?_;refine jW 1 [17] (aa 19 262143) ?_;refine jA 18 F ?_;(refine jD F F F ?_);refine jK (aa 19 524287) ?_;refine jQ ?_));rotate_left 1));rotate_left 2));rotate_left 3)
   all_goals rename_i n1 n2 n3
   all_goals
    rw [show ao cF gs ++ [I ((ac fs jj).tag - 1),S [u8 (101 + (jj : Int))],S (if decide ((so : Int) = 69) = true then [] else [110]),S []] = ao cF (gs ++ [⟨(ac fs jj).tag - 1,[u8 (101 + (jj : Int))],if decide ((so : Int) = 69) = true then [] else [110],[]⟩]) from eB,c7 (f:=⟨(ac fs jj).tag - 1,[u8 (101 + (jj : Int))],if decide ((so : Int) = 69) = true then [] else [110],[]⟩)]
    have hgb:=fL (f:=⟨(ac fs jj).tag - 1,[u8 (101 + (jj : Int))],if decide ((so : Int) = 69) = true then [] else [110],[]⟩) hgb ⟨by dsimp only;omega,by simp,by dsimp only;split <;> decide,by simp⟩
    have hgl : (gs ++ [(⟨(ac fs jj).tag - 1,[u8 (101 + (jj : Int))],if decide ((so : Int) = 69) = true then [] else [110],[]⟩ : Fld)]).length ≤ 2 * jj + 1:=by rw [← c7];omega
    generalize gs ++ [(⟨(ac fs jj).tag - 1,[u8 (101 + (jj : Int))],if decide ((so : Int) = 69) = true then [] else [110],[]⟩ : Fld)] = gs at *
    repeat' (first | refine jM ?_ | (refine jo ?_;first | refine aP F ?_ | refine aH F ?_ | refine ah F ?_ | refine aK F ?_ | refine jD F F F ?_ | refine jF fun _=>?_ | refine bj F F F F F F F F F oM fun _ _=>?_ | (refine ai F F F (cQ ?_ (by (repeat (assumption));done)) rfl ?_;(focus omega);rintro _ _ ⟨k,rfl,rfl,hk0,hk1⟩;dsimp only [zA,fA]) | (refine ai F F F (gh ?_ (by (repeat (assumption));done)) rfl ?_;(focus omega);rintro _ _ ⟨kd,q1,rfl,hkd,rfl,hq1,hq2⟩;dsimp only [zA,fA])) | refine dR F F (fun _=>?_) (fun _=>?_) | refine af F F ?_ | refine cJ F (fun _=>?_) (fun _=>?_))
   all_goals (focus (rename_i y1 yc;refine Nx.re (d:=53) (v':=I (jj + 1 : Nat)) F (congrArg (Value.int .i64) oM) ?_;refine Nx.perm (List.perm_middle (l₁:=[_,_])) ?_;dsimp only [zA,fA];first | (rw [show ao cF gs ++ [I (ac fs jj).tag,S (ac fs jj).name,S kd,.string ⟨#[]⟩] = ao cF (gs ++ [⟨(ac fs jj).tag,(ac fs jj).name,kd,[]⟩]) from eB,c7 (f:=⟨(ac fs jj).tag,(ac fs jj).name,kd,[]⟩)];refine aT (gs ++ [⟨(ac fs jj).tag,(ac fs jj).name,kd,[]⟩],some ⟨y1,0,none⟩,yc,jj + 1,(ac fs jj).tag,q1) ⟨⟨by dsimp only;omega,by dsimp only;rw [← c7];omega⟩,fL hgb ⟨by dsimp only;omega,hb1,by dsimp only;omega,by simp⟩,⟨by dsimp only;omega,by dsimp only;omega⟩,by dsimp only;omega,by dsimp only;omega⟩ (by dsimp only;omega) tU rfl ?_;(focus (repeat (first | exact List.Sublist.refl _ | apply List.Sublist.cons_cons | apply List.Sublist.cons)))) | (rw [show ao cF gs ++ [I (ac fs jj).tag,S (ac fs jj).name,S (ac fs jj).kind,S (ac fs jj).stand] = ao cF (gs ++ [ac fs jj]) from eB,c7 (f:=ac fs jj)];refine aT (gs ++ [ac fs jj],some ⟨y1,0,none⟩,yc,jj + 1,(ac fs jj).tag,qq + 1 + 1) ⟨⟨by dsimp only;omega,by dsimp only;rw [← c7];omega⟩,fL hgb ⟨⟨ht0,ht1⟩,hb1,hb2,hb3⟩,⟨by dsimp only;omega,by dsimp only;omega⟩,by dsimp only;omega,by dsimp only;omega⟩ (by dsimp only;omega) tU rfl ?_;(focus (repeat (first | exact List.Sublist.refl _ | apply List.Sublist.cons_cons | apply List.Sublist.cons))));done))
  all_goals (focus (rename_i y1 yc;refine Nx.re (d:=53) (v':=I (jj + 1 : Nat)) F (congrArg (Value.int .i64) oM) ?_;refine Nx.perm (List.perm_middle (l₁:=[_,_])) ?_;dsimp only [zA,fA];first | (rw [show ao cF gs ++ [I (ac fs jj).tag,S (ac fs jj).name,S kd,.string ⟨#[]⟩] = ao cF (gs ++ [⟨(ac fs jj).tag,(ac fs jj).name,kd,[]⟩]) from eB,c7 (f:=⟨(ac fs jj).tag,(ac fs jj).name,kd,[]⟩)];refine aT (gs ++ [⟨(ac fs jj).tag,(ac fs jj).name,kd,[]⟩],some ⟨y1,0,none⟩,yc,jj + 1,(ac fs jj).tag,q1) ⟨⟨by dsimp only;omega,by dsimp only;rw [← c7];omega⟩,fL hgb ⟨by dsimp only;omega,hb1,by dsimp only;omega,by simp⟩,⟨by dsimp only;omega,by dsimp only;omega⟩,by dsimp only;omega,by dsimp only;omega⟩ (by dsimp only;omega) tU rfl ?_;(focus (repeat (first | exact List.Sublist.refl _ | apply List.Sublist.cons_cons | apply List.Sublist.cons)))) | (rw [show ao cF gs ++ [I (ac fs jj).tag,S (ac fs jj).name,S (ac fs jj).kind,S (ac fs jj).stand] = ao cF (gs ++ [ac fs jj]) from eB,c7 (f:=ac fs jj)];refine aT (gs ++ [ac fs jj],some ⟨y1,0,none⟩,yc,jj + 1,(ac fs jj).tag,qq + 1 + 1) ⟨⟨by dsimp only;omega,by dsimp only;rw [← c7];omega⟩,fL hgb ⟨⟨ht0,ht1⟩,hb1,hb2,hb3⟩,⟨by dsimp only;omega,by dsimp only;omega⟩,by dsimp only;omega,by dsimp only;omega⟩ (by dsimp only;omega) tU rfl ?_;(focus (repeat (first | exact List.Sublist.refl _ | apply List.Sublist.cons_cons | apply List.Sublist.cons))));done))
abbrev yi : TypeId:=25
theorem eY {s r : abu} {u v : Value} {a b : List Mt} (h : (s.length ≤ 1048576 ∧ a.length ≤ 1048576) ∧ (r.length ≤ 1048576 ∧ b.length ≤ 1048576) ∧ (∀ x ∈ a,kx x) ∧ ∀ x ∈ b,kx x) (hu : bh G u 3 a.length (ao f6 a)) (hv : bh G v 3 b.length (ao f6 b)) :
  aI abt 20 [Ag [S s,u],Ag [S r,v]] G (· = Bo (dN s a r b)):=by
 obtain ⟨⟨hs,ha⟩,⟨hr,hb⟩,hma,hmb⟩:=h
 cases e1 : cT s a
 ·have cx_so1 : aI abt 32 [Ag [S s,u]] G (· = Bo false):=by rw [← e1];exact gz hs hu ha hma
  rw [gS (.inl e1)]
  refine jE [(0,_),(1,_)] Tryz.func20 Tryz.ntmps20 fun B hB=>?_
  repeat' (first | refine jR ?_ | (refine jo ?_;first | refine jO fun _=>?_ | refine aK F ?_ | refine aP F ?_ | refine ad F F F cx_so1 F ?_) | refine aO F F F ?_ | refine ae F F ?_)
  all_goals refine jY (vs:=[_]) ?_
  all_goals rfl
 have cx_so1 : aI abt 32 [Ag [S s,u]] G (· = Bo true):=by rw [← e1];exact gz hs hu ha hma
 cases e2 : cT r b
 ·have cx_so2 : aI abt 32 [Ag [S r,v]] G (· = Bo false):=by rw [← e2];exact gz hr hv hb hmb
  rw [gS (.inr e2)]
  refine jE [(0,_),(1,_)] Tryz.func20 Tryz.ntmps20 fun B hB=>?_
  repeat' (first | refine jR ?_ | (refine jo ?_;first | refine jO fun _=>?_ | refine aK F ?_ | refine aH F ?_ | refine ad F F F cx_so1 F ?_ | refine ad F F F cx_so2 F ?_) | refine aD F F F ?_ | refine ae F F ?_)
  all_goals refine jY (vs:=[_]) ?_
  all_goals rfl
 have cx_so2 : aI abt 32 [Ag [S r,v]] G (· = Bo true):=by rw [← e2];exact gz hr hv hb hmb
 refine jE [(0,_),(1,_)] Tryz.func20 Tryz.ntmps20 fun B hB=>?_
 repeat' (first | refine jR ?_ | (refine jo ?_;first | refine jO fun _=>?_ | refine ah F ?_ | refine aK F ?_ | refine aH F ?_ | refine jV (dc F aS) ?_ | refine ad F F F cx_so1 F ?_ | refine ad F F F cx_so2 F ?_) | refine aD F F F ?_ | refine af F F ?_)
 rename_i x2 x3
 refine aU (ι:=Nat) (fun i=>i ≤ b.length ∧ ∀ k,k < i → fh s a r (ac b k) = true) (fun i=>[(2,Pt x2 0),(3,Pt x3 0),(18,v),(19,I b.length),(20,I i)]) (fun _=>G) (fun i=>[.blk x3 (.cells (List.toArray [S r,v]) yi (0,0)),.blk x2 (.cells (List.toArray [S s,u]) yi (0,0))]) (fun i=>b.length - i) 0 ?_ tU F a6 (fun i Hi=>?_)
 ·exact ⟨Nat.zero_le _,fun k hk=>absurd hk oM⟩
 by_cases hi : i < b.length
 case neg =>
  repeat' (first | refine jR ?_ | refine af F (aF oM) ?_)
  refine jY (vs:=[_]) ?_
  rw [aE,lr e1 e2 (fun k hk=>Hi.2 k oM)]
 obtain ⟨bb,ob,cb,rfl,sb⟩:=hv.expl oM
 have hxo:=hmb _ (a7 hi)
 have cx_f0:=v5 (s:=s) (x:=(ac b i).1) hu ha
 cases hf : gV a (ac b i).1 with
 | none =>
  rw [hf] at cx_f0
  have cx_find : aI abt 31 [Ag [S s,u],S (ac b i).1] G (· = Tu [Ag [S [],S [],S []],Bo false]):=cx_f0
  have hb2 : fh s a r (ac b i) = false:=by unfold fh;rw [hf]
  repeat' (first | refine jR ?_ | (refine jo ?_;first | refine ah F ?_ | (refine jV (bz F F aS ?_) ?_;focus omega) | refine aK F ?_ | refine aP F ?_ | refine jV (al F F oM) ?_ | refine jL fun _=>?_ | refine jC F F F ?_ | refine ad F F F cx_find F ?_) | refine aO F F F ?_ | (refine ae F (by first | rfl | (refine decide_eq_true ?_;(omega))) ?_))
  all_goals refine jY (vs:=[_]) ?_
  all_goals rw [aE,eR hi hb2]
 | some m =>
  rw [hf] at cx_f0
  have cx_find : aI abt 31 [Ag [S s,u],S (ac b i).1] G (· = Tu [Ag [S m.1,S m.2.1,S m.2.2],Bo true]):=cx_f0
  have hxm:=hma _ (List.mem_of_find?_eq_some hf)
  have cx_eva:=kv (G:=G) (s:=s) (k:=m.2.1) (r:=r) (l:=(ac b i).2.1) oM oM oM oM
  have cx_evb:=kv (G:=G) (s:=r) (k:=(ac b i).2.2) (r:=s) (l:=m.2.2) oM oM oM oM
  have hrd : fh s a r (ac b i) = (bY s m.2.1 r (ac b i).2.1 && bY r (ac b i).2.2 s m.2.2):=by unfold fh;rw [hf]
  generalize bY s m.2.1 r (ac b i).2.1 = qa at cx_eva hrd
  generalize bY r (ac b i).2.2 s m.2.2 = qb at cx_evb hrd
  cases qa
  ·repeat' (first | refine jR ?_ | (refine jo ?_;first | refine ah F ?_ | (refine jV (bz F F aS ?_) ?_;focus omega) | refine aK F ?_ | refine aP F ?_ | refine aH F ?_ | refine jV (al F F oM) ?_ | refine jL fun _=>?_ | refine jC F F F ?_ | refine ad F F F cx_find F ?_ | refine ad F F F cx_eva F ?_) | refine aO F F F ?_ | refine aD F F F ?_ | (refine ae F (by first | rfl | (refine decide_eq_true ?_;(omega))) ?_))
   all_goals refine jY (vs:=[_]) ?_
   all_goals rw [aE,eR hi hrd]
  cases qb
  ·repeat' (first | refine jR ?_ | (refine jo ?_;first | refine ah F ?_ | (refine jV (bz F F aS ?_) ?_;focus omega) | refine aK F ?_ | refine aH F ?_ | refine jV (al F F oM) ?_ | refine jL fun _=>?_ | refine jC F F F ?_ | refine ad F F F cx_find F ?_ | refine ad F F F cx_eva F ?_ | refine ad F F F cx_evb F ?_) | refine aD F F F ?_ | (refine ae F (by first | rfl | (refine decide_eq_true ?_;(omega))) ?_))
   all_goals refine jY (vs:=[_]) ?_
   all_goals rw [aE,eR hi hrd]
  repeat' (first | refine jM ?_ | (refine jo ?_;first | refine ah F ?_ | (refine jV (bz F F aS ?_) ?_;focus omega) | refine aK F ?_ | refine aH F ?_ | refine jV (al F F oM) ?_ | refine jL fun _=>?_ | refine jC F F F ?_ | refine ad F F F cx_find F ?_ | refine ad F F F cx_eva F ?_ | refine ad F F F cx_evb F ?_) | refine aD F F F ?_ | refine ae F (aC oM) ?_ | refine af F F ?_)
  all_goals
   refine aT (i + 1) ⟨oM,fun k hk=>?_⟩ oM tU F sB
   rcases Nat.lt_or_ge k i with h3 | h3
   ·exact Hi.2 k h3
   ·have : k = i:=oM
    subst this;exact hrd
abbrev yj : TypeId:=42
abbrev ye : TypeId:=25
abbrev yf : TypeId:=9
theorem pI {r : Nat} {code : Value} {p : Int} {l : abu} (hp : 0 ≤ p ∧ p ≤ 500000000000) (hs : bh G code 1 l.length (bB l)) :
  b6 abt 61 [Pt r 0] G [en r code p dm] (fun v L'=>∃ x q,v = S x ∧ x.length ≤ 64 ∧ L' = [en r code q dm] ∧ p ≤ q ∧ q ≤ p + 10):=by
 refine jH [(0,_)] Tryz.func61 Tryz.ntmps61 fun B hB hW=>?_
 repeat' (first | refine jR ?_ | (refine jo ?_;first | refine jF fun _=>?_ | refine jV (aZ F F oM) ?_ | (refine gw 64 F F F ?_ F (fun xs hxs=>?_);(focus ((simp only [List.length_append,List.length_cons,List.length_nil,List.length_take];omega);done))) | (refine ai F F F (cQ ?_ (by (repeat (assumption));done)) rfl ?_;(focus omega);rintro _ _ ⟨k,rfl,rfl,hk0,hk1⟩;dsimp only [zA,fA])) | refine cJ F (fun _=>?_) (fun _=>?_))
 all_goals exact aN (vs:=[_]) F ⟨F,trivial⟩ F sB ⟨F,_,_,F,oM,F,oM,oM⟩
theorem mm {ms : List Mt} {a b c : abu} : ao f6 ms ++ [S a,S b,S c] = ao f6 (ms ++ [(a,b,c)]):=(cn f6 ms (a,b,c)).symm
theorem g7 {ms : List Mt} {x : Mt} : ms.length + 1 = (ms ++ [x]).length:=by simp
theorem nR {ms : List Mt} {x : Mt} (h : ∀ y ∈ ms,kx y) (hx : kx x) : ∀ y ∈ ms ++ [x],kx y:=by
 intro y hy
 rcases List.mem_append.mp hy with hy | hy
 ·exact h y hy
 ·rw [List.mem_singleton.mp hy];exact hx
theorem lY {r : Nat} {code : Value} {p : Int} {l : abu} (hp : 0 ≤ p ∧ p ≤ 400000000000) (hs : bh G code 1 l.length (bB l)) :
  cX abt 27 [Pt r 0] G [en r code p dm] (fun v G' L'=>∃ s a ms c q,v = Ag [S s,.slice a (ms : List Mt).length c] ∧ bh G' (.slice a ms.length c) 3 ms.length (ao f6 ms) ∧ (s.length ≤ 20000 ∧ ms.length ≤ 4 ∧ ∀ x ∈ ms,kx x) ∧ L' = [en r code q dm] ∧ p ≤ q ∧ q ≤ p + 2000):=by
 refine b7 [(0,_)] Tryz.func27 kR Tryz.ntmps27 F F tU fun B hB hW=>?_
 repeat' (first | refine jR ?_ | (refine jo ?_;first | refine jL fun _=>?_ | refine jV (am F F) ?_ | refine jC F F F ?_ | refine jF fun _=>?_ | (refine ai F F F (mN ?_ (by (repeat (assumption));done)) rfl ?_;(focus omega);rintro _ _ ⟨sc,q1,rfl,hsc,rfl,hq1,hq2⟩;dsimp only [zA,fA])))
 rename_i y2 y4 yN
 refine Nx.addNil yj 3 (Nx.perm ((List.perm_middle (l₁:=[_,_])).cons _) ?_)
 dsimp only [zA,fA]
 refine aU (ι:=List Mt × Option Addr × Nat × Nat × Int) (fun j=>(j.1.length ≤ j.2.2.2.1 ∧ j.2.2.2.1 ≤ 3) ∧ (∀ x ∈ j.1,kx x) ∧ p ≤ j.2.2.2.2 ∧ j.2.2.2.2 ≤ p + 701 + 100 * ((j.2.2.2.1 : Nat) : Int)) (fun j=>[(0,Pt r 0),(2,Pt y2 0),(3,S sc),(4,Pt y4 0),(5,.slice (some ⟨yN,0,none⟩) 3 3),(6,I ((j.2.2.2.1 : Nat) : Int))]) (fun _=>G) (fun j=>[.acc (.slice j.2.1 j.1.length j.2.2.1) yj 3 j.1.length (ao f6 j.1),en r code j.2.2.2.2 dm,.blk yN (.cells (List.toArray [S [97,100,100],S [103,101,116],S [112,117,116]]) yf (0,0)),.blk y4 (.cells (List.toArray [S sc,.slice j.2.1 j.1.length j.2.2.1]) ye (0,0)),.blk y2 (.cells (List.toArray [S [],aA]) ye (0,0))]) (fun j=>3 - j.2.2.2.1) ([],none,0,0,q1) ?_ tU F a6 (fun j Hj=>?_)
 ·exact ⟨⟨by dsimp only;exact Nat.le_refl _,by dsimp only;omega⟩,by simp,by dsimp only;omega,by dsimp only;omega⟩
 obtain ⟨ms,a,c,i,q⟩:=j
 dsimp only at Hj ⊢
 obtain ⟨hil,hms,hq3,hq4⟩:=Hj
 by_cases hi : i < 3
 ·rcases (show i = 0 ∨ i = 1 ∨ i = 2 by omega) with rfl | rfl | rfl
  all_goals
   repeat' (first | refine jM ?_ | (refine jo ?_;(refine ai F F F (cQ ?_ (by (repeat (assumption));done)) rfl ?_;(focus omega);rintro _ _ ⟨k,rfl,rfl,hk0,hk1⟩;dsimp only [zA,fA])) | refine ae F F ?_ | refine cJ F (fun _=>?_) (fun _=>?_))
   ·(refine ak (ar (id:=8) [.blk yN (.cells (List.toArray [S [97,100,100],S [103,101,116],S [112,117,116]]) yf (0,0))] (by intro y hy;simp only [List.mem_cons,List.not_mem_nil,or_false] at hy ⊢;simp [hy]) aj ?_);refine jW 10 [0,2,3,6,7,9,10] (aa 17 1741) ?_;((refine jG (aa 17 1757) 4 F (al F F ?_) ?_;focus omega));(refine jG (aa 17 1789) 5 F (an F F F) ?_);refine cd [1,8] kR dC ⟨?_,?_,trivial⟩;(focus (refine aX F F ?_;(refine ah F ?_);refine jK (aa 17 1791) ?_;refine jA 8 F ?_;((refine ai F F F (gg ?_ (by (repeat (assumption));done) ?_) rfl ?_;(focus omega);(focus omega);rintro _ _ ⟨kd,q1,rfl,hkd,rfl,hq1,hq2⟩;dsimp only [zA,fA]));refine jK (aa 17 2047) ?_;refine jA 11 F ?_;((refine ai F F F (gg ?_ (by (repeat (assumption));done) ?_) rfl ?_;(focus omega);(focus omega);rintro _ _ ⟨kd,q1,rfl,hkd,rfl,hq1,hq2⟩;dsimp only [zA,fA]));refine jK (aa 17 4095) ?_;(refine jG (aa 17 8191) 12 F (am F F) ?_);refine jA 13 F ?_;(refine jF fun _=>?_);refine jK (aa 17 16383) ?_;refine jA 14 F ?_;((refine bj F F F F F F F F F ?_ fun _ _=>?_;focus omega));refine jK (aa 17 32767) ?_;refine jW 1 [15] (aa 17 65535) ?_;refine jA 16 F ?_;(refine jD F F F ?_);refine jK (aa 17 131071) ?_;refine jQ ?_));rotate_left 1;(focus (refine aX F F ?_;((refine ai F F F (gg ?_ (by (repeat (assumption));done) ?_) rfl ?_;(focus omega);(focus omega);rintro _ _ ⟨kd,q1,rfl,hkd,rfl,hq1,hq2⟩;dsimp only [zA,fA]));refine jK (aa 17 2045) ?_;refine cd [1,11] kR dC ⟨?_,?_,trivial⟩;(focus (refine aX F F ?_;(refine ah F ?_);refine jK (aa 17 2047) ?_;refine jA 11 F ?_;((refine ai F F F (gg ?_ (by (repeat (assumption));done) ?_) rfl ?_;(focus omega);(focus omega);rintro _ _ ⟨kd,q1,rfl,hkd,rfl,hq1,hq2⟩;dsimp only [zA,fA]));refine jK (aa 17 4095) ?_;(refine jG (aa 17 8191) 12 F (am F F) ?_);refine jA 13 F ?_;(refine jF fun _=>?_);refine jK (aa 17 16383) ?_;refine jA 14 F ?_;((refine bj F F F F F F F F F ?_ fun _ _=>?_;focus omega));refine jK (aa 17 32767) ?_;refine jW 1 [15] (aa 17 65535) ?_;refine jA 16 F ?_;(refine jD F F F ?_);refine jK (aa 17 131071) ?_;refine jQ ?_));rotate_left 1;(focus (refine aX F F ?_;((refine ai F F F (gg ?_ (by (repeat (assumption));done) ?_) rfl ?_;(focus omega);(focus omega);rintro _ _ ⟨kd,q1,rfl,hkd,rfl,hq1,hq2⟩;dsimp only [zA,fA]));refine jK (aa 17 4093) ?_;(refine jG (aa 17 8189) 12 F (am F F) ?_);refine cd [1,13] kR dC ⟨?_,?_,trivial⟩;(focus (refine aX F F ?_;(refine ah F ?_);refine jK (aa 17 8191) ?_;refine jA 13 F ?_;(refine jF fun _=>?_);refine jK (aa 17 16383) ?_;refine jA 14 F ?_;((refine bj F F F F F F F F F ?_ fun _ _=>?_;focus omega));refine jK (aa 17 32767) ?_;refine jW 1 [15] (aa 17 65535) ?_;refine jA 16 F ?_;(refine jD F F F ?_);refine jK (aa 17 131071) ?_;refine jQ ?_));rotate_left 1;(focus (refine aX F F ?_;(refine jF fun _=>?_);refine jK (aa 17 16381) ?_;refine jA 1 F ?_;(refine ah F ?_);refine jK (aa 17 16383) ?_;refine jA 14 F ?_;((refine bj F F F F F F F F F ?_ fun _ _=>?_;focus omega));refine jK (aa 17 32767) ?_;refine jW 1 [15] (aa 17 65535) ?_;refine jA 16 F ?_;(refine jD F F F ?_);refine jK (aa 17 131071) ?_;refine jQ ?_));rotate_left 1));rotate_left 2));rotate_left 3)
    all_goals repeat' (refine jM ?_)
    all_goals
     rename_i kd1 q0 hkd1 hqa hqb n1 n2 n3
     first | (rw [mm (ms:=ms) (a:=[97,100,100]) (b:=kd1) (c:=kd),g7 (ms:=ms) (x:=([97,100,100],kd1,kd))];exact aT (ms ++ [([97,100,100],kd1,kd)],some ⟨n2,0,none⟩,n3,0 + 1,q1) ⟨⟨by dsimp only;rw [← g7];omega,by dsimp only;omega⟩,nR hms ⟨by simp,by dsimp only;omega,by dsimp only;omega⟩,by dsimp only;omega,by dsimp only;omega⟩ (by dsimp only;omega) tU rfl sB) | (rw [mm (ms:=ms) (a:=[103,101,116]) (b:=kd1) (c:=kd),g7 (ms:=ms) (x:=([103,101,116],kd1,kd))];exact aT (ms ++ [([103,101,116],kd1,kd)],some ⟨n2,0,none⟩,n3,1 + 1,q1) ⟨⟨by dsimp only;rw [← g7];omega,by dsimp only;omega⟩,nR hms ⟨by simp,by dsimp only;omega,by dsimp only;omega⟩,by dsimp only;omega,by dsimp only;omega⟩ (by dsimp only;omega) tU rfl sB) | (rw [mm (ms:=ms) (a:=[112,117,116]) (b:=kd1) (c:=kd),g7 (ms:=ms) (x:=([112,117,116],kd1,kd))];exact aT (ms ++ [([112,117,116],kd1,kd)],some ⟨n2,0,none⟩,n3,2 + 1,q1) ⟨⟨by dsimp only;rw [← g7];omega,by dsimp only;omega⟩,nR hms ⟨by simp,by dsimp only;omega,by dsimp only;omega⟩,by dsimp only;omega,by dsimp only;omega⟩ (by dsimp only;omega) tU rfl sB)
   ·refine Nx.perm (List.Perm.swap _ _ _) ?_
    first | (exact aT (ms,a,c,0 + 1,q + 1) ⟨⟨by dsimp only;omega,by dsimp only;omega⟩,hms,by dsimp only;omega,by dsimp only;omega⟩ (by dsimp only;omega) tU rfl a6) | (exact aT (ms,a,c,1 + 1,q + 1) ⟨⟨by dsimp only;omega,by dsimp only;omega⟩,hms,by dsimp only;omega,by dsimp only;omega⟩ (by dsimp only;omega) tU rfl a6) | (exact aT (ms,a,c,2 + 1,q + 1) ⟨⟨by dsimp only;omega,by dsimp only;omega⟩,hms,by dsimp only;omega,by dsimp only;omega⟩ (by dsimp only;omega) tU rfl a6)
 ·repeat' (first | refine jR ?_ | (refine jo ?_;first | refine jC F F F ?_ | refine aK F ?_ | (refine ai F F F (cQ ?_ (by (repeat (assumption));done)) rfl ?_;(focus omega);rintro _ _ ⟨k,rfl,rfl,hk0,hk1⟩;dsimp only [zA,fA])) | refine af F (aF oM) ?_ | refine cJ F (fun _=>?_) (fun _=>?_))
  ·(refine ak (ar (id:=10) [] (fun _ h=>absurd h (by simp)) aj ?_);refine jW 7 [0,2] (aa 9 5) ?_;refine cd [1,3] kR dC ⟨?_,?_,trivial⟩;(focus (refine aX F F ?_;(refine ah F ?_);refine jK (aa 9 7) ?_;refine jA 3 F ?_;((refine ai F F F (pI ?_ (by (repeat (assumption));done)) rfl ?_;(focus omega);rintro _ _ ⟨nx,q1,rfl,hnx,rfl,hq1,hq2⟩;dsimp only [zA,fA]));refine jK (aa 9 15) ?_;(refine jG (aa 9 31) 4 F (am F F) ?_);refine jA 5 F ?_;(refine jF fun _=>?_);refine jK (aa 9 63) ?_;refine jA 6 F ?_;((refine bj F F F F F F F F F ?_ fun _ _=>?_;focus omega));refine jK (aa 9 127) ?_;refine jW 1 [7] (aa 9 255) ?_;refine jA 8 F ?_;(refine jD F F F ?_);refine jK (aa 9 511) ?_;refine jQ ?_));rotate_left 1;(focus (refine aX F F ?_;((refine ai F F F (pI ?_ (by (repeat (assumption));done)) rfl ?_;(focus omega);rintro _ _ ⟨nx,q1,rfl,hnx,rfl,hq1,hq2⟩;dsimp only [zA,fA]));refine jK (aa 9 13) ?_;(refine jG (aa 9 29) 4 F (am F F) ?_);refine cd [1,5] kR dC ⟨?_,?_,trivial⟩;(focus (refine aX F F ?_;(refine ah F ?_);refine jK (aa 9 31) ?_;refine jA 5 F ?_;(refine jF fun _=>?_);refine jK (aa 9 63) ?_;refine jA 6 F ?_;((refine bj F F F F F F F F F ?_ fun _ _=>?_;focus omega));refine jK (aa 9 127) ?_;refine jW 1 [7] (aa 9 255) ?_;refine jA 8 F ?_;(refine jD F F F ?_);refine jK (aa 9 511) ?_;refine jQ ?_));rotate_left 1;(focus (refine aX F F ?_;(refine jF fun _=>?_);refine jK (aa 9 61) ?_;refine jA 1 F ?_;(refine ah F ?_);refine jK (aa 9 63) ?_;refine jA 6 F ?_;((refine bj F F F F F F F F F ?_ fun _ _=>?_;focus omega));refine jK (aa 9 127) ?_;refine jW 1 [7] (aa 9 255) ?_;refine jA 8 F ?_;(refine jD F F F ?_);refine jK (aa 9 511) ?_;refine jQ ?_));rotate_left 1));rotate_left 2)
   all_goals repeat' (first | refine jR ?_ | (refine jo ?_;first | refine jC F F F ?_ | refine aK F ?_))
   all_goals
    rename_i n1 n2 n3
    rw [show ao f6 ms ++ [S nx,.string ⟨#[110]⟩,.string ⟨#[110]⟩] = ao f6 (ms ++ [(nx,[110],[110])]) from mm,g7 (x:=(nx,[110],[110]))]
    refine Nx.sealS (v:=.slice (some ⟨n2,0,none⟩) (ms ++ [(nx,[110],[110])]).length n3) fun G2 hG2 hsl=>?_
    exact aN (vs:=[_]) F ⟨aw F F F F,trivial⟩ F sB ⟨hG2,sc,some ⟨n2,0,none⟩,ms ++ [(nx,[110],[110])],n3,_,F,hsl,⟨oM,by rw [← g7];omega,nR hms ⟨by dsimp only;omega,by simp,by simp⟩⟩,rfl,oM,oM⟩
  ·refine Nx.sealS (v:=.slice a ms.length c) fun G2 hG2 hsl=>?_
   exact aN (vs:=[_]) F ⟨aw F F F F,trivial⟩ F sB ⟨hG2,sc,a,ms,c,_,F,hsl,⟨oM,oM,hms⟩,F,oM,oM⟩
def p5 (s k : abu) : Value:=Tu [S ((ec s k).getD []),Bo (ec s k).isSome]
theorem qv {s k : abu} (h : a9 s k = false) : ec s k = none:=by
 unfold ec
 unfold a9 at h
 cases hs : ax s with
 | none=>rfl
 | some ts=>rw [hs] at h;dsimp only at h ⊢;rw [if_neg (by simp [h])]
theorem qu {s k : abu} {ts : List Ty} (h1 : ax s = some ts) (h2 : aJ ts k = true) : ec s k = some (lx ts k):=by
 unfold ec;rw [h1];dsimp only;rw [if_pos h2]
theorem oo {s k : abu} (h : s.length ≤ 1048576 ∧ k.length ≤ 1048576) : aI abt 22 [S s,S k] G (· = p5 s k):=by
 unfold p5
 by_cases hk : a9 s k = true
 case neg =>
  have hk2 : a9 s k = false:=by simpa using hk
  rw [qv hk2]
  have cx_bo1 : ∀ G,ci abt 52 [S s,S k] G (fun v _=>∃ p a b c,v = Tu [p,Ag [S a,S b,S c],Bo false]):=fun G=>by
   refine (eP (G:=G) (s:=s) (k:=k) oM oM).mono ?_
   rintro v G' L' ⟨h1,h2,⟨_,p,a,b,c,rfl⟩ | ⟨b,qs,rfl,h3,h4,h5⟩⟩
   ·exact ⟨h1,h2,p,a,b,c,F⟩
   ·unfold a9 at hk2;rw [h3] at hk2;dsimp only at hk2;rw [h4] at hk2;cases hk2
  refine jB (Post:=fun v G' L'=>G' = G ∧ L' = [] ∧ _) [(0,_),(1,_)] Tryz.func22 Tryz.ntmps22 fun B hok hB hW=>?_
  repeat' (first | refine jR ?_ | (refine jo ?_;first | refine jL fun _=>?_ | refine jC F F F ?_ | (refine aM F F F (cx_bo1 _) F ?_;rintro _ G hle ⟨p1,a1,b1,c1,rfl⟩;skip)) | refine ae F F ?_)
  all_goals refine Nx.base hok hB ?_
  all_goals refine jY (vs:=[_,_]) ?_
  all_goals rfl
 obtain ⟨ts,hsc,hki,hw⟩:=mK hk
 rw [qu hsc hki]
 have cx_boa : ∀ G,ci abt 52 [S s,S k] G (fun v G'=>∃ b qs,v = Tu [Pt b 0,Ag [S (sg k),S (bs k),S (nm k)],Bo true] ∧ ag qs = ts ∧ ScI G' b qs):=fun G=>by
  refine (eP (G:=G) (s:=s) (k:=k) oM oM).mono ?_
  rintro v G' L' ⟨h1,h2,⟨h3,_⟩ | ⟨b,qs,rfl,h3,h4,h5⟩⟩
  ·rw [hk] at h3;cases h3
  ·exact ⟨h1,h2,b,qs,F,Option.some.inj (h3.symm.trans hsc),h5⟩
 refine jB (Post:=fun v G' L'=>G' = G ∧ L' = [] ∧ _) [(0,_),(1,_)] Tryz.func22 Tryz.ntmps22 fun B hok hB hW=>?_
 repeat' (first | refine jR ?_ | (refine jo ?_;first | refine jL fun _=>?_ | refine jC F F F ?_ | refine aK F ?_ | (refine aM F F F (cx_boa _) F ?_;rintro _ G hle ⟨ba,qa,rfl,hT1,hR1⟩;skip)) | refine af F F ?_)
 subst hT1
 have cx_std:=pH hR1 hw hki
 repeat' (first | refine jR ?_ | (refine jo ?_;refine ad F F F cx_std F ?_))
 all_goals refine Nx.base hok hB ?_
 all_goals refine jY (vs:=[_,_]) ?_
 all_goals rfl
abbrev tBr : TypeId:=65
abbrev bA (r sc : Nat) (s : abu) (b : Bool) (a : Option Addr) (n c : Nat) (d : Int) : Own:=.blk r (.cells (List.toArray [Pt sc 0,S s,Bo b,.slice a n c,I d]) tBr (0,0))
theorem iQ {r sc m n c : Nat} {s : abu} {a : Option Addr} {d : Int} (h : m ≤ s.length ∧ s.length ≤ 1000000) : b6 abt 42 [Pt r 0,I (m : Nat)] G [bA r sc s false a n c d] (fun v L'=>v = S (s.take m) ∧ L' = [bA r sc (s.drop m) false a n c d]):=by
 refine jH [(0,_),(1,_)] Tryz.func42 Tryz.ntmps42 fun B hB hW=>?_
 repeat' (first | refine jM ?_ | (refine jo ?_;first | refine ah F ?_ | refine aH F ?_ | refine jD F F F ?_) | refine aD F F F ?_ | refine af F (aF oM) ?_)
 exact aN (vs:=[_]) F ⟨F,trivial⟩ F (List.Sublist.refl _) ⟨F,F,F⟩
theorem fz {r sc m n c : Nat} {s : abu} {b : Bool} {a : Option Addr} {d : Int} (h : b = true ∨ s.length < m) (hs : s.length ≤ 1000000 ∧ m ≤ 1000000) : b6 abt 42 [Pt r 0,I (m : Nat)] G [bA r sc s b a n c d] (fun v L'=>v = S [] ∧ L' = [bA r sc s true a n c d]):=by
 rcases h with rfl | h
 ·refine jH [(0,_),(1,_)] Tryz.func42 Tryz.ntmps42 fun B hB hW=>?_
  repeat' (first | refine jR ?_ | (refine jo ?_;first | refine ah F ?_ | refine aP F ?_ | refine jD F F F ?_) | refine aO F F F ?_ | refine ae F F ?_)
  all_goals exact aN (vs:=[_]) F ⟨F,trivial⟩ F (List.Sublist.refl _) ⟨F,F,F⟩
 ·cases b
  ·refine jH [(0,_),(1,_)] Tryz.func42 Tryz.ntmps42 fun B hB hW=>?_
   repeat' (first | refine jR ?_ | (refine jo ?_;first | refine ah F ?_ | refine aH F ?_ | refine jD F F F ?_) | refine aD F F F ?_ | refine ae F (aC oM) ?_)
   all_goals exact aN (vs:=[_]) F ⟨F,trivial⟩ F (List.Sublist.refl _) ⟨F,F,F⟩
  ·refine jH [(0,_),(1,_)] Tryz.func42 Tryz.ntmps42 fun B hB hW=>?_
   repeat' (first | refine jR ?_ | (refine jo ?_;first | refine ah F ?_ | refine aP F ?_ | refine jD F F F ?_) | refine aO F F F ?_ | refine ae F F ?_)
   all_goals exact aN (vs:=[_]) F ⟨F,trivial⟩ F (List.Sublist.refl _) ⟨F,F,F⟩
theorem q8 {r sc n c : Nat} {s q : abu} {x : Bool} {a : Option Addr} {d : Int} (h : dt s = some (x,q)) (hs : s.length ≤ 1000000) : b6 abt 45 [Pt r 0] G [bA r sc s false a n c d] (fun v L'=>v = Bo x ∧ L' = [bA r sc q false a n c d]):=by
 have e:=eJ h
 subst e
 have hl : ((if x = true then 1 else 0) :: q).length = q.length + 1:=rfl
 have cx_tkb:=iQ (G:=G) (r:=r) (sc:=sc) (m:=1) (n:=n) (c:=c) (s:=(if x = true then 1 else 0) :: q) (a:=a) (d:=d) ⟨oM,hs⟩
 cases x
 ·have cx_tkb : b6 abt 42 [Pt r 0,I 1] G [bA r sc (0 :: q) false a n c d] (fun v L'=>v = S [0] ∧ L' = [bA r sc q false a n c d]):=cx_tkb
  refine jH [(0,_)] Tryz.func45 Tryz.ntmps45 fun B hB hW=>?_
  repeat' (first | refine jR ?_ | (refine jo ?_;(refine ai F F F cx_tkb F ?_;rintro _ _ ⟨rfl,rfl⟩;dsimp only [zA,fA])) | refine af F F ?_)
  all_goals exact aN (vs:=[_]) F ⟨F,trivial⟩ F (List.Sublist.refl _) ⟨F,F,F⟩
 ·have cx_tkb : b6 abt 42 [Pt r 0,I 1] G [bA r sc (1 :: q) false a n c d] (fun v L'=>v = S [1] ∧ L' = [bA r sc q false a n c d]):=cx_tkb
  refine jH [(0,_)] Tryz.func45 Tryz.ntmps45 fun B hB hW=>?_
  repeat' (first | refine jR ?_ | (refine jo ?_;(refine ai F F F cx_tkb F ?_;rintro _ _ ⟨rfl,rfl⟩;dsimp only [zA,fA])) | refine af F F ?_)
  all_goals exact aN (vs:=[_]) F ⟨F,trivial⟩ F (List.Sublist.refl _) ⟨F,F,F⟩
theorem ra {r sc n c : Nat} {s : abu} {b : Bool} {a : Option Addr} {d : Int} (h : b = true ∨ dt s = none) (hs : s.length ≤ 1000000) : b6 abt 45 [Pt r 0] G [bA r sc s b a n c d] (fun v L'=>∃ q,(v = Bo false ∧ q.length ≤ s.length) ∧ L' = [bA r sc q true a n c d]):=by
 by_cases h1 : b = true ∨ s.length < 1
 ·have cx_tkb:=fz (G:=G) (r:=r) (sc:=sc) (m:=1) (n:=n) (c:=c) (s:=s) (b:=b) (a:=a) (d:=d) h1 ⟨hs,oM⟩
  have cx_tkb : b6 abt 42 [Pt r 0,I 1] G [bA r sc s b a n c d] (fun v L'=>v = S [] ∧ L' = [bA r sc s true a n c d]):=cx_tkb
  refine jH [(0,_)] Tryz.func45 Tryz.ntmps45 fun B hB hW=>?_
  repeat' (first | refine jR ?_ | (refine jo ?_;(refine ai F F F cx_tkb F ?_;rintro _ _ ⟨rfl,rfl⟩;dsimp only [zA,fA])) | refine af F F ?_)
  all_goals exact aN (vs:=[_]) F ⟨F,trivial⟩ F (List.Sublist.refl _) ⟨F,s,⟨F,Nat.le_refl _⟩,F⟩
 ·obtain rfl : b = false:=by cases b;rfl;exact absurd (.inl F) h1
  match s,h,hs,h1 with
  | [],_,_,h1=>exact absurd (.inr (by simp)) h1
  | e :: q,h,hs,_ =>
   have he : e.toNat ≠ 0 ∧ e.toNat ≠ 1:=by
    rcases h with h | h
    ·cases h
    ·unfold dt at h
     dsimp only at h
     split at h
     ·cases h
     ·split at h
      ·cases h
      ·exact ⟨by assumption,by assumption⟩
   have hl : (e :: q).length = q.length + 1:=rfl
   have cx_tkb:=iQ (G:=G) (r:=r) (sc:=sc) (m:=1) (n:=n) (c:=c) (s:=e :: q) (a:=a) (d:=d) ⟨oM,hs⟩
   have cx_tkb : b6 abt 42 [Pt r 0,I 1] G [bA r sc (e :: q) false a n c d] (fun v L'=>v = S [e] ∧ L' = [bA r sc q false a n c d]):=cx_tkb
   have hne : ¬ [e] = [1]:=fun h=>by simp only [List.cons.injEq,and_true] at h;subst h;exact he.2 F
   have hbl : Op.bytesLess [e] [1] = false:=by
    cases hb : Op.bytesLess [e] [1] with
    | false=>rfl
    | true =>
     exfalso
     unfold Op.bytesLess at hb
     have h9 : ¬ e.toNat < (1 : UInt8).toNat:=by show ¬ e.toNat < 1;omega
     simp_all
   have hc : (!(Op.bytesLess [e] [1] || decide ([e] = [1]))) = true:=by rw [hbl,decide_eq_false hne];rfl
   refine jH [(0,_)] Tryz.func45 Tryz.ntmps45 fun B hB hW=>?_
   repeat' (first | refine jR ?_ | (refine jo ?_;first | refine jD F F F ?_ | (refine ai F F F cx_tkb F ?_;rintro _ _ ⟨rfl,rfl⟩;dsimp only [zA,fA])) | refine ae F ‹_› ?_)
   all_goals exact aN (vs:=[_]) F ⟨F,trivial⟩ F (List.Sublist.refl _) ⟨F,q,⟨by rw [decide_eq_false hne];all_goals rfl,oM⟩,rfl⟩
def ngV (o : Option (Int × abu)) : Value:=match o with
 | some (n,r)=>Tu [I n,S r,Bo true]
 | none=>Tu [I 0,S [],Bo false]
def fO : Nat → Nat → abu → Option (Int × abu)
 | 0,_,s=>bR s
 | 1,m,s=>fP m s
 | 2,m,s=>fD m s
 | _,_,_=>none
theorem ut : ∀ {i m : Nat},fO i m [] = none
 | 0,_=>rfl
 | 1,_=>rfl
 | 2,_=>rfl
 | _ + 3,_=>rfl
def kz : Nat → Int
 | 0=>1
 | 1=>128
 | 2=>16384
 | _=>2097152
def pP : Nat → Nat
 | 0=>1
 | 1=>128
 | 2=>16384
 | _=>2097152
theorem uw {m : Nat} {c : UInt8} {r : abu} (h : c.toNat < 128) : fO 0 m (c :: r) = some ((c.toNat : Int),r):=by show bR (c :: r) = _;rw [bR,if_pos h]
theorem uz {m : Nat} {c : UInt8} {r : abu} (h : ¬ c.toNat < 128) : fO 0 m (c :: r) = fO 1 (c.toNat % 128) r:=by show bR (c :: r) = fP (c.toNat % 128) r;rw [bR,if_neg h]
theorem rX {i m : Nat} {c : UInt8} {r : abu} (h : c.toNat = 0) (hi : 1 ≤ i) : fO i m (c :: r) = none:=by
 match i,hi with
 | 1,_=>show fP m (c :: r) = none;rw [fP,if_pos oM,if_pos h]
 | 2,_=>show fD m (c :: r) = none;rw [fD,if_pos oM,if_pos (.inl h)]
 | _ + 3,_=>rfl
theorem uv {m : Nat} {c : UInt8} {r : abu} (h : c.toNat < 128) (h0 : c.toNat ≠ 0) : fO 1 m (c :: r) = some (((m + c.toNat * 128 : Nat) : Int),r):=by show fP m (c :: r) = _;rw [fP,if_pos h,if_neg h0]
theorem uy {m : Nat} {c : UInt8} {r : abu} (h : ¬ c.toNat < 128) : fO 1 m (c :: r) = fO 2 (m + c.toNat % 128 * 128) r:=by show fP m (c :: r) = fD (m + c.toNat % 128 * 128) r;rw [fP,if_neg h]
theorem uu {m : Nat} {c : UInt8} {r : abu} (h : c.toNat < 128) (h0 : c.toNat ≠ 0) (hm : m + c.toNat * 16384 ≤ 999999) : fO 2 m (c :: r) = some (((m + c.toNat * 16384 : Nat) : Int),r):=by show fD m (c :: r) = _;rw [fD,if_pos h,if_neg oM]
theorem uA {m : Nat} {c : UInt8} {r : abu} (h : c.toNat < 128) (hm : ¬ m + c.toNat * 16384 ≤ 999999) : fO 2 m (c :: r) = none:=by show fD m (c :: r) = _;rw [fD,if_pos h,if_pos oM]
theorem ux {m : Nat} {c : UInt8} {r : abu} (h : ¬ c.toNat < 128) : fO 2 m (c :: r) = none:=by show fD m (c :: r) = _;rw [fD,if_neg h]
theorem pK {s : abu} (hs : s.length ≤ 1000000) : aI abt 76 [S s] G (· = ngV (bR s)):=by
 refine jE [(0,_)] Tryz.func76 Tryz.ntmps76 fun B hB=>?_
 repeat' (refine jR ?_)
 refine aU (ι:=Nat × Nat) (fun q=>(q.1 ≤ s.length ∧ q.1 ≤ 3) ∧ q.2 < pP q.1 ∧ bR s = fO q.1 q.2 (s.drop q.1)) (fun q=>[(0,S s),(5,I q.2),(6,I (kz q.1)),(7,I q.1)]) (fun _=>G) (fun q=>[]) (fun q=>s.length - q.1) (0,0) ?_ tU F a6 (fun q Hq=>?_)
 ·exact ⟨⟨Nat.zero_le _,by decide⟩,by decide,F⟩
 obtain ⟨i,m⟩:=q
 dsimp only at Hq ⊢
 obtain ⟨⟨hi0,hi3⟩,hm,hng⟩:=Hq
 by_cases hi : i < s.length
 case neg =>
  have hno : bR s = none:=by rw [hng,List.drop_of_length_le oM];exact ut
  rw [hno]
  repeat' (first | refine jR ?_ | (refine jo ?_;refine aH F ?_) | refine aD F F (aF oM) ?_ | refine af F F ?_)
  all_goals refine jY (vs:=[_,_,_]) ?_
  all_goals rfl
 by_cases h3 : i = 3
 ·subst h3
  have hno : bR s = none:=by rw [hng];rfl
  rw [hno]
  repeat' (first | refine jR ?_ | (refine jo ?_;refine aP F ?_) | refine aO F F (aC oM) ?_ | refine af F F ?_)
  all_goals refine jY (vs:=[_,_,_]) ?_
  all_goals rfl
 obtain ⟨c,hc1,hc2⟩:=kp hi
 rw [hc1] at hng
 have hc3 : bt s ((i : Int).toNat) = c.toNat:=hc2
 have hcl:=c.toNat_lt
 have hdl : s.drop ((i : Int) + 1).toNat = s.drop (i + 1):=by congr 1
 obtain rfl | rfl | rfl : i = 0 ∨ i = 1 ∨ i = 2:=oM
 ·have hm : m < 1:=hm
  rw [show kz 0 = 1 from rfl]
  by_cases h1 : c.toNat < 128
  ·rw [uw h1] at hng
   rw [hng]
   repeat' (first | refine jM ?_ | (refine jo ?_;first | refine aP F ?_ | refine aH F ?_) | refine aO F F (aC oM) ?_ | refine aD F F F ?_ | (refine ae F (by first | rfl | (refine decide_eq_true ?_;(omega))) ?_) | refine af F (aF oM) ?_ | (refine ak (ar (id:=11) _ (fun _ h=>h) aj ?_);refine jW 0 [0,1,2,3,4,5,6,7] (aa 8 255) ?_;refine jQ ?_))
   all_goals (try rw [hdl])
   all_goals refine jY (vs:=[_,_,_]) ?_
   all_goals (rw [hc3];exact (jI _ _ _).trans (congrArg (fun z : Int=>Tu [I z,S (s.drop (0 + 1)),Bo true]) oM))
  ·rw [uz h1] at hng
   repeat' (first | refine jM ?_ | (refine jo ?_;refine aP F ?_) | refine aO F F (aC oM) ?_ | refine ae F F ?_ | refine af F (aF oM) ?_)
   refine Nx.re (d:=5) (v':=I ((c.toNat % 128 : Nat) : Int)) F (congrArg (Value.int .i64) (by rw [hc3];omega)) ?_
   refine Nx.re (d:=6) (v':=I (kz 1)) F (congrArg (Value.int .i64) F) ?_
   refine Nx.re (d:=7) (v':=I ((1 : Nat) : Int)) F (congrArg (Value.int .i64) F) ?_
   exact aT (1,c.toNat % 128) ⟨⟨oM,oM⟩,by show _ < _;simp only [pP];omega,hng⟩ oM tU rfl a6
 ·have hm : m < 128:=hm
  rw [show kz 1 = 128 from rfl]
  by_cases h1 : c.toNat < 128
  ·by_cases h0 : c.toNat = 0
   ·rw [rX h0 dC] at hng
    rw [hng]
    repeat' (first | refine jM ?_ | (refine jo ?_;refine aP F ?_) | (refine aO F F (by first | rfl | (refine decide_eq_true ?_;(omega))) ?_) | (refine ae F (by first | rfl | (refine decide_eq_true ?_;(omega))) ?_))
    all_goals refine jY (vs:=[_,_,_]) ?_
    all_goals rfl
   rw [uv h1 h0] at hng
   rw [hng]
   repeat' (first | refine jM ?_ | (refine jo ?_;first | refine aP F ?_ | refine aH F ?_) | (refine aO F F (by first | rfl | (refine decide_eq_true ?_;(omega))) ?_) | refine aD F F (aF oM) ?_ | (refine ae F (by first | rfl | (refine decide_eq_true ?_;(omega))) ?_) | refine af F (aF oM) ?_ | (refine ak (ar (id:=11) _ (fun _ h=>h) aj ?_);refine jW 0 [0,1,2,3,4,5,6,7] (aa 8 255) ?_;refine jQ ?_))
   all_goals (try rw [hdl])
   all_goals refine jY (vs:=[_,_,_]) ?_
   all_goals (rw [hc3];exact (jI _ _ _).trans (congrArg (fun z : Int=>Tu [I z,S (s.drop (1 + 1)),Bo true]) oM))
  ·rw [uy h1] at hng
   repeat' (first | refine jM ?_ | (refine jo ?_;refine aP F ?_) | refine aO F F (aC oM) ?_ | refine ae F F ?_ | refine af F (aF oM) ?_)
   refine Nx.re (d:=5) (v':=I ((m + c.toNat % 128 * 128 : Nat) : Int)) F (congrArg (Value.int .i64) (by rw [hc3];omega)) ?_
   refine Nx.re (d:=6) (v':=I (kz 2)) F (congrArg (Value.int .i64) (by show _ = (16384 : Int);omega)) ?_
   refine Nx.re (d:=7) (v':=I ((2 : Nat) : Int)) F (congrArg (Value.int .i64) F) ?_
   exact aT (2,m + c.toNat % 128 * 128) ⟨⟨oM,oM⟩,by show _ < _;simp only [pP];omega,hng⟩ oM tU rfl a6
 ·have hm : m < 16384:=hm
  rw [show kz 2 = 16384 from rfl]
  by_cases h1 : c.toNat < 128
  ·by_cases h0 : c.toNat = 0
   ·rw [rX h0 dC] at hng
    rw [hng]
    repeat' (first | refine jM ?_ | (refine jo ?_;refine aP F ?_) | (refine aO F F (by first | rfl | (refine decide_eq_true ?_;(omega))) ?_) | (refine ae F (by first | rfl | (refine decide_eq_true ?_;(omega))) ?_))
    all_goals refine jY (vs:=[_,_,_]) ?_
    all_goals rfl
   by_cases hbig : m + c.toNat * 16384 ≤ 999999
   case neg =>
    rw [uA h1 hbig] at hng
    rw [hng]
    repeat' (first | refine jM ?_ | (refine jo ?_;first | refine aP F ?_ | refine aH F ?_) | (refine aO F F (by first | rfl | (refine decide_eq_true ?_;(omega))) ?_) | refine aD F F (aF oM) ?_ | (refine ae F (by first | rfl | (refine decide_eq_true ?_;(omega))) ?_))
    all_goals refine jY (vs:=[_,_,_]) ?_
    all_goals rfl
   rw [uu h1 h0 hbig] at hng
   rw [hng]
   repeat' (first | refine jM ?_ | (refine jo ?_;first | refine aP F ?_ | refine aH F ?_) | (refine aO F F (by first | rfl | (refine decide_eq_true ?_;(omega))) ?_) | refine aD F F (aF oM) ?_ | (refine ae F (by first | rfl | (refine decide_eq_true ?_;(omega))) ?_) | refine af F (aF oM) ?_ | (refine ak (ar (id:=11) _ (fun _ h=>h) aj ?_);refine jW 0 [0,1,2,3,4,5,6,7] (aa 8 255) ?_;refine jQ ?_))
   all_goals (try rw [hdl])
   all_goals refine jY (vs:=[_,_,_]) ?_
   all_goals (rw [hc3];exact (jI _ _ _).trans (congrArg (fun z : Int=>Tu [I z,S (s.drop (2 + 1)),Bo true]) oM))
  ·rw [ux h1] at hng
   repeat' (first | refine jM ?_ | (refine jo ?_;refine aP F ?_) | refine aO F F (aC oM) ?_ | refine ae F F ?_ | refine af F (aF oM) ?_)
   refine Nx.re (d:=5) (v':=I ((m + c.toNat % 128 * 16384 : Nat) : Int)) F (congrArg (Value.int .i64) (by rw [hc3];omega)) ?_
   refine Nx.re (d:=6) (v':=I (kz 3)) F (congrArg (Value.int .i64) (by show _ = (2097152 : Int);omega)) ?_
   refine Nx.re (d:=7) (v':=I ((3 : Nat) : Int)) F (congrArg (Value.int .i64) F) ?_
   exact aT (3,m + c.toNat % 128 * 16384) ⟨⟨oM,oM⟩,by show _ < _;simp only [pP];omega,hng⟩ oM tU rfl a6
theorem d8 {r sc m c : Nat} {s q : abu} {b : Bool} {a : Option Addr} {d n : Int} (h : bR s = some (n,q)) (hs : s.length ≤ 1000) : b6 abt 41 [Pt r 0] G [bA r sc s b a m c d] (fun v L'=>v = I n ∧ L' = [bA r sc q b a m c d]):=by
 have cx_ng0:=pK (G:=G) (s:=s) oM
 rw [h] at cx_ng0
 have cx_ngi : aI abt 76 [S s] G (· = Tu [I n,S q,Bo true]):=cx_ng0
 refine jH [(0,_)] Tryz.func41 Tryz.ntmps41 fun B hB hW=>?_
 repeat' (first | refine jR ?_ | (refine jo ?_;first | refine ah F ?_ | refine jD F F F ?_ | refine ad F F F cx_ngi F ?_) | refine af F F ?_)
 all_goals exact aN (vs:=[_]) F ⟨F,trivial⟩ F (List.Sublist.refl _) ⟨F,F,F⟩
theorem fH {r sc m c : Nat} {s : abu} {b : Bool} {a : Option Addr} {d : Int} (h : bR s = none) (hs : s.length ≤ 1000) : b6 abt 41 [Pt r 0] G [bA r sc s b a m c d] (fun v L'=>v = I 0 ∧ L' = [bA r sc [] true a m c d]):=by
 have cx_ng0:=pK (G:=G) (s:=s) oM
 rw [h] at cx_ng0
 have cx_ngi : aI abt 76 [S s] G (· = Tu [I 0,S [],Bo false]):=cx_ng0
 refine jH [(0,_)] Tryz.func41 Tryz.ntmps41 fun B hB hW=>?_
 repeat' (first | refine jR ?_ | (refine jo ?_;first | refine ah F ?_ | refine jD F F F ?_ | refine ad F F F cx_ngi F ?_) | refine ae F F ?_)
 all_goals exact aN (vs:=[_]) F ⟨F,trivial⟩ F (List.Sublist.refl _) ⟨F,F,F⟩
abbrev e8 : TypeId:=62
abbrev lq : TypeId:=83
abbrev pZ : TypeId:=77
theorem cR {P : Program} {n : Nat} {E : bd} {B : Base} {G : Gh} {L R1 R : List Own} {e : Exit} {f : FuncId} {fi ca az xs : List Value} {b1 b2 : Nat} {c1 c2 : List Value} {T1 T2 : TypeId} {PostD : Value → Gh → List Own → Prop} {fn : Func} {rs : List ResultVar} {Post : Value → Gh → List Own → Prop}
  [h1 : DelB L b1 c1 T1 R1] [h2 : DelB R1 b2 c2 T2 R] (he : e = .ret ∨ e = .normal) (hv : fi ++ az ++ ca = xs) (hc : FnD P f xs G [.blk b1 (.cells c1.toArray T1 (0,0)),.blk b2 (.cells c2.toArray T2 (0,0))] PostD)
  (hr : fn.results = rs.toArray) (k : ∀ v G' L',PostD v G' L' → ∃ vs L'',hZ P (St B G' (L' ++ R)) E rs vs ∧ L''.Sublist (L' ++ R) ∧ Post (eo vs) G' L'') :
  Nx n [qP f fi ca az] E B G L (cu P (.exit e) [] (vj P fn (df B Post))):=z0 he hv hc (h1.del.perm.trans (h2.del.perm.cons _)) hr k
theorem cz {x0 r sc n c : Nat} {s : abu} {b : Bool} {a : Option Addr} {d : Int} (hd : -1000 ≤ d ∧ d ≤ 1000) : FnD abt 136 [Pt x0 0] G [.blk x0 (.cells (List.toArray [Pt r 0]) e8 (0,0)),bA r sc s b a n c d]
  (fun _ G' L'=>G' = G ∧ L' = [.blk x0 (.cells (List.toArray [Pt r 0]) e8 (0,0)),bA r sc s b a n c (d - 1)]):=by
 refine xB [(0,_)] Tryz.func136 kR Tryz.ntmps136 F F tU fun B hok hB hW=>?_
 repeat' (first | refine jM ?_ | (refine jo ?_;first | refine ah F ?_ | refine jD F F F ?_))
 all_goals exact m7 (vs:=[]) F trivial F (List.Sublist.refl _) ⟨F,F⟩
def rq (f : abu → Option (V × abu)) (s : abu) (b : Bool) (u : V) (s' : abu) (b' : Bool) : Prop :=
 s'.length ≤ s.length ∧ (b' = false → b = false ∧ f s = some (u,s')) ∧ (b' = true → b = true ∨ f s = none)
def jq (f : abu → Option (V × abu)) (r sc : Nat) (s : abu) (b : Bool) (d : Int) (v : Value) (G' : Gh) (L' : List Own) : Prop :=
 ∃ u c s' b' a n k,v = Ag (bE c) ∧ V.rep G' u c ∧ L' = [bA r sc s' b' a n k d] ∧ (d ≠ 0 → a = none ∧ n = 0 ∧ k = 0) ∧ rq f s b u s' b'
def pL (n sc : Nat) (qs : List b8) : Prop:=∀ (G : Gh) (r : Nat) (k s : abu) (b : Bool),ScI G sc qs → aJ (ag qs) k = true → s.length ≤ 1000 →
 cX abt 96 [Pt r 0,Ag (dQ k)] G [bA r sc s b none 0 0 (13 - (n : Int))] (jq (rb (ag qs) n k) r sc s b (13 - (n : Int)))
theorem cq {f : abu → Option (V × abu)} {r sc n k : Nat} {s s' : abu} {b b' : Bool} {d d' : Int} {u : V} {c : VC} {a : Option Addr} {G' : Gh} (hr : V.rep G' u c) (hd : d' = d) (hk : d ≠ 0 → a = none ∧ n = 0 ∧ k = 0) (h : rq f s b u s' b') : jq f r sc s b d (Ag (bE c)) G' [bA r sc s' b' a n k d']:=by
 subst hd;exact ⟨u,c,s',b',a,n,k,F,hr,F,hk,h⟩
theorem vu {f : abu → Option (V × abu)} {r sc : Nat} {k q : abu} {d e : Int} (h : e = d) (h0 : d ≠ 0) (hc : cX abt 96 [Pt r 0,Ag (dQ k)] G [bA r sc q false none 0 0 e] (jq f r sc q false e)) : cX abt 96 [Pt r 0,Ag [S (sg k),S (bs k),S (nm k)]] G [bA r sc q false none 0 0 d] (fun v G' L'=>∃ u c s' b',v = Ag (bE c) ∧ V.rep G' u c ∧ L' = [bA r sc s' b' none 0 0 d] ∧ rq f q false u s' b'):=by
 subst h
 refine hc.mono ?_
 rintro v G' L' ⟨h1,u,c,s',b',a,n,kk,rfl,h2,rfl,h3,h4⟩
 obtain ⟨rfl,rfl,rfl⟩:=h3 h0
 exact ⟨h1,u,c,s',b',F,h2,F,h4⟩
theorem ke {ts : List Ty} {n : Nat} {k q t1 : abu} {u : V} {b1 : Bool} (h : rq (rb ts n k) q false u t1 b1) : t1.length ≤ q.length ∧ (b1 = false → rb ts n k q = some (u,t1) ∧ u.tot + 100 * t1.length ≤ 100 * q.length ∧ t1.length < q.length) ∧ (b1 = true → rb ts n k q = none):=by
 obtain ⟨h1,h2,h3⟩:=h
 refine ⟨h1,fun h=>?_,fun h=>?_⟩
 ·obtain ⟨_,h4⟩:=h2 h
  exact ⟨h4,qd _ _ _ _ _ h4,un _ _ _ _ _ h4⟩
 ·rcases h3 h with h4 | h4
  ·cases h4
  ·exact h4
theorem sr {r sc n : Nat} {qs : List b8} {k s : abu} {b : Bool} (h : b = true ∨ n = 0) (hs : s.length ≤ 1000) (hn : n ≤ 13) :
  cX abt 96 [Pt r 0,Ag [S (sg k),S (bs k),S (nm k)]] G [bA r sc s b none 0 0 (13 - (n : Int))] (jq (rb (ag qs) n k) r sc s b (13 - (n : Int))):=by
 have hno : b = true ∨ rb (ag qs) n k s = none:=by
  rcases h with h | rfl
  ·exact .inl h
  ·exact .inr F
 rcases h with rfl | rfl
 ·
  refine ce [(0,_),(1,_)] Tryz.func96 kR Tryz.ntmps96 F F tU fun B hok hB hW=>?_
  repeat' (first | refine jM ?_ | (refine jo ?_;first | refine jO fun _=>?_ | refine jL fun _=>?_ | refine ah F ?_ | refine jD F F F ?_ | refine jV (cE F F) ?_))
  rename_i x2 x3 x4
  refine jo ?_
  refine cg (fi:=[]) (ca:=[Pt x2 0]) (az:=[]) F F ?_
  repeat' (first | refine jR ?_ | (refine jo ?_;first | refine ah F ?_ | refine jD F F F ?_ | refine jC F F F ?_ | refine jV (am F F) ?_) | refine ae F F ?_ | refine cJ F (fun _=>?_) (fun _=>?_))
  all_goals
   refine cR (.inl F) F (cz (x0:=x2) (r:=r) (sc:=sc) (s:=s) (b:=true) (a:=none) (n:=0) (c:=0) (d:=13 - (n : Int) + 1) oM) F ?_
   rintro v G' L' ⟨rfl,rfl⟩
   dsimp only [zA,fA]
   exact ⟨[_],[bA r sc s true none 0 0 (13 - (n : Int) + 1 - 1)],⟨aw F F F F,trivial⟩,sB,Gh.le.refl _,cq (c:=⟨0,[],0,none,0,0⟩) fb oM (fun _=>⟨F,F,F⟩) ⟨Nat.le_refl _,fun h=>(by cases h),fun _=>hno⟩⟩
 ·
  refine ce [(0,_),(1,_)] Tryz.func96 kR Tryz.ntmps96 F F tU fun B hok hB hW=>?_
  repeat' (first | refine jM ?_ | (refine jo ?_;first | refine jO fun _=>?_ | refine jL fun _=>?_ | refine ah F ?_ | refine jD F F F ?_ | refine jV (cE F F) ?_))
  rename_i x2 x3 x4
  refine jo ?_
  refine cg (fi:=[]) (ca:=[Pt x2 0]) (az:=[]) F F ?_
  repeat' (first | refine jR ?_ | (refine jo ?_;first | refine ah F ?_ | refine jD F F F ?_ | refine jC F F F ?_ | refine jV (am F F) ?_) | refine ae F F ?_)
  all_goals
   refine cR (.inl F) F (cz (x0:=x2) (r:=r) (sc:=sc) (s:=s) (b:=true) (a:=none) (n:=0) (c:=0) (d:=13 - ((0 : Nat) : Int) + 1) oM) F ?_
   rintro v G' L' ⟨rfl,rfl⟩
   dsimp only [zA,fA]
   exact ⟨[_],[bA r sc s true none 0 0 (13 - ((0 : Nat) : Int) + 1 - 1)],⟨aw F F F F,trivial⟩,sB,Gh.le.refl _,cq (c:=⟨0,[],0,none,0,0⟩) fb oM (fun _=>⟨F,F,F⟩) ⟨Nat.le_refl _,fun h=>(by cases h),fun _=>hno⟩⟩
theorem sy {n r sc m c : Nat} {qs : List b8} {k p s : abu} {d : Int} {a : Option Addr} (hd : d = 13 - (n : Int)) (hn : n ≤ 12) (hU : pL n sc qs) (hS : ScI G sc qs) (hk : aJ (ag qs) k = true) (hs : p.length ≤ 1000) :
  cX abt 138 [Pt r 0,Ag [S (sg k),S (bs k),S (nm k)],S p] G [bA r sc s false a m c d] (fun v G' L'=>∃ u cc b',v = Ag (bE cc) ∧ V.rep G' u cc ∧ L' = [bA r sc s b' a m c d] ∧ (b' = false → db (rb (ag qs) n) k p = some u ∧ u.tot ≤ 100 * p.length) ∧ (b' = true → db (rb (ag qs) n) k p = none)):=by
 have cx_vl : ∀ y,cX abt 96 [Pt y 0,Ag [S (sg k),S (bs k),S (nm k)]] G [bA y sc p false none 0 0 d] (fun v G' L'=>∃ u c s' b',v = Ag (bE c) ∧ V.rep G' u c ∧ L' = [bA y sc s' b' none 0 0 d] ∧ rq (rb (ag qs) n k) p false u s' b'):=fun y=>vu hd.symm oM (hU G y k p false hS hk hs)
 refine b7 [(0,_),(1,_),(2,_)] Tryz.func138 kR Tryz.ntmps138 F F tU fun B hB hW=>?_
 repeat' (first | refine jR ?_ | (refine jo ?_;first | refine jO fun _=>?_ | refine jL fun _=>?_ | refine aK F ?_) | (refine ak (ar (id:=1) _ (fun _ h=>h) aj ?_);refine jT 5 [0,1,2,4,5,6,7] (aa 12 247) ?_;(refine jG (aa 12 255) 3 F (an F F F) ?_);(refine jG (aa 12 511) 8 F (an F F F) ?_);(refine jG (aa 12 1023) 9 F (am F F) ?_);refine jA 10 F ?_;(refine jO fun _=>?_);refine jS (aa 12 2047) ?_;refine jT 0 [11] (aa 12 4095) ?_;refine jQ ?_))
 rename_i y
 refine jo ?_
 refine da F F F (cx_vl y) F ?_
 rintro _ G1 _ hle ⟨u1,c1,t1,b1,rfl,hrep,rfl,hP⟩
 dsimp only [zA,fA]
 obtain ⟨hQ1,hQ2,hQ3⟩:=ke hP
 cases b1 with
 | true =>
  have hno : db (rb (ag qs) n) k p = none:=by unfold db;rw [hQ3 rfl]
  repeat' (first | refine jR ?_ | (refine jo ?_;first | refine jL fun _=>?_ | refine ah F ?_ | refine aK F ?_ | refine jD F F F ?_ | refine jC F F F ?_ | refine aP F ?_) | refine aO F F F ?_ | refine ae F F ?_)
  all_goals refine aN (vs:=[_]) F ⟨aw F F F F,trivial⟩ F sB ⟨hle,u1,c1,true,F,hrep,F,fun h=>(by cases h),fun _=>hno⟩
 | false =>
  obtain ⟨h1,h2,h3⟩:=hQ2 rfl
  cases t1 with
  | nil =>
   have hyes : db (rb (ag qs) n) k p = some u1:=iG h1
   repeat' (first | refine jR ?_ | (refine jo ?_;first | refine jL fun _=>?_ | refine ah F ?_ | refine aK F ?_ | refine jC F F F ?_ | refine aH F ?_) | refine aD F F F ?_ | refine af F F ?_)
   all_goals refine aN (vs:=[_]) F ⟨aw F F F F,trivial⟩ F sB ⟨hle,u1,c1,false,F,hrep,F,fun _=>⟨hyes,by simpa using h2⟩,fun h=>(by cases h)⟩
  | cons e t1 =>
   have hno : db (rb (ag qs) n) k p = none:=by unfold db;rw [h1]
   repeat' (first | refine jR ?_ | (refine jo ?_;first | refine jL fun _=>?_ | refine ah F ?_ | refine aK F ?_ | refine jD F F F ?_ | refine jC F F F ?_ | refine aH F ?_) | refine aD F F F ?_ | refine ae F F ?_)
   all_goals refine aN (vs:=[_]) F ⟨aw F F F F,trivial⟩ F sB ⟨hle,u1,c1,true,F,hrep,F,fun h=>(by cases h),fun _=>hno⟩
theorem zN (x : abu) : dn (39 :: (x ++ [39])) = lK x:=by
 cases x with
 | nil=>simp [dn,wS,lK,bt]
 | cons c x =>
  have h:=r5 (s:=39 :: (c :: x ++ [39]))
  have hne : (39 :: (c :: x ++ [39]) : abu) ≠ [39,39]:=fun e=>by simpa using congrArg List.length e
  have hl : (39 :: (c :: x ++ [39]) : abu).length = x.length + 3:=by simp
  have e0 : bt (39 :: (c :: x ++ [39]) : abu) 0 = 39:=rfl
  have e1 : bt (39 :: (c :: x ++ [39]) : abu) (x.length + 3 - 1) = 39:=by
   rw [show x.length + 3 - 1 = (x.length + 1) + 1 by omega,d9,show x.length + 1 = (c :: x).length from rfl]
   simp [bt,List.getD]
  have e2 : ((39 :: (c :: x ++ [39]) : abu).take (x.length + 3 - 1)).drop 1 = c :: x:=by
   rw [show x.length + 3 - 1 = (c :: x).length + 1 by simp,List.take_succ_cons,List.take_left];rfl
  rw [hl,e0,e1,e2,decide_eq_true hne,Bool.and_true] at h
  rw [h,decide_eq_true oM]
  simp
theorem aaq {n r sc : Nat} {qs : List b8} {s : abu} {d : Int} (hd : d = 12 - (n : Int)) (hn : n ≤ 12) (hr : aL (ag qs) [110] = none) (hs : s.length ≤ 1000) :
  cX abt 96 [Pt r 0,Ag (dQ [110])] G [bA r sc s false none 0 0 d] (jq (rb (ag qs) (n + 1) [110]) r sc s false d):=by
 have cx_sign:=@di G [110] []
 have hrd:=abe (ts:=ag qs) (n:=n) (s:=s) hr
 show cX abt 96 [Pt r 0,Ag [S [],S [110],S []]] G [bA r sc s false none 0 0 d] _
 cases hg : bR s with
 | none =>
  rw [hg] at hrd
  have cx_nb:=fH (G:=G) (r:=r) (sc:=sc) (m:=0) (c:=0) (b:=false) (a:=none) (d:=d + 1) hg hs
  refine ce [(0,_),(1,_)] Tryz.func96 kR Tryz.ntmps96 F F tU fun B hok hB hW=>?_
  repeat' (first | refine jM ?_ | (refine jo ?_;first | refine jO fun _=>?_ | refine jL fun _=>?_ | refine ah F ?_ | refine jD F F F ?_ | refine jV (cE F F) ?_))
  rename_i x2 x3 x4
  refine jo ?_
  refine cg (fi:=[]) (ca:=[Pt x2 0]) (az:=[]) F F ?_
  repeat' (first | refine jR ?_ | (refine jo ?_;first | refine ah F ?_ | refine aK F ?_ | refine jC F F F ?_ | refine jV (am F F) ?_ | refine ad F F F cx_sign F ?_ | (refine ai F F F cx_nb F ?_;rintro _ _ ⟨rfl,rfl⟩;dsimp only [zA,fA]) | refine ad F F F (fJ oM) F ?_) | refine ae F F ?_ | (refine af F (by first | rfl | (refine decide_eq_false ?_;(omega))) ?_))
  all_goals
   refine cR (.inl F) F (cz (x0:=x2) (r:=r) (sc:=sc) (s:=[]) (b:=true) (a:=none) (n:=0) (c:=0) (d:=d + 1) oM) F ?_
   rintro v G' L' ⟨rfl,rfl⟩
   dsimp only [zA,fA]
   exact ⟨[_],[bA r sc [] true none 0 0 (d + 1 - 1)],⟨aw F F F F,trivial⟩,sB,Gh.le.refl _,cq (c:=⟨110,a8 0,0,none,0,0⟩) (be dC dC) oM (fun _=>⟨F,F,F⟩) ⟨by simp,fun h=>(by cases h),fun _=>.inr hrd⟩⟩
 | some z =>
  obtain ⟨m,q⟩:=z
  obtain ⟨h1,h2,_⟩:=d3 hg
  have hl:=cy hg
  rw [hg] at hrd
  have cx_nb:=d8 (G:=G) (r:=r) (sc:=sc) (m:=0) (c:=0) (b:=false) (a:=none) (d:=d + 1) hg hs
  refine ce [(0,_),(1,_)] Tryz.func96 kR Tryz.ntmps96 F F tU fun B hok hB hW=>?_
  repeat' (first | refine jM ?_ | (refine jo ?_;first | refine jO fun _=>?_ | refine jL fun _=>?_ | refine ah F ?_ | refine jD F F F ?_ | refine jV (cE F F) ?_))
  rename_i x2 x3 x4
  refine jo ?_
  refine cg (fi:=[]) (ca:=[Pt x2 0]) (az:=[]) F F ?_
  repeat' (first | refine jR ?_ | (refine jo ?_;first | refine ah F ?_ | refine aK F ?_ | refine jC F F F ?_ | refine jV (am F F) ?_ | refine ad F F F cx_sign F ?_ | (refine ai F F F cx_nb F ?_;rintro _ _ ⟨rfl,rfl⟩;dsimp only [zA,fA]) | refine ad F F F (fJ oM) F ?_) | refine ae F F ?_ | (refine af F (by first | rfl | (refine decide_eq_false ?_;(omega))) ?_))
  all_goals
   refine cR (.inl F) F (cz (x0:=x2) (r:=r) (sc:=sc) (s:=q) (b:=false) (a:=none) (n:=0) (c:=0) (d:=d + 1) oM) F ?_
   rintro v G' L' ⟨rfl,rfl⟩
   dsimp only [zA,fA]
   exact ⟨[_],[bA r sc q false none 0 0 (d + 1 - 1)],⟨aw F F F F,trivial⟩,sB,Gh.le.refl _,cq (c:=⟨110,a8 m,0,none,0,0⟩) (be dC dC) oM (fun _=>⟨F,F,F⟩) ⟨oM,fun _=>⟨F,hrd⟩,fun h=>(by cases h)⟩⟩
theorem aas {n r sc : Nat} {qs : List b8} {s : abu} {d : Int} (hd : d = 12 - (n : Int)) (hn : n ≤ 12) (hr : aL (ag qs) [102] = none) (hs : s.length ≤ 1000) :
  cX abt 96 [Pt r 0,Ag (dQ [102])] G [bA r sc s false none 0 0 d] (jq (rb (ag qs) (n + 1) [102]) r sc s false d):=by
 have cx_sign:=@di G [102] []
 have hrd:=abf (ts:=ag qs) (n:=n) (s:=s) hr
 show cX abt 96 [Pt r 0,Ag [S [],S [102],S []]] G [bA r sc s false none 0 0 d] _
 cases hf : dt s with
 | none =>
  rw [hf] at hrd
  have cx_fl:=ra (G:=G) (r:=r) (sc:=sc) (n:=0) (c:=0) (s:=s) (b:=false) (a:=none) (d:=d + 1) (.inr hf) oM
  refine ce [(0,_),(1,_)] Tryz.func96 kR Tryz.ntmps96 F F tU fun B hok hB hW=>?_
  repeat' (first | refine jM ?_ | (refine jo ?_;first | refine jO fun _=>?_ | refine jL fun _=>?_ | refine ah F ?_ | refine jD F F F ?_ | refine jV (cE F F) ?_))
  rename_i x2 x3 x4
  refine jo ?_
  refine cg (fi:=[]) (ca:=[Pt x2 0]) (az:=[]) F F ?_
  repeat' (first | refine jR ?_ | (refine jo ?_;first | refine ah F ?_ | refine aK F ?_ | refine jC F F F ?_ | refine jV (am F F) ?_ | refine ad F F F cx_sign F ?_ | (refine ai F F F cx_fl F ?_;rintro _ _ ⟨q1,⟨rfl,hql⟩,rfl⟩;dsimp only [zA,fA])) | refine ae F F ?_ | (refine af F (by first | rfl | (refine decide_eq_false ?_;(omega))) ?_))
  all_goals
   refine cR (.inl F) F (cz (x0:=x2) (r:=r) (sc:=sc) (s:=q1) (b:=true) (a:=none) (n:=0) (c:=0) (d:=d + 1) oM) F ?_
   rintro v G' L' ⟨rfl,rfl⟩
   dsimp only [zA,fA]
   exact ⟨[_],[bA r sc q1 true none 0 0 (d + 1 - 1)],⟨aw F F F F,trivial⟩,sB,Gh.le.refl _,cq (c:=⟨102,[110,111],0,none,0,0⟩) (be dC dC) oM (fun _=>⟨F,F,F⟩) ⟨hql,fun h=>(by cases h),fun _=>.inr hrd⟩⟩
 | some y =>
  obtain ⟨x,q⟩:=y
  rw [hf] at hrd
  have hin:=eJ hf
  have hl : s.length = q.length + 1:=by rw [hin];rfl
  have cx_fl:=q8 (G:=G) (r:=r) (sc:=sc) (n:=0) (c:=0) (s:=s) (q:=q) (x:=x) (a:=none) (d:=d + 1) hf oM
  cases x with
  | false =>
   refine ce [(0,_),(1,_)] Tryz.func96 kR Tryz.ntmps96 F F tU fun B hok hB hW=>?_
   repeat' (first | refine jM ?_ | (refine jo ?_;first | refine jO fun _=>?_ | refine jL fun _=>?_ | refine ah F ?_ | refine jD F F F ?_ | refine jV (cE F F) ?_))
   rename_i x2 x3 x4
   refine jo ?_
   refine cg (fi:=[]) (ca:=[Pt x2 0]) (az:=[]) F F ?_
   repeat' (first | refine jR ?_ | (refine jo ?_;first | refine ah F ?_ | refine aK F ?_ | refine jC F F F ?_ | refine jV (am F F) ?_ | refine ad F F F cx_sign F ?_ | (refine ai F F F cx_fl F ?_;rintro _ _ ⟨rfl,rfl⟩;dsimp only [zA,fA])) | refine ae F F ?_ | (refine af F (by first | rfl | (refine decide_eq_false ?_;(omega))) ?_))
   all_goals
    refine cR (.inl F) F (cz (x0:=x2) (r:=r) (sc:=sc) (s:=q) (b:=false) (a:=none) (n:=0) (c:=0) (d:=d + 1) oM) F ?_
    rintro v G' L' ⟨rfl,rfl⟩
    dsimp only [zA,fA]
    exact ⟨[_],[bA r sc q false none 0 0 (d + 1 - 1)],⟨aw F F F F,trivial⟩,sB,Gh.le.refl _,cq (c:=⟨102,[110,111],0,none,0,0⟩) (be dC dC) oM (fun _=>⟨F,F,F⟩) ⟨oM,fun _=>⟨F,hrd⟩,fun h=>(by cases h)⟩⟩
  | true =>
   refine ce [(0,_),(1,_)] Tryz.func96 kR Tryz.ntmps96 F F tU fun B hok hB hW=>?_
   repeat' (first | refine jM ?_ | (refine jo ?_;first | refine jO fun _=>?_ | refine jL fun _=>?_ | refine ah F ?_ | refine jD F F F ?_ | refine jV (cE F F) ?_))
   rename_i x2 x3 x4
   refine jo ?_
   refine cg (fi:=[]) (ca:=[Pt x2 0]) (az:=[]) F F ?_
   repeat' (first | refine jR ?_ | (refine jo ?_;first | refine ah F ?_ | refine aK F ?_ | refine jC F F F ?_ | refine jV (am F F) ?_ | refine ad F F F cx_sign F ?_ | (refine ai F F F cx_fl F ?_;rintro _ _ ⟨rfl,rfl⟩;dsimp only [zA,fA])) | refine ae F F ?_ | (refine af F (by first | rfl | (refine decide_eq_false ?_;(omega))) ?_))
   all_goals
    refine cR (.inl F) F (cz (x0:=x2) (r:=r) (sc:=sc) (s:=q) (b:=false) (a:=none) (n:=0) (c:=0) (d:=d + 1) oM) F ?_
    rintro v G' L' ⟨rfl,rfl⟩
    dsimp only [zA,fA]
    exact ⟨[_],[bA r sc q false none 0 0 (d + 1 - 1)],⟨aw F F F F,trivial⟩,sB,Gh.le.refl _,cq (c:=⟨102,[121,101,115],0,none,0,0⟩) (be dC dC) oM (fun _=>⟨F,F,F⟩) ⟨oM,fun _=>⟨F,hrd⟩,fun h=>(by cases h)⟩⟩
theorem gp {s : abu} : (bR s = none ∧ cM s = none) ∨ ∃ (m : Nat) (q : abu),bR s = some ((m : Int),q) ∧ m ≤ 999999 ∧ ((q.length < m ∧ cM s = none) ∨ (m ≤ q.length ∧ cM s = some (q.take m,q.drop m))):=by
 cases h : bR s with
 | none=>exact .inl ⟨F,by unfold cM;rw [h]⟩
 | some z =>
  obtain ⟨n,q⟩:=z
  obtain ⟨h0,h1,_⟩:=d3 h
  obtain ⟨m,rfl⟩ : ∃ m : Nat,n = (m : Int):=⟨n.toNat,oM⟩
  refine .inr ⟨m,q,F,oM,?_⟩
  by_cases hl : m ≤ q.length
  ·exact .inr ⟨hl,by unfold cM;rw [h];dsimp only;rw [Int.toNat_natCast,if_pos hl]⟩
  ·exact .inl ⟨oM,by unfold cM;rw [h];dsimp only;rw [Int.toNat_natCast,if_neg hl]⟩
theorem aan {n r sc : Nat} {qs : List b8} {s : abu} {d : Int} (hd : d = 12 - (n : Int)) (hn : n ≤ 12) (hr : aL (ag qs) [116] = none) (hs : s.length ≤ 1000) :
  cX abt 96 [Pt r 0,Ag (dQ [116])] G [bA r sc s false none 0 0 d] (jq (rb (ag qs) (n + 1) [116]) r sc s false d):=by
 have cx_sign:=@di G [116] []
 have hrd:=abd (ts:=ag qs) (n:=n) (s:=s) hr
 show cX abt 96 [Pt r 0,Ag [S [],S [116],S []]] G [bA r sc s false none 0 0 d] _
 rcases gp (s:=s) with ⟨hg,ht⟩ | ⟨m,q,hg,hm,⟨hl,ht⟩ | ⟨hl,ht⟩⟩
 ·rw [ht] at hrd
  dsimp only at hrd
  have cx_nb:=fH (G:=G) (r:=r) (sc:=sc) (m:=0) (c:=0) (b:=false) (a:=none) (d:=d + 1) hg hs
  have cx_tkb:=fz (G:=G) (r:=r) (sc:=sc) (m:=0) (n:=0) (c:=0) (s:=[]) (b:=true) (a:=none) (d:=d + 1) (.inl rfl) ⟨by simp,oM⟩
  have cx_tkb : b6 abt 42 [Pt r 0,I 0] G [bA r sc [] true none 0 0 (d + 1)] (fun v L'=>v = S [] ∧ L' = [bA r sc [] true none 0 0 (d + 1)]):=cx_tkb
  refine ce [(0,_),(1,_)] Tryz.func96 kR Tryz.ntmps96 F F tU fun B hok hB hW=>?_
  repeat' (first | refine jM ?_ | (refine jo ?_;first | refine jO fun _=>?_ | refine jL fun _=>?_ | refine ah F ?_ | refine jD F F F ?_ | refine jV (cE F F) ?_))
  rename_i x2 x3 x4
  refine jo ?_
  refine cg (fi:=[]) (ca:=[Pt x2 0]) (az:=[]) F F ?_
  repeat' (first | refine jR ?_ | (refine jo ?_;first | refine ah F ?_ | refine aK F ?_ | refine ad F F F cx_sign F ?_) | refine ae F F ?_ | (refine af F (by first | rfl | (refine decide_eq_false ?_;(omega))) ?_))
  (refine ak (ar (id:=26) [.blk x2 (.cells (List.toArray [Pt r 0]) e8 (0,0))] (by intro y hy;simp only [List.mem_cons,List.not_mem_nil,or_false] at hy ⊢;simp [hy]) aj ?_);(refine jG (aa 5 1) 0 F (an F F F) ?_);(refine jG (aa 5 3) 1 F (an F F F) ?_);refine jA 2 F ?_;(refine ai F F F cx_nb F ?_;rintro _ _ ⟨rfl,rfl⟩;dsimp only [zA,fA]);refine jK (aa 5 7) ?_;refine jA 3 F ?_;(refine ai F F F cx_tkb F ?_;rintro _ _ ⟨rfl,rfl⟩;dsimp only [zA,fA]);refine jK (aa 5 15) ?_;refine jW 0 [4] (aa 5 31) ?_;refine jQ ?_)
  all_goals repeat' (first | refine jR ?_ | (refine jo ?_;first | refine jC F F F ?_ | refine jV (am F F) ?_ | (refine ad F F F (iT ?_) F ?_;(focus ((simp;done);done)))) | refine af F F ?_)
  all_goals
   refine cR (.inl F) F (cz (x0:=x2) (r:=r) (sc:=sc) (s:=[]) (b:=true) (a:=none) (n:=0) (c:=0) (d:=d + 1) oM) F ?_
   rintro v G' L' ⟨rfl,rfl⟩
   dsimp only [zA,fA]
   exact ⟨[_],[bA r sc [] true none 0 0 (d + 1 - 1)],⟨aw F F F F,trivial⟩,sB,Gh.le.refl _,cq (c:=⟨116,[],0,none,0,0⟩) (be dC dC) oM (fun _=>⟨F,F,F⟩) ⟨by simp,fun h=>(by cases h),fun _=>.inr hrd⟩⟩
 ·rw [ht] at hrd
  dsimp only at hrd
  have hql:=cy hg
  have cx_nb:=d8 (G:=G) (r:=r) (sc:=sc) (m:=0) (c:=0) (b:=false) (a:=none) (d:=d + 1) hg hs
  have cx_tkb:=fz (G:=G) (r:=r) (sc:=sc) (m:=m) (n:=0) (c:=0) (s:=q) (b:=false) (a:=none) (d:=d + 1) (.inr hl) ⟨oM,oM⟩
  refine ce [(0,_),(1,_)] Tryz.func96 kR Tryz.ntmps96 F F tU fun B hok hB hW=>?_
  repeat' (first | refine jM ?_ | (refine jo ?_;first | refine jO fun _=>?_ | refine jL fun _=>?_ | refine ah F ?_ | refine jD F F F ?_ | refine jV (cE F F) ?_))
  rename_i x2 x3 x4
  refine jo ?_
  refine cg (fi:=[]) (ca:=[Pt x2 0]) (az:=[]) F F ?_
  repeat' (first | refine jR ?_ | (refine jo ?_;first | refine ah F ?_ | refine aK F ?_ | refine ad F F F cx_sign F ?_) | refine ae F F ?_ | (refine af F (by first | rfl | (refine decide_eq_false ?_;(omega))) ?_))
  (refine ak (ar (id:=26) [.blk x2 (.cells (List.toArray [Pt r 0]) e8 (0,0))] (by intro y hy;simp only [List.mem_cons,List.not_mem_nil,or_false] at hy ⊢;simp [hy]) aj ?_);(refine jG (aa 5 1) 0 F (an F F F) ?_);(refine jG (aa 5 3) 1 F (an F F F) ?_);refine jA 2 F ?_;(refine ai F F F cx_nb F ?_;rintro _ _ ⟨rfl,rfl⟩;dsimp only [zA,fA]);refine jK (aa 5 7) ?_;refine jA 3 F ?_;(refine ai F F F cx_tkb F ?_;rintro _ _ ⟨rfl,rfl⟩;dsimp only [zA,fA]);refine jK (aa 5 15) ?_;refine jW 0 [4] (aa 5 31) ?_;refine jQ ?_)
  all_goals repeat' (first | refine jR ?_ | (refine jo ?_;first | refine jC F F F ?_ | refine jV (am F F) ?_ | (refine ad F F F (iT ?_) F ?_;(focus ((simp;done);done)))) | refine af F F ?_)
  all_goals
   refine cR (.inl F) F (cz (x0:=x2) (r:=r) (sc:=sc) (s:=q) (b:=true) (a:=none) (n:=0) (c:=0) (d:=d + 1) oM) F ?_
   rintro v G' L' ⟨rfl,rfl⟩
   dsimp only [zA,fA]
   exact ⟨[_],[bA r sc q true none 0 0 (d + 1 - 1)],⟨aw F F F F,trivial⟩,sB,Gh.le.refl _,cq (c:=⟨116,[],0,none,0,0⟩) (be dC dC) oM (fun _=>⟨F,F,F⟩) ⟨oM,fun h=>(by cases h),fun _=>.inr hrd⟩⟩
 ·rw [ht] at hrd
  dsimp only at hrd
  rw [zN] at hrd
  have hql:=cy hg
  have hdl : (q.drop m).length = q.length - m:=List.length_drop
  have htl : (q.take m).length ≤ 1000:=by rw [List.length_take];omega
  have cx_nb:=d8 (G:=G) (r:=r) (sc:=sc) (m:=0) (c:=0) (b:=false) (a:=none) (d:=d + 1) hg hs
  have cx_tkb:=iQ (G:=G) (r:=r) (sc:=sc) (m:=m) (n:=0) (c:=0) (s:=q) (a:=none) (d:=d + 1) ⟨hl,oM⟩
  cases hti : lK (q.take m) with
  | true =>
   rw [hti] at hrd
   rw [if_pos rfl] at hrd
   refine ce [(0,_),(1,_)] Tryz.func96 kR Tryz.ntmps96 F F tU fun B hok hB hW=>?_
   repeat' (first | refine jM ?_ | (refine jo ?_;first | refine jO fun _=>?_ | refine jL fun _=>?_ | refine ah F ?_ | refine jD F F F ?_ | refine jV (cE F F) ?_))
   rename_i x2 x3 x4
   refine jo ?_
   refine cg (fi:=[]) (ca:=[Pt x2 0]) (az:=[]) F F ?_
   repeat' (first | refine jR ?_ | (refine jo ?_;first | refine ah F ?_ | refine aK F ?_ | refine ad F F F cx_sign F ?_) | refine ae F F ?_ | (refine af F (by first | rfl | (refine decide_eq_false ?_;(omega))) ?_))
   (refine ak (ar (id:=26) [.blk x2 (.cells (List.toArray [Pt r 0]) e8 (0,0))] (by intro y hy;simp only [List.mem_cons,List.not_mem_nil,or_false] at hy ⊢;simp [hy]) aj ?_);(refine jG (aa 5 1) 0 F (an F F F) ?_);(refine jG (aa 5 3) 1 F (an F F F) ?_);refine jA 2 F ?_;(refine ai F F F cx_nb F ?_;rintro _ _ ⟨rfl,rfl⟩;dsimp only [zA,fA]);refine jK (aa 5 7) ?_;refine jA 3 F ?_;(refine ai F F F cx_tkb F ?_;rintro _ _ ⟨rfl,rfl⟩;dsimp only [zA,fA]);refine jK (aa 5 15) ?_;refine jW 0 [4] (aa 5 31) ?_;refine jQ ?_)
   all_goals repeat' (first | refine jR ?_ | (refine jo ?_;first | refine jC F F F ?_ | refine jV (am F F) ?_ | refine ad F F F (iT oM) F ?_) | (refine af F ?_ ?_;(focus ((simp [*];done);done))))
   all_goals
    refine cR (.inl F) F (cz (x0:=x2) (r:=r) (sc:=sc) (s:=(q.drop m)) (b:=false) (a:=none) (n:=0) (c:=0) (d:=d + 1) oM) F ?_
    rintro v G' L' ⟨rfl,rfl⟩
    dsimp only [zA,fA]
    exact ⟨[_],[bA r sc (q.drop m) false none 0 0 (d + 1 - 1)],⟨aw F F F F,trivial⟩,sB,Gh.le.refl _,cq (c:=⟨116,q.take m,0,none,0,0⟩) (be dC dC) oM (fun _=>⟨F,F,F⟩) ⟨oM,fun _=>⟨F,hrd⟩,fun h=>(by cases h)⟩⟩
  | false =>
   rw [hti] at hrd
   rw [if_neg (by simp)] at hrd
   refine ce [(0,_),(1,_)] Tryz.func96 kR Tryz.ntmps96 F F tU fun B hok hB hW=>?_
   repeat' (first | refine jM ?_ | (refine jo ?_;first | refine jO fun _=>?_ | refine jL fun _=>?_ | refine ah F ?_ | refine jD F F F ?_ | refine jV (cE F F) ?_))
   rename_i x2 x3 x4
   refine jo ?_
   refine cg (fi:=[]) (ca:=[Pt x2 0]) (az:=[]) F F ?_
   repeat' (first | refine jR ?_ | (refine jo ?_;first | refine ah F ?_ | refine aK F ?_ | refine ad F F F cx_sign F ?_) | refine ae F F ?_ | (refine af F (by first | rfl | (refine decide_eq_false ?_;(omega))) ?_))
   (refine ak (ar (id:=26) [.blk x2 (.cells (List.toArray [Pt r 0]) e8 (0,0))] (by intro y hy;simp only [List.mem_cons,List.not_mem_nil,or_false] at hy ⊢;simp [hy]) aj ?_);(refine jG (aa 5 1) 0 F (an F F F) ?_);(refine jG (aa 5 3) 1 F (an F F F) ?_);refine jA 2 F ?_;(refine ai F F F cx_nb F ?_;rintro _ _ ⟨rfl,rfl⟩;dsimp only [zA,fA]);refine jK (aa 5 7) ?_;refine jA 3 F ?_;(refine ai F F F cx_tkb F ?_;rintro _ _ ⟨rfl,rfl⟩;dsimp only [zA,fA]);refine jK (aa 5 15) ?_;refine jW 0 [4] (aa 5 31) ?_;refine jQ ?_)
   all_goals repeat' (first | refine jR ?_ | (refine jo ?_;first | refine ah F ?_ | refine jD F F F ?_ | refine jC F F F ?_ | refine jV (am F F) ?_ | refine ad F F F (iT oM) F ?_) | (refine ae F ?_ ?_;(focus ((simp [*];done);done))))
   all_goals
    refine cR (.inl F) F (cz (x0:=x2) (r:=r) (sc:=sc) (s:=(q.drop m)) (b:=true) (a:=none) (n:=0) (c:=0) (d:=d + 1) oM) F ?_
    rintro v G' L' ⟨rfl,rfl⟩
    dsimp only [zA,fA]
    exact ⟨[_],[bA r sc (q.drop m) true none 0 0 (d + 1 - 1)],⟨aw F F F F,trivial⟩,sB,Gh.le.refl _,cq (c:=⟨116,q.take m,0,none,0,0⟩) (be dC dC) oM (fun _=>⟨F,F,F⟩) ⟨oM,fun h=>(by cases h),fun _=>.inr hrd⟩⟩
theorem po {t : Ty} (hw : TyW t) : bZ t.fields 0 = none:=by
 cases h : bZ t.fields 0 with
 | none=>rfl
 | some d =>
  obtain ⟨j,hj,_,hjt,_⟩:=cV h
  have:=(hw.fld _ (a7 hj)).tag
  omega
theorem k9 {p : Nat} {t : Ty} {m : Int} (hT : hD G p t) (hw : TyW t) (hm : 0 ≤ m ∧ m ≤ 999999) : aI abt 130 [Pt p 0,I m] G (fun v=>∃ q,v = .pointer q):=by
 have hfl:=hw.len
 cases hft : bZ t.fields m with
 | none =>
  obtain ⟨fv,ln,h1,h2⟩:=hT
  exact (dF h1 h2 oM hft).mono fun v G' L' h=>⟨h.1,h.2.1,_,h.2.2⟩
 | some f =>
  obtain ⟨fv,ln,h1,h2⟩:=hT
  obtain ⟨j,hj,hjn,hjt,hjd⟩:=cV hft
  obtain ⟨bf,of,cf,rfl,hsf⟩:=h2.expl oM
  exact (dE h1 hsf oM hj hjn hjt).mono fun v G' L' h=>⟨h.1,h.2.1,_,h.2.2⟩
theorem aat {n r sc p : Nat} {qs : List b8} {t : Ty} {x s : abu} {d : Int} (hd : d = 12 - (n : Int)) (hn : n ≤ 12) (hS : ScI G sc qs) (hkv : kl (fQ qs) x = some (Pt p 0)) (hT : hD G p t) (hw : TyW t) (hso : t.sort = 69) (hs : s.length ≤ 1000) :
  cX abt 96 [Pt r 0,Ag [S [],S [64],S x]] G [bA r sc s false none 0 0 d] (jq (cI (ag qs) (rb (ag qs) n) t) r sc s false d):=by
 obtain ⟨u,m,g1,g2,g3⟩:=hS.at'
 obtain ⟨fv,ln,h1,h2⟩:=hT
 have hfl:=hw.len
 have hso' : (t.sort : Int) = 69:=oM
 have cx_sign:=@di G [64] x
 have hrd : cI (ag qs) (rb (ag qs) n) t s = match bR s with
   | none=>none
   | some (m,r)=>match bZ t.fields m with
    | none=>none
    | some d=>some (.nd 69 [] d.tag [],r):=by
  unfold cI
  rw [if_neg oM]
  rcases bR s with _ | ⟨m,r⟩
  ·rfl
  ·dsimp only
   rcases bZ t.fields m with _ | d
   ·rfl
   ·dsimp only;rw [if_pos hso]
 cases hg : bR s with
 | none =>
  rw [hg] at hrd
  have cx_nb:=fH (G:=G) (r:=r) (sc:=sc) (m:=0) (c:=0) (b:=false) (a:=none) (d:=d + 1) hg hs
  have cx_fld:=dF h1 h2 oM (po hw)
  refine ce [(0,_),(1,_)] Tryz.func96 kR Tryz.ntmps96 F F tU fun B hok hB hW=>?_
  repeat' (first | refine jM ?_ | (refine jo ?_;first | refine jO fun _=>?_ | refine jL fun _=>?_ | refine ah F ?_ | refine jD F F F ?_ | refine jV (cE F F) ?_))
  rename_i x2 x3 x4
  refine jo ?_
  refine cg (fi:=[]) (ca:=[Pt x2 0]) (az:=[]) F F ?_
  repeat' (first | refine jR ?_ | (refine jo ?_;first | refine jL fun _=>?_ | refine ah F ?_ | refine aK F ?_ | refine jV (ay F F aS F F) ?_ | refine jD F F F ?_ | refine jC F F F ?_ | refine jV (am F F) ?_ | refine jV (bD F F) ?_ | refine ad F F F cx_sign F ?_ | (refine ai F F F cx_nb F ?_;rintro _ _ ⟨rfl,rfl⟩;dsimp only [zA,fA]) | refine ad F F F cx_fld F ?_) | (refine ae F (by first | rfl | (refine decide_eq_true ?_;(assumption))) ?_) | (refine af F (by first | rfl | (refine decide_eq_false ?_;(omega))) ?_) | (refine ak (ar (id:=34) _ (fun _ h=>h) aj ?_);refine jT 10 [7] (aa 11 128) ?_;(refine jG (aa 11 129) 0 F (an F F F) ?_);refine jT 7 [1,2] (aa 11 135) ?_;(refine jG (aa 11 143) 3 F (an F F F) ?_);refine jT 4 [4,5] (aa 11 191) ?_;(refine jG (aa 11 255) 6 F (ay F F aS F F) ?_);(refine jG (aa 11 511) 8 F (an F F F) ?_);((refine jG (aa 11 1023) 9 F (bG F F (c9 aS) aS F) ?_));refine jT 0 [10] (aa 11 2047) ?_;refine jQ ?_))
  all_goals
   refine cR (.inl F) F (cz (x0:=x2) (r:=r) (sc:=sc) (s:=[]) (b:=true) (a:=none) (n:=0) (c:=0) (d:=d + 1) oM) F ?_
   rintro v G' L' ⟨rfl,rfl⟩
   dsimp only [zA,fA]
   exact ⟨[_],[bA r sc [] true none 0 0 (d + 1 - 1)],⟨aw F F F F,trivial⟩,sB,Gh.le.refl _,cq (c:=⟨69,[],0,none,0,0⟩) (be dC dC) oM (fun _=>⟨F,F,F⟩) ⟨by simp,fun h=>(by cases h),fun _=>.inr hrd⟩⟩
 | some z =>
  obtain ⟨m,q⟩:=z
  obtain ⟨hm0,hm1,_⟩:=d3 hg
  have hl:=cy hg
  rw [hg] at hrd
  dsimp only at hrd
  have cx_nb:=d8 (G:=G) (r:=r) (sc:=sc) (m:=0) (c:=0) (b:=false) (a:=none) (d:=d + 1) hg hs
  cases hft : bZ t.fields m with
  | none =>
   rw [hft] at hrd
   have cx_fld:=dF h1 h2 oM hft
   refine ce [(0,_),(1,_)] Tryz.func96 kR Tryz.ntmps96 F F tU fun B hok hB hW=>?_
   repeat' (first | refine jM ?_ | (refine jo ?_;first | refine jO fun _=>?_ | refine jL fun _=>?_ | refine ah F ?_ | refine jD F F F ?_ | refine jV (cE F F) ?_))
   rename_i x2 x3 x4
   refine jo ?_
   refine cg (fi:=[]) (ca:=[Pt x2 0]) (az:=[]) F F ?_
   repeat' (first | refine jR ?_ | (refine jo ?_;first | refine jL fun _=>?_ | refine ah F ?_ | refine aK F ?_ | refine jV (ay F F aS F F) ?_ | refine jD F F F ?_ | refine jC F F F ?_ | refine jV (am F F) ?_ | refine jV (bD F F) ?_ | refine ad F F F cx_sign F ?_ | (refine ai F F F cx_nb F ?_;rintro _ _ ⟨rfl,rfl⟩;dsimp only [zA,fA]) | refine ad F F F cx_fld F ?_) | (refine ae F (by first | rfl | (refine decide_eq_true ?_;(assumption))) ?_) | (refine af F (by first | rfl | (refine decide_eq_false ?_;(omega))) ?_) | (refine ak (ar (id:=34) _ (fun _ h=>h) aj ?_);refine jT 10 [7] (aa 11 128) ?_;(refine jG (aa 11 129) 0 F (an F F F) ?_);refine jT 7 [1,2] (aa 11 135) ?_;(refine jG (aa 11 143) 3 F (an F F F) ?_);refine jT 4 [4,5] (aa 11 191) ?_;(refine jG (aa 11 255) 6 F (ay F F aS F F) ?_);(refine jG (aa 11 511) 8 F (an F F F) ?_);((refine jG (aa 11 1023) 9 F (bG F F (c9 aS) aS F) ?_));refine jT 0 [10] (aa 11 2047) ?_;refine jQ ?_))
   all_goals
    refine cR (.inl F) F (cz (x0:=x2) (r:=r) (sc:=sc) (s:=q) (b:=true) (a:=none) (n:=0) (c:=0) (d:=d + 1) oM) F ?_
    rintro v G' L' ⟨rfl,rfl⟩
    dsimp only [zA,fA]
    exact ⟨[_],[bA r sc q true none 0 0 (d + 1 - 1)],⟨aw F F F F,trivial⟩,sB,Gh.le.refl _,cq (c:=⟨69,[],m,none,0,0⟩) (be dC oM) oM (fun _=>⟨F,F,F⟩) ⟨oM,fun h=>(by cases h),fun _=>.inr hrd⟩⟩
  | some f =>
   rw [hft] at hrd
   obtain ⟨j,hj,hjn,hjt,hjd⟩:=cV hft
   obtain ⟨bf,of,cf,rfl,hsf⟩:=h2.expl oM
   have cx_fld:=dE h1 hsf oM hj hjn hjt
   have hft2 : f.tag = m:=by rw [← hjd];exact hjt
   dsimp only at hrd
   rw [hft2] at hrd
   refine ce [(0,_),(1,_)] Tryz.func96 kR Tryz.ntmps96 F F tU fun B hok hB hW=>?_
   repeat' (first | refine jM ?_ | (refine jo ?_;first | refine jO fun _=>?_ | refine jL fun _=>?_ | refine ah F ?_ | refine jD F F F ?_ | refine jV (cE F F) ?_))
   rename_i x2 x3 x4
   refine jo ?_
   refine cg (fi:=[]) (ca:=[Pt x2 0]) (az:=[]) F F ?_
   repeat' (first | refine jR ?_ | (refine jo ?_;first | refine jL fun _=>?_ | refine ah F ?_ | refine aK F ?_ | refine jV (ay F F aS F F) ?_ | refine jC F F F ?_ | refine jV (am F F) ?_ | refine jV (bD F F) ?_ | refine ad F F F cx_sign F ?_ | (refine ai F F F cx_nb F ?_;rintro _ _ ⟨rfl,rfl⟩;dsimp only [zA,fA]) | refine ad F F F cx_fld F ?_) | refine ae F (aC ‹_›) ?_ | (refine af F (by first | rfl | (refine decide_eq_false ?_;(omega))) ?_) | (refine ak (ar (id:=34) _ (fun _ h=>h) aj ?_);refine jT 10 [7] (aa 11 128) ?_;(refine jG (aa 11 129) 0 F (an F F F) ?_);refine jT 7 [1,2] (aa 11 135) ?_;(refine jG (aa 11 143) 3 F (an F F F) ?_);refine jT 4 [4,5] (aa 11 191) ?_;(refine jG (aa 11 255) 6 F (ay F F aS F F) ?_);(refine jG (aa 11 511) 8 F (an F F F) ?_);((refine jG (aa 11 1023) 9 F (bG F F (c9 aS) aS F) ?_));refine jT 0 [10] (aa 11 2047) ?_;refine jQ ?_))
   all_goals
    refine cR (.inl F) F (cz (x0:=x2) (r:=r) (sc:=sc) (s:=q) (b:=false) (a:=none) (n:=0) (c:=0) (d:=d + 1) oM) F ?_
    rintro v G' L' ⟨rfl,rfl⟩
    dsimp only [zA,fA]
    exact ⟨[_],[bA r sc q false none 0 0 (d + 1 - 1)],⟨aw F F F F,trivial⟩,sB,Gh.le.refl _,cq (c:=⟨69,[],m,none,0,0⟩) (be dC oM) oM (fun _=>⟨F,F,F⟩) ⟨oM,fun _=>⟨F,hrd⟩,fun h=>(by cases h)⟩⟩
theorem uR {n r sc p : Nat} {qs : List b8} {t : Ty} {x s q : abu} {m : Int} {d : Int} (hd : d = 12 - (n : Int)) (hn : n ≤ 12) (hS : ScI G sc qs) (hkv : kl (fQ qs) x = some (Pt p 0)) (hT : hD G p t) (hw : TyW t) (hso : t.sort = 85) (hs : s.length ≤ 1000) (hg : bR s = some (m,q)) (ht : cM q = none) (hrd : cI (ag qs) (rb (ag qs) n) t s = none) :
  cX abt 96 [Pt r 0,Ag [S [],S [64],S x]] G [bA r sc s false none 0 0 d] (jq (cI (ag qs) (rb (ag qs) n) t) r sc s false d):=by
 obtain ⟨u,m2,g1,g2,g3⟩:=hS.at'
 have hso' : (t.sort : Int) = 85:=oM
 have cx_sign:=@di G [64] x
 obtain ⟨hm0,hm1,_⟩:=d3 hg
 have hl:=cy hg
 have cx_nb:=d8 (G:=G) (r:=r) (sc:=sc) (m:=0) (c:=0) (b:=false) (a:=none) (d:=d + 1) hg hs
 have cx_fldg:=k9 hT hw ⟨hm0,hm1⟩
 obtain ⟨fv,ln,h1,h2⟩:=hT
 rcases gp (s:=q) with ⟨hg2,ht2⟩ | ⟨m3,q2,hg2,hm,⟨hl3,ht2⟩ | ⟨hl3,ht2⟩⟩
 ·have cx_nb2:=fH (G:=G) (r:=r) (sc:=sc) (m:=0) (c:=0) (b:=false) (a:=none) (d:=d + 1) hg2 oM
  have cx_tkb:=fz (G:=G) (r:=r) (sc:=sc) (m:=0) (n:=0) (c:=0) (s:=[]) (b:=true) (a:=none) (d:=d + 1) (.inl rfl) ⟨by simp,oM⟩
  have cx_tkb : b6 abt 42 [Pt r 0,I 0] G [bA r sc [] true none 0 0 (d + 1)] (fun v L'=>v = S [] ∧ L' = [bA r sc [] true none 0 0 (d + 1)]):=cx_tkb
  refine ce [(0,_),(1,_)] Tryz.func96 kR Tryz.ntmps96 F F tU fun B hok hB hW=>?_
  repeat' (first | refine jM ?_ | (refine jo ?_;first | refine jO fun _=>?_ | refine jL fun _=>?_ | refine ah F ?_ | refine jD F F F ?_ | refine jV (cE F F) ?_))
  rename_i x2 x3 x4
  refine jo ?_
  refine cg (fi:=[]) (ca:=[Pt x2 0]) (az:=[]) F F ?_
  repeat' (first | refine jR ?_ | (refine jo ?_;first | refine ah F ?_ | refine aK F ?_ | refine ad F F F cx_sign F ?_) | (refine af F (by first | rfl | (refine decide_eq_false ?_;(omega))) ?_))
  (refine ak (ar (id:=34) _ (fun _ h=>h) aj ?_);refine jT 10 [7] (aa 11 128) ?_;(refine jG (aa 11 129) 0 F (an F F F) ?_);refine jT 7 [1,2] (aa 11 135) ?_;(refine jG (aa 11 143) 3 F (an F F F) ?_);refine jT 4 [4,5] (aa 11 191) ?_;(refine jG (aa 11 255) 6 F (ay F F aS F F) ?_);(refine jG (aa 11 511) 8 F (an F F F) ?_);((refine jG (aa 11 1023) 9 F (bG F F (c9 aS) aS F) ?_));refine jT 0 [10] (aa 11 2047) ?_;refine jQ ?_)
  all_goals repeat' (first | refine jR ?_ | (refine jo ?_;first | refine ah F ?_ | refine jV (ay F F aS F F) ?_ | (refine ai F F F cx_nb F ?_;rintro _ _ ⟨rfl,rfl⟩;dsimp only [zA,fA])) | refine ae F (aC ‹_›) ?_ | refine af F (aF oM) ?_)
  (refine ak (ar (id:=43) [.blk x2 (.cells (List.toArray [Pt r 0]) e8 (0,0))] (by intro y hy;simp only [List.mem_cons,List.not_mem_nil,or_false] at hy ⊢;simp [hy]) aj ?_);(refine jG (aa 5 1) 0 F (an F F F) ?_);(refine jG (aa 5 3) 1 F (an F F F) ?_);refine jA 2 F ?_;(refine ai F F F cx_nb2 F ?_;rintro _ _ ⟨rfl,rfl⟩;dsimp only [zA,fA]);refine jK (aa 5 7) ?_;refine jA 3 F ?_;(refine ai F F F cx_tkb F ?_;rintro _ _ ⟨rfl,rfl⟩;dsimp only [zA,fA]);refine jK (aa 5 15) ?_;refine jW 0 [4] (aa 5 31) ?_;refine jQ ?_)
  repeat' (refine jR ?_)
  refine jo ?_
  refine dO F F F cx_fldg F ?_
  rintro _ ⟨q9,rfl⟩
  cases q9
  all_goals repeat' (first | refine jR ?_ | (refine jo ?_;first | refine ah F ?_ | refine jD F F F ?_ | refine jC F F F ?_ | refine jV (am F F) ?_ | refine aP F ?_ | refine aH F ?_ | refine jV (bD F F) ?_) | refine aO F F F ?_ | refine aD F F F ?_ | refine ae F F ?_)
  all_goals
   refine cR (.inl F) F (cz (x0:=x2) (r:=r) (sc:=sc) (s:=[]) (b:=true) (a:=none) (n:=0) (c:=0) (d:=d + 1) oM) F ?_
   rintro v G' L' ⟨rfl,rfl⟩
   dsimp only [zA,fA]
   exact ⟨[_],[bA r sc [] true none 0 0 (d + 1 - 1)],⟨aw F F F F,trivial⟩,sB,Gh.le.refl _,cq (c:=⟨0,[],0,none,0,0⟩) fb oM (fun _=>⟨F,F,F⟩) ⟨by simp,fun h=>(by cases h),fun _=>.inr hrd⟩⟩
 ·have hl4:=cy hg2
  have cx_nb2:=d8 (G:=G) (r:=r) (sc:=sc) (m:=0) (c:=0) (b:=false) (a:=none) (d:=d + 1) hg2 oM
  have cx_tkb:=fz (G:=G) (r:=r) (sc:=sc) (m:=m3) (n:=0) (c:=0) (s:=q2) (b:=false) (a:=none) (d:=d + 1) (.inr hl3) ⟨oM,oM⟩
  refine ce [(0,_),(1,_)] Tryz.func96 kR Tryz.ntmps96 F F tU fun B hok hB hW=>?_
  repeat' (first | refine jM ?_ | (refine jo ?_;first | refine jO fun _=>?_ | refine jL fun _=>?_ | refine ah F ?_ | refine jD F F F ?_ | refine jV (cE F F) ?_))
  rename_i x2 x3 x4
  refine jo ?_
  refine cg (fi:=[]) (ca:=[Pt x2 0]) (az:=[]) F F ?_
  repeat' (first | refine jR ?_ | (refine jo ?_;first | refine ah F ?_ | refine aK F ?_ | refine ad F F F cx_sign F ?_) | (refine af F (by first | rfl | (refine decide_eq_false ?_;(omega))) ?_))
  (refine ak (ar (id:=34) _ (fun _ h=>h) aj ?_);refine jT 10 [7] (aa 11 128) ?_;(refine jG (aa 11 129) 0 F (an F F F) ?_);refine jT 7 [1,2] (aa 11 135) ?_;(refine jG (aa 11 143) 3 F (an F F F) ?_);refine jT 4 [4,5] (aa 11 191) ?_;(refine jG (aa 11 255) 6 F (ay F F aS F F) ?_);(refine jG (aa 11 511) 8 F (an F F F) ?_);((refine jG (aa 11 1023) 9 F (bG F F (c9 aS) aS F) ?_));refine jT 0 [10] (aa 11 2047) ?_;refine jQ ?_)
  all_goals repeat' (first | refine jR ?_ | (refine jo ?_;first | refine ah F ?_ | refine jV (ay F F aS F F) ?_ | (refine ai F F F cx_nb F ?_;rintro _ _ ⟨rfl,rfl⟩;dsimp only [zA,fA])) | refine ae F (aC ‹_›) ?_ | refine af F (aF oM) ?_)
  (refine ak (ar (id:=43) [.blk x2 (.cells (List.toArray [Pt r 0]) e8 (0,0))] (by intro y hy;simp only [List.mem_cons,List.not_mem_nil,or_false] at hy ⊢;simp [hy]) aj ?_);(refine jG (aa 5 1) 0 F (an F F F) ?_);(refine jG (aa 5 3) 1 F (an F F F) ?_);refine jA 2 F ?_;(refine ai F F F cx_nb2 F ?_;rintro _ _ ⟨rfl,rfl⟩;dsimp only [zA,fA]);refine jK (aa 5 7) ?_;refine jA 3 F ?_;(refine ai F F F cx_tkb F ?_;rintro _ _ ⟨rfl,rfl⟩;dsimp only [zA,fA]);refine jK (aa 5 15) ?_;refine jW 0 [4] (aa 5 31) ?_;refine jQ ?_)
  repeat' (refine jR ?_)
  refine jo ?_
  refine dO F F F cx_fldg F ?_
  rintro _ ⟨q9,rfl⟩
  cases q9
  all_goals repeat' (first | refine jR ?_ | (refine jo ?_;first | refine ah F ?_ | refine jD F F F ?_ | refine jC F F F ?_ | refine jV (am F F) ?_ | refine aP F ?_ | refine aH F ?_ | refine jV (bD F F) ?_) | refine aO F F F ?_ | refine aD F F F ?_ | refine ae F F ?_)
  all_goals
   refine cR (.inl F) F (cz (x0:=x2) (r:=r) (sc:=sc) (s:=q2) (b:=true) (a:=none) (n:=0) (c:=0) (d:=d + 1) oM) F ?_
   rintro v G' L' ⟨rfl,rfl⟩
   dsimp only [zA,fA]
   exact ⟨[_],[bA r sc q2 true none 0 0 (d + 1 - 1)],⟨aw F F F F,trivial⟩,sB,Gh.le.refl _,cq (c:=⟨0,[],0,none,0,0⟩) fb oM (fun _=>⟨F,F,F⟩) ⟨oM,fun h=>(by cases h),fun _=>.inr hrd⟩⟩
 ·rw [ht] at ht2;cases ht2
theorem aam {n r sc p : Nat} {qs : List b8} {t : Ty} {x s : abu} {d : Int} (hd : d = 12 - (n : Int)) (hn : n ≤ 12) (hU : pL n sc qs) (hS : ScI G sc qs) (hkv : kl (fQ qs) x = some (Pt p 0)) (hT : hD G p t) (hw : TyW t) (hkf : ∀ d ∈ t.fields,aJ (ag qs) d.kind = true) (hso : t.sort = 85) (hs : s.length ≤ 1000) :
  cX abt 96 [Pt r 0,Ag [S [],S [64],S x]] G [bA r sc s false none 0 0 d] (jq (cI (ag qs) (rb (ag qs) n) t) r sc s false d):=by
 obtain ⟨u,m2,g1,g2,g3⟩:=hS.at'
 have hT2:=hT
 obtain ⟨fv,ln,h1,h2⟩:=hT
 have hfl:=hw.len
 have hso' : (t.sort : Int) = 85:=oM
 have cx_sign:=@di G [64] x
 have hrd : cI (ag qs) (rb (ag qs) n) t s = match bR s with
   | none=>none
   | some (m,r)=>match bZ t.fields m with
    | none=>none
    | some d=>match cM r with
     | none=>none
     | some (p,r')=>(db (rb (ag qs) n) d.kind p).map fun v=>(.nd 85 [] d.tag [v],r'):=by
  unfold cI
  rw [if_neg oM]
  rcases bR s with _ | ⟨m,r⟩
  ·rfl
  ·dsimp only
   rcases bZ t.fields m with _ | d
   ·rfl
   ·dsimp only;rw [if_neg oM]
    all_goals (rcases cM r with _ | ⟨p,r'⟩ <;> rfl)
 cases hg : bR s with
 | none =>
  rw [hg] at hrd
  have cx_nb:=fH (G:=G) (r:=r) (sc:=sc) (m:=0) (c:=0) (b:=false) (a:=none) (d:=d + 1) hg hs
  have cx_nb2:=fH (G:=G) (r:=r) (sc:=sc) (m:=0) (c:=0) (s:=[]) (b:=true) (a:=none) (d:=d + 1) rfl (by simp)
  have cx_tkb:=fz (G:=G) (r:=r) (sc:=sc) (m:=0) (n:=0) (c:=0) (s:=[]) (b:=true) (a:=none) (d:=d + 1) (.inl rfl) ⟨by simp,oM⟩
  have cx_tkb : b6 abt 42 [Pt r 0,I 0] G [bA r sc [] true none 0 0 (d + 1)] (fun v L'=>v = S [] ∧ L' = [bA r sc [] true none 0 0 (d + 1)]):=cx_tkb
  have cx_fld:=dF h1 h2 oM (po hw)
  refine ce [(0,_),(1,_)] Tryz.func96 kR Tryz.ntmps96 F F tU fun B hok hB hW=>?_
  repeat' (first | refine jM ?_ | (refine jo ?_;first | refine jO fun _=>?_ | refine jL fun _=>?_ | refine ah F ?_ | refine jD F F F ?_ | refine jV (cE F F) ?_))
  rename_i x2 x3 x4
  refine jo ?_
  refine cg (fi:=[]) (ca:=[Pt x2 0]) (az:=[]) F F ?_
  repeat' (first | refine jR ?_ | (refine jo ?_;first | refine ah F ?_ | refine aK F ?_ | refine ad F F F cx_sign F ?_) | (refine af F (by first | rfl | (refine decide_eq_false ?_;(omega))) ?_))
  (refine ak (ar (id:=34) _ (fun _ h=>h) aj ?_);refine jT 10 [7] (aa 11 128) ?_;(refine jG (aa 11 129) 0 F (an F F F) ?_);refine jT 7 [1,2] (aa 11 135) ?_;(refine jG (aa 11 143) 3 F (an F F F) ?_);refine jT 4 [4,5] (aa 11 191) ?_;(refine jG (aa 11 255) 6 F (ay F F aS F F) ?_);(refine jG (aa 11 511) 8 F (an F F F) ?_);((refine jG (aa 11 1023) 9 F (bG F F (c9 aS) aS F) ?_));refine jT 0 [10] (aa 11 2047) ?_;refine jQ ?_)
  all_goals repeat' (first | refine jR ?_ | (refine jo ?_;first | refine ah F ?_ | refine jV (ay F F aS F F) ?_ | (refine ai F F F cx_nb F ?_;rintro _ _ ⟨rfl,rfl⟩;dsimp only [zA,fA])) | refine ae F (aC ‹_›) ?_ | refine af F (aF oM) ?_)
  (refine ak (ar (id:=43) [.blk x2 (.cells (List.toArray [Pt r 0]) e8 (0,0))] (by intro y hy;simp only [List.mem_cons,List.not_mem_nil,or_false] at hy ⊢;simp [hy]) aj ?_);(refine jG (aa 5 1) 0 F (an F F F) ?_);(refine jG (aa 5 3) 1 F (an F F F) ?_);refine jA 2 F ?_;(refine ai F F F cx_nb2 F ?_;rintro _ _ ⟨rfl,rfl⟩;dsimp only [zA,fA]);refine jK (aa 5 7) ?_;refine jA 3 F ?_;(refine ai F F F cx_tkb F ?_;rintro _ _ ⟨rfl,rfl⟩;dsimp only [zA,fA]);refine jK (aa 5 15) ?_;refine jW 0 [4] (aa 5 31) ?_;refine jQ ?_)
  all_goals repeat' (first | refine jR ?_ | (refine jo ?_;first | refine ah F ?_ | refine jD F F F ?_ | refine jC F F F ?_ | refine jV (am F F) ?_ | refine aP F ?_ | refine jV (bD F F) ?_ | refine ad F F F cx_fld F ?_) | refine aO F F F ?_ | refine ae F F ?_)
  all_goals
   refine cR (.inl F) F (cz (x0:=x2) (r:=r) (sc:=sc) (s:=[]) (b:=true) (a:=none) (n:=0) (c:=0) (d:=d + 1) oM) F ?_
   rintro v G' L' ⟨rfl,rfl⟩
   dsimp only [zA,fA]
   exact ⟨[_],[bA r sc [] true none 0 0 (d + 1 - 1)],⟨aw F F F F,trivial⟩,sB,Gh.le.refl _,cq (c:=⟨0,[],0,none,0,0⟩) fb oM (fun _=>⟨F,F,F⟩) ⟨by simp,fun h=>(by cases h),fun _=>.inr hrd⟩⟩
 | some z =>
  obtain ⟨m,q⟩:=z
  obtain ⟨hm0,hm1,_⟩:=d3 hg
  have hl:=cy hg
  rw [hg] at hrd
  dsimp only at hrd
  rcases gp (s:=q) with ⟨hg2,ht⟩ | ⟨m3,q2,hg2,hm,⟨hl3,ht⟩ | ⟨hl3,ht⟩⟩
  ·refine uR hd hn hS hkv hT2 hw hso hs hg ht ?_
   rw [hrd,ht]
   cases bZ t.fields m <;> rfl
  ·refine uR hd hn hS hkv hT2 hw hso hs hg ht ?_
   rw [hrd,ht]
   cases bZ t.fields m <;> rfl
  have hl4:=cy hg2
  have hdl : (q2.drop m3).length = q2.length - m3:=List.length_drop
  have htl : (q2.take m3).length ≤ 1000:=by rw [List.length_take];omega
  have cx_nb:=d8 (G:=G) (r:=r) (sc:=sc) (m:=0) (c:=0) (b:=false) (a:=none) (d:=d + 1) hg hs
  have cx_nb2:=d8 (G:=G) (r:=r) (sc:=sc) (m:=0) (c:=0) (b:=false) (a:=none) (d:=d + 1) hg2 oM
  have cx_tkb:=iQ (G:=G) (r:=r) (sc:=sc) (m:=m3) (n:=0) (c:=0) (s:=q2) (a:=none) (d:=d + 1) ⟨hl3,oM⟩
  cases hft : bZ t.fields m with
  | none =>
   rw [hft] at hrd
   have cx_fld:=dF h1 h2 oM hft
   refine ce [(0,_),(1,_)] Tryz.func96 kR Tryz.ntmps96 F F tU fun B hok hB hW=>?_
   repeat' (first | refine jM ?_ | (refine jo ?_;first | refine jO fun _=>?_ | refine jL fun _=>?_ | refine ah F ?_ | refine jD F F F ?_ | refine jV (cE F F) ?_))
   rename_i x2 x3 x4
   refine jo ?_
   refine cg (fi:=[]) (ca:=[Pt x2 0]) (az:=[]) F F ?_
   repeat' (first | refine jR ?_ | (refine jo ?_;first | refine ah F ?_ | refine aK F ?_ | refine ad F F F cx_sign F ?_) | (refine af F (by first | rfl | (refine decide_eq_false ?_;(omega))) ?_))
   (refine ak (ar (id:=34) _ (fun _ h=>h) aj ?_);refine jT 10 [7] (aa 11 128) ?_;(refine jG (aa 11 129) 0 F (an F F F) ?_);refine jT 7 [1,2] (aa 11 135) ?_;(refine jG (aa 11 143) 3 F (an F F F) ?_);refine jT 4 [4,5] (aa 11 191) ?_;(refine jG (aa 11 255) 6 F (ay F F aS F F) ?_);(refine jG (aa 11 511) 8 F (an F F F) ?_);((refine jG (aa 11 1023) 9 F (bG F F (c9 aS) aS F) ?_));refine jT 0 [10] (aa 11 2047) ?_;refine jQ ?_)
   all_goals repeat' (first | refine jR ?_ | (refine jo ?_;first | refine ah F ?_ | refine jV (ay F F aS F F) ?_ | (refine ai F F F cx_nb F ?_;rintro _ _ ⟨rfl,rfl⟩;dsimp only [zA,fA])) | refine ae F (aC ‹_›) ?_ | refine af F (aF oM) ?_)
   (refine ak (ar (id:=43) [.blk x2 (.cells (List.toArray [Pt r 0]) e8 (0,0))] (by intro y hy;simp only [List.mem_cons,List.not_mem_nil,or_false] at hy ⊢;simp [hy]) aj ?_);(refine jG (aa 5 1) 0 F (an F F F) ?_);(refine jG (aa 5 3) 1 F (an F F F) ?_);refine jA 2 F ?_;(refine ai F F F cx_nb2 F ?_;rintro _ _ ⟨rfl,rfl⟩;dsimp only [zA,fA]);refine jK (aa 5 7) ?_;refine jA 3 F ?_;(refine ai F F F cx_tkb F ?_;rintro _ _ ⟨rfl,rfl⟩;dsimp only [zA,fA]);refine jK (aa 5 15) ?_;refine jW 0 [4] (aa 5 31) ?_;refine jQ ?_)
   all_goals repeat' (first | refine jR ?_ | (refine jo ?_;first | refine ah F ?_ | refine jD F F F ?_ | refine jC F F F ?_ | refine jV (am F F) ?_ | refine aP F ?_ | refine jV (bD F F) ?_ | refine ad F F F cx_fld F ?_) | refine aO F F F ?_ | refine ae F F ?_)
   all_goals
    refine cR (.inl F) F (cz (x0:=x2) (r:=r) (sc:=sc) (s:=(q2.drop m3)) (b:=true) (a:=none) (n:=0) (c:=0) (d:=d + 1) oM) F ?_
    rintro v G' L' ⟨rfl,rfl⟩
    dsimp only [zA,fA]
    exact ⟨[_],[bA r sc (q2.drop m3) true none 0 0 (d + 1 - 1)],⟨aw F F F F,trivial⟩,sB,Gh.le.refl _,cq (c:=⟨0,[],0,none,0,0⟩) fb oM (fun _=>⟨F,F,F⟩) ⟨oM,fun h=>(by cases h),fun _=>.inr hrd⟩⟩
  | some f =>
   rw [hft] at hrd
   obtain ⟨j,hj,hjn,hjt,hjd⟩:=cV hft
   obtain ⟨bf,of,cf,rfl,hsf⟩:=h2.expl oM
   have cx_fld:=dE h1 hsf oM hj hjn hjt
   have hft2 : f.tag = m:=by rw [← hjd];exact hjt
   dsimp only at hrd
   rw [ht,hft2] at hrd
   dsimp only at hrd
   subst hjd
   have cx_prt:=sy (G:=G) (r:=r) (sc:=sc) (m:=0) (c:=0) (a:=none) (s:=q2.drop m3) (k:=(ac t.fields j).kind) (p:=q2.take m3) (d:=d + 1) oM oM hU hS (hkf _ (a7 hj)) htl
   refine ce [(0,_),(1,_)] Tryz.func96 kR Tryz.ntmps96 F F tU fun B hok hB hW=>?_
   repeat' (first | refine jM ?_ | (refine jo ?_;first | refine jO fun _=>?_ | refine jL fun _=>?_ | refine ah F ?_ | refine jD F F F ?_ | refine jV (cE F F) ?_))
   rename_i x2 x3 x4
   refine jo ?_
   refine cg (fi:=[]) (ca:=[Pt x2 0]) (az:=[]) F F ?_
   repeat' (first | refine jR ?_ | (refine jo ?_;first | refine ah F ?_ | refine aK F ?_ | refine ad F F F cx_sign F ?_) | (refine af F (by first | rfl | (refine decide_eq_false ?_;(omega))) ?_))
   (refine ak (ar (id:=34) _ (fun _ h=>h) aj ?_);refine jT 10 [7] (aa 11 128) ?_;(refine jG (aa 11 129) 0 F (an F F F) ?_);refine jT 7 [1,2] (aa 11 135) ?_;(refine jG (aa 11 143) 3 F (an F F F) ?_);refine jT 4 [4,5] (aa 11 191) ?_;(refine jG (aa 11 255) 6 F (ay F F aS F F) ?_);(refine jG (aa 11 511) 8 F (an F F F) ?_);((refine jG (aa 11 1023) 9 F (bG F F (c9 aS) aS F) ?_));refine jT 0 [10] (aa 11 2047) ?_;refine jQ ?_)
   all_goals repeat' (first | refine jR ?_ | (refine jo ?_;first | refine ah F ?_ | refine jV (ay F F aS F F) ?_ | (refine ai F F F cx_nb F ?_;rintro _ _ ⟨rfl,rfl⟩;dsimp only [zA,fA])) | refine ae F (aC ‹_›) ?_ | refine af F (aF oM) ?_)
   (refine ak (ar (id:=43) [.blk x2 (.cells (List.toArray [Pt r 0]) e8 (0,0))] (by intro y hy;simp only [List.mem_cons,List.not_mem_nil,or_false] at hy ⊢;simp [hy]) aj ?_);(refine jG (aa 5 1) 0 F (an F F F) ?_);(refine jG (aa 5 3) 1 F (an F F F) ?_);refine jA 2 F ?_;(refine ai F F F cx_nb2 F ?_;rintro _ _ ⟨rfl,rfl⟩;dsimp only [zA,fA]);refine jK (aa 5 7) ?_;refine jA 3 F ?_;(refine ai F F F cx_tkb F ?_;rintro _ _ ⟨rfl,rfl⟩;dsimp only [zA,fA]);refine jK (aa 5 15) ?_;refine jW 0 [4] (aa 5 31) ?_;refine jQ ?_)
   all_goals repeat' (first | refine jR ?_ | (refine jo ?_;first | refine ah F ?_ | refine aH F ?_ | refine jV (bD F F) ?_ | refine ad F F F cx_fld F ?_) | refine aD F F F ?_ | refine af F F ?_)
   (refine ak (ar (id:=48) [.blk x2 (.cells (List.toArray [Pt r 0]) e8 (0,0))] (by intro y hy;simp only [List.mem_cons,List.not_mem_nil,or_false] at hy ⊢;simp [hy]) aj ?_);refine jW 11 [0,2,3,4,6] (aa 16 93) ?_;(refine jG (aa 16 95) 1 F (an F F F) ?_);((refine jG (aa 16 127) 5 F (du F F aS ?_ F F) ?_;focus omega));refine jA 7 F ?_;(refine da F F F cx_prt F ?_;rintro _ G1 _ hle ⟨u1,c1,b1,rfl,hrep,rfl,hQ2,hQ3⟩;dsimp only [zA,fA];skip);refine jK (aa 16 255) ?_;refine cd [8,9] kR dC ⟨?_,?_,trivial⟩;(focus (refine aX F F ?_;(refine jF fun _=>?_);refine jK (aa 16 511) ?_;refine jA 9 F ?_;(refine jC F F F ?_);refine jK (aa 16 1023) ?_;refine jW 5 [10] (aa 16 2047) ?_;refine jA 11 F ?_;(refine jD F F F ?_);refine jK (aa 16 4095) ?_;refine jW 3 [12] (aa 16 8191) ?_;refine jA 13 F ?_;(refine jD F F F ?_);refine jK (aa 16 16383) ?_;refine jW 1 [14] (aa 16 32767) ?_;refine jA 15 F ?_;(refine jD F F F ?_);refine jK (aa 16 65535) ?_;refine jQ ?_));rotate_left 1;(focus (refine aX F F ?_;(refine jC F F F ?_);refine jK (aa 16 767) ?_;refine jW 6 [10] (aa 16 1791) ?_;refine cd [8,11] kR dC ⟨?_,?_,trivial⟩;(focus (refine aX F F ?_;(refine jF fun _=>?_);refine jK (aa 16 2047) ?_;refine jA 11 F ?_;(refine jD F F F ?_);refine jK (aa 16 4095) ?_;refine jW 3 [12] (aa 16 8191) ?_;refine jA 13 F ?_;(refine jD F F F ?_);refine jK (aa 16 16383) ?_;refine jW 1 [14] (aa 16 32767) ?_;refine jA 15 F ?_;(refine jD F F F ?_);refine jK (aa 16 65535) ?_;refine jQ ?_));rotate_left 1;(focus (refine aX F F ?_;(refine jD F F F ?_);refine jK (aa 16 3839) ?_;refine jW 4 [12] (aa 16 7935) ?_;refine cd [8,13] kR dC ⟨?_,?_,trivial⟩;(focus (refine aX F F ?_;(refine jF fun _=>?_);refine jK (aa 16 8191) ?_;refine jA 13 F ?_;(refine jD F F F ?_);refine jK (aa 16 16383) ?_;refine jW 1 [14] (aa 16 32767) ?_;refine jA 15 F ?_;(refine jD F F F ?_);refine jK (aa 16 65535) ?_;refine jQ ?_));rotate_left 1;(focus (refine aX F F ?_;(refine jD F F F ?_);refine jK (aa 16 16127) ?_;refine jA 8 F ?_;(refine jF fun _=>?_);refine jK (aa 16 16383) ?_;refine jW 1 [14] (aa 16 32767) ?_;refine jA 15 F ?_;(refine jD F F F ?_);refine jK (aa 16 65535) ?_;refine jQ ?_));rotate_left 1));rotate_left 2));rotate_left 3)
   all_goals repeat' (refine jR ?_)
   all_goals
    rename_i y
    refine Nx.sealC (b:=y) fun G2 hG2 hsy=>?_
    have hsl : bh G2 (.slice (some ⟨y,0,none⟩) 1 1) 4 ([c1] : List VC).length (ao bE [c1]):=⟨rfl,.inr ⟨y,0,1,rfl,Nat.le_refl _,hsy⟩⟩
    refine cR (.inl F) F (cz (x0:=x2) (r:=r) (sc:=sc) (s:=(q2.drop m3)) (b:=b1) (a:=none) (n:=0) (c:=0) (d:=d + 1) oM) F ?_
    rintro v G' L' ⟨rfl,rfl⟩
    dsimp only [zA,fA]
    exact ⟨[_],[bA r sc (q2.drop m3) b1 none 0 0 (d + 1 - 1)],⟨aw F F F F,trivial⟩,sB,(hle.trans hG2),cq (c:=⟨85,[],m,some ⟨y,0,none⟩,1,1⟩) (cH (ks:=[u1]) dC oM (fun _=>rfl) F hsl ⟨_,[],F,eI hG2 hrep,F⟩) oM (fun _=>⟨F,F,F⟩) ⟨oM,fun h=>⟨F,by rw [hrd,(hQ2 h).1];rfl⟩,fun h=>.inr (by rw [hrd,hQ3 h];rfl)⟩⟩
abbrev sQ : TypeId:=83
abbrev wq : TypeId:=3
theorem zr {n r sc p : Nat} {qs : List b8} {t : Ty} {s : abu} {d : Int} (hd : d = 13 - (n : Int)) (hn : n ≤ 12) (hU : pL n sc qs) (hS : ScI G sc qs) (hW0 : SchW (ag qs)) (hT : hD G p t) (hw : TyW t) (hkf : ∀ d ∈ t.fields,aJ (ag qs) d.kind = true) (hs : s.length ≤ 1000) :
  cX abt 139 [Pt r 0,Pt p 0] G [bA r sc s false none 0 0 d] (fun v G' L'=>∃ u c s' b' a m k,v = Ag (bE c) ∧ V.rep G' u c ∧ L' = [bA r sc s' b' a m k d] ∧ (d ≠ 1 → a = none ∧ m = 0 ∧ k = 0) ∧ rq (fun s=>(bO (ag qs) (rb (ag qs) n) t (s.length + 1) 0 s []).map fun x=>(.nd 82 [] 0 x.1,x.2)) s false u s' b'):=by
 have hT2:=hT
 obtain ⟨fv,ln,h1',h2⟩:=hT
 have hfl:=hw.len
 refine b7 [(0,_),(1,_)] Tryz.func139 kR Tryz.ntmps139 F F tU fun B hB hW=>?_
 repeat' (first | refine jR ?_ | (refine jo ?_;first | refine jL fun _=>?_ | refine jV (am F F) ?_ | refine jC F F F ?_))
 rename_i x4 x5
 refine Nx.addNil sQ 4 (Nx.addNil wq 1 (Nx.perm (List.perm_append_comm (l₁:=[_,_,_,_]) (l₂:=[_])) ?_))
 dsimp only [zA,fA]
 refine aU (ι:=List V × List VC × Option Addr × Nat × List Int × Option Addr × Nat × abu × Bool × Nat × Int × Gh) (fun y=>(V.reps y.2.2.2.2.2.2.2.2.2.2.2 y.1 y.2.1 ∧ Gh.le G y.2.2.2.2.2.2.2.2.2.2.2) ∧ (y.2.2.2.2.2.2.2.2.1 = false → bO (ag qs) (rb (ag qs) n) t (s.length + 1) 0 s [] = bO (ag qs) (rb (ag qs) n) t y.2.2.2.2.2.2.2.2.2.1 y.2.2.2.2.2.2.2.2.2.2.1 y.2.2.2.2.2.2.2.1 y.1 ∧ y.2.2.2.2.2.2.2.1.length < y.2.2.2.2.2.2.2.2.2.1) ∧ (y.2.2.2.2.2.2.2.2.1 = true → bO (ag qs) (rb (ag qs) n) t (s.length + 1) 0 s [] = none) ∧ (y.1.length + y.2.2.2.2.1.length + y.2.2.2.2.2.2.2.1.length ≤ s.length ∧ 0 ≤ y.2.2.2.2.2.2.2.2.2.2.1 ∧ y.2.2.2.2.2.2.2.2.2.2.1 ≤ 999999) ∧ (d ≠ 1 → y.2.2.2.2.1 = [] ∧ y.2.2.2.2.2.1 = none ∧ y.2.2.2.2.2.2.1 = 0)) (fun y=>[(0,Pt r 0),(1,Pt p 0),(4,Pt x4 0),(5,Pt x5 0),(6,I y.2.2.2.2.2.2.2.2.2.2.1)]) (fun y=>y.2.2.2.2.2.2.2.2.2.2.2) (fun y=>[bA r sc y.2.2.2.2.2.2.2.1 y.2.2.2.2.2.2.2.2.1 y.2.2.2.2.2.1 y.2.2.2.2.1.length y.2.2.2.2.2.2.1 d,.acc (.slice y.2.2.2.2.2.1 y.2.2.2.2.1.length y.2.2.2.2.2.2.1) wq 1 y.2.2.2.2.1.length (ao r7 y.2.2.2.2.1),.acc (.slice y.2.2.1 y.1.length y.2.2.2.1) sQ 4 y.1.length (ao bE y.2.1),.blk x5 (.cells (List.toArray [U8 82,S [],I 0,.slice y.2.2.1 y.1.length y.2.2.2.1]) sQ (0,0)),.blk x4 (.cells (List.toArray [U8 (0 : Nat),S [],I 0,aA]) sQ (0,0))]) (fun y=>y.2.2.2.2.2.2.2.1.length) ([],[],none,0,[],none,0,s,false,s.length + 1,0,G) ?_ tU F a6 (fun y Hy=>?_)
 ·exact ⟨⟨F,Gh.le.refl _⟩,fun _=>⟨F,Nat.lt_succ_self _⟩,fun h=>(by cases h),⟨by simp,Int.le_refl 0,by show (0 : Int) ≤ 999999;omega⟩,fun _=>⟨rfl,rfl,rfl⟩⟩
 obtain ⟨vs,cs,a,cap,sk,sa,scap,t',b,m',last,Gq⟩:=y
 dsimp only at Hy ⊢
 obtain ⟨⟨hreps,hgq⟩,hI0,hI1,⟨hlen,hla0,hla1⟩,hsk⟩:=Hy
 have hcl:=gE hreps
 have hskF : d ≠ 1 → sa = none ∧ sk.length = 0 ∧ scap = 0:=fun h=>by obtain ⟨h1,h2,h3⟩:=hsk h;subst h1;exact ⟨h2,F,h3⟩
 cases b with
 | true =>
  have hno:=hI1 rfl
  repeat' (first | refine jR ?_ | (refine jo ?_;first | refine jC F F F ?_ | refine ah F ?_ | refine aK F ?_) | refine af F F ?_)
  all_goals
   refine Nx.sealS (v:=.slice a vs.length cap) fun G2 hG2 hsl=>?_
   refine aN (vs:=[_]) F ⟨aw F F F F,trivial⟩ F sB ⟨hgq.trans hG2,.nd 82 [] 0 vs,⟨82,[],0,a,vs.length,cap⟩,t',true,sa,sk.length,scap,F,cH dC dC (fun h=>absurd h dC) F (by rw [hcl];exact hsl) (bV hG2 hreps),F,hskF,⟨oM,fun h=>(by cases h),fun _=>.inr (by dsimp only;rw [hno];rfl)⟩⟩
 | false =>
  obtain ⟨hit,htm⟩:=hI0 rfl
  clear hI0 hI1
  obtain ⟨m',rfl⟩ : ∃ j,m' = j + 1:=⟨m' - 1,oM⟩
  cases hg : bR t' with
  | none =>
   rw [tm hg] at hit
   have cx_nb:=fH (G:=Gq) (r:=r) (sc:=sc) (m:=sk.length) (c:=scap) (b:=false) (a:=sa) (d:=d) hg oM
   repeat' (first | refine jR ?_ | (refine jo ?_;first | refine jC F F F ?_ | refine ah F ?_ | refine aK F ?_ | (refine ai F F F cx_nb F ?_;rintro _ _ ⟨rfl,rfl⟩;dsimp only [zA,fA])) | refine ae F F ?_)
   all_goals
    refine Nx.sealS (v:=.slice a vs.length cap) fun G2 hG2 hsl=>?_
    refine aN (vs:=[_]) F ⟨aw F F F F,trivial⟩ F sB ⟨hgq.trans hG2,.nd 82 [] 0 vs,⟨82,[],0,a,vs.length,cap⟩,[],true,sa,sk.length,scap,F,cH dC dC (fun h=>absurd h dC) F (by rw [hcl];exact hsl) (bV hG2 hreps),F,hskF,⟨by simp,fun h=>(by cases h),fun _=>.inr (by dsimp only;rw [hit];rfl)⟩⟩
  | some z =>
   obtain ⟨tg,q⟩:=z
   obtain ⟨h0,h1,_⟩:=d3 hg
   have hl:=cy hg
   have cx_nb:=d8 (G:=Gq) (r:=r) (sc:=sc) (m:=sk.length) (c:=scap) (b:=false) (a:=sa) (d:=d) hg oM
   by_cases htz : tg = 0
   ·subst htz
    rw [vG hg] at hit
    repeat' (first | refine jR ?_ | (refine jo ?_;first | refine jC F F F ?_ | refine ah F ?_ | refine aK F ?_ | (refine ai F F F cx_nb F ?_;rintro _ _ ⟨rfl,rfl⟩;dsimp only [zA,fA])) | refine ae F F ?_)
    all_goals
     refine Nx.sealS (v:=.slice a vs.length cap) fun G2 hG2 hsl=>?_
     refine aN (vs:=[_]) F ⟨aw F F F F,trivial⟩ F sB ⟨hgq.trans hG2,.nd 82 [] 0 vs,⟨82,[],0,a,vs.length,cap⟩,q,false,sa,sk.length,scap,F,cH dC dC (fun h=>absurd h dC) F (by rw [hcl];exact hsl) (bV hG2 hreps),F,hskF,⟨oM,fun _=>⟨F,by dsimp only;rw [hit];rfl⟩,fun h=>(by cases h)⟩⟩
   rcases gp (s:=q) with ⟨hg2,ht⟩ | ⟨m3,q2,hg2,hm3,⟨hl3,ht⟩ | ⟨hl3,ht⟩⟩
   ·rw [nP hg htz ht] at hit
    have cx_nb2:=fH (G:=Gq) (r:=r) (sc:=sc) (m:=sk.length) (c:=scap) (b:=false) (a:=sa) (d:=d) hg2 oM
    have cx_tkb:=fz (G:=Gq) (r:=r) (sc:=sc) (m:=0) (n:=sk.length) (c:=scap) (s:=[]) (b:=true) (a:=sa) (d:=d) (.inl rfl) ⟨by simp,oM⟩
    have cx_tkb : b6 abt 42 [Pt r 0,I 0] Gq [bA r sc [] true sa sk.length scap d] (fun v L'=>v = S [] ∧ L' = [bA r sc [] true sa sk.length scap d]):=cx_tkb
    have cx_fldg:=k9 (hT2.mono hgq) hw ⟨h0,h1⟩
    repeat' (first | refine jR ?_ | (refine jo ?_;first | refine jD F F F ?_ | refine ah F ?_ | (refine ai F F F cx_nb F ?_;rintro _ _ ⟨rfl,rfl⟩;dsimp only [zA,fA]) | (refine ai F F F cx_nb2 F ?_;rintro _ _ ⟨rfl,rfl⟩;dsimp only [zA,fA]) | (refine ai F F F cx_tkb F ?_;rintro _ _ ⟨rfl,rfl⟩;dsimp only [zA,fA])) | refine ae F F ?_ | refine af F (aF ‹_›) ?_ | refine cJ F (fun _=>?_) (fun _=>?_))
    all_goals
     refine jo ?_
     refine dO F F F cx_fldg F ?_
     rintro _ ⟨q9,rfl⟩
     repeat' (first | refine jR ?_ | (refine jo ?_;refine ah F ?_) | refine ae F F ?_)
     exact aT (vs,cs,a,cap,sk,sa,scap,[],true,m',tg,Gq) ⟨⟨hreps,hgq⟩,fun h=>(by cases h),fun _=>hit,⟨by dsimp only;simp only [List.length_nil];omega,h0,h1⟩,hsk⟩ (by dsimp only;simp only [List.length_nil];omega) tU rfl a6
   ·have hl4:=cy hg2
    rw [nP hg htz ht] at hit
    have cx_nb2:=d8 (G:=Gq) (r:=r) (sc:=sc) (m:=sk.length) (c:=scap) (b:=false) (a:=sa) (d:=d) hg2 oM
    have cx_tkb:=fz (G:=Gq) (r:=r) (sc:=sc) (m:=m3) (n:=sk.length) (c:=scap) (s:=q2) (b:=false) (a:=sa) (d:=d) (.inr hl3) ⟨oM,oM⟩
    have cx_fldg:=k9 (hT2.mono hgq) hw ⟨h0,h1⟩
    repeat' (first | refine jR ?_ | (refine jo ?_;first | refine jD F F F ?_ | refine ah F ?_ | (refine ai F F F cx_nb F ?_;rintro _ _ ⟨rfl,rfl⟩;dsimp only [zA,fA]) | (refine ai F F F cx_nb2 F ?_;rintro _ _ ⟨rfl,rfl⟩;dsimp only [zA,fA]) | (refine ai F F F cx_tkb F ?_;rintro _ _ ⟨rfl,rfl⟩;dsimp only [zA,fA])) | refine ae F F ?_ | refine af F (aF ‹_›) ?_ | refine cJ F (fun _=>?_) (fun _=>?_))
    all_goals
     refine jo ?_
     refine dO F F F cx_fldg F ?_
     rintro _ ⟨q9,rfl⟩
     repeat' (first | refine jR ?_ | (refine jo ?_;refine ah F ?_) | refine ae F F ?_)
     exact aT (vs,cs,a,cap,sk,sa,scap,q2,true,m',tg,Gq) ⟨⟨hreps,hgq⟩,fun h=>(by cases h),fun _=>hit,⟨by dsimp only;omega,h0,h1⟩,hsk⟩ (by dsimp only;omega) tU rfl a6
   have hl4:=cy hg2
   have hdl : (q2.drop m3).length = q2.length - m3:=List.length_drop
   have htl : (q2.take m3).length ≤ 1000:=by rw [List.length_take];omega
   have cx_nb2:=d8 (G:=Gq) (r:=r) (sc:=sc) (m:=sk.length) (c:=scap) (b:=false) (a:=sa) (d:=d) hg2 oM
   have cx_tkb:=iQ (G:=Gq) (r:=r) (sc:=sc) (m:=m3) (n:=sk.length) (c:=scap) (s:=q2) (a:=sa) (d:=d) ⟨hl3,oM⟩
   by_cases hlast : tg ≤ last
   ·rw [tl hg htz ht hlast] at hit
    have cx_fldg:=k9 (hT2.mono hgq) hw ⟨h0,h1⟩
    repeat' (first | refine jR ?_ | (refine jo ?_;first | refine jD F F F ?_ | refine ah F ?_ | (refine ai F F F cx_nb F ?_;rintro _ _ ⟨rfl,rfl⟩;dsimp only [zA,fA]) | (refine ai F F F cx_nb2 F ?_;rintro _ _ ⟨rfl,rfl⟩;dsimp only [zA,fA]) | (refine ai F F F cx_tkb F ?_;rintro _ _ ⟨rfl,rfl⟩;dsimp only [zA,fA])) | (refine ae F (by first | rfl | (refine decide_eq_true ?_;(assumption))) ?_) | refine af F (aF ‹_›) ?_)
    all_goals
     refine jo ?_
     refine dO F F F cx_fldg F ?_
     rintro _ ⟨q9,rfl⟩
     repeat' (first | refine jR ?_ | (refine jo ?_;refine ah F ?_) | refine ae F F ?_)
     exact aT (vs,cs,a,cap,sk,sa,scap,(q2.drop m3),true,m',tg,Gq) ⟨⟨hreps,hgq⟩,fun h=>(by cases h),fun _=>hit,⟨by dsimp only;omega,h0,h1⟩,hsk⟩ (by dsimp only;omega) tU rfl a6
   cases hft : bZ t.fields tg with
   | none =>
    rw [rA hg htz ht hlast hft] at hit
    have cx_fld:=dF (h1'.mono hgq) (h2.mono hgq) oM hft
    by_cases hd1 : d = 1
    ·have hskl : (sk ++ [tg]).length = sk.length + 1:=by simp
     have hrs : ao r7 sk ++ [I tg] = ao r7 (sk ++ [tg]):=(cn r7 sk tg).symm
     repeat' (first | refine jR ?_ | (refine jo ?_;first | refine jD F F F ?_ | refine ah F ?_ | refine jV (bD F F) ?_ | refine jF fun _=>?_ | refine bj F F F F F F F F F oM fun _ _=>?_ | (refine ai F F F cx_nb F ?_;rintro _ _ ⟨rfl,rfl⟩;dsimp only [zA,fA]) | (refine ai F F F cx_nb2 F ?_;rintro _ _ ⟨rfl,rfl⟩;dsimp only [zA,fA]) | (refine ai F F F cx_tkb F ?_;rintro _ _ ⟨rfl,rfl⟩;dsimp only [zA,fA]) | refine ad F F F cx_fld F ?_) | (refine ae F (by first | rfl | (refine decide_eq_true ?_;(assumption))) ?_) | (refine af F (by first | rfl | (refine decide_eq_false ?_;(assumption))) ?_))
     rename_i _ y1 yc
     rw [hrs]
     refine Nx.perm (List.Perm.append_right _ (List.perm_append_comm (l₁:=[_,_]) (l₂:=[_]))) ?_
     dsimp only [zA,fA]
     exact aT (vs,cs,a,cap,sk ++ [tg],some ⟨y1,0,none⟩,yc,q2.drop m3,false,m',tg,Gq) ⟨⟨hreps,hgq⟩,fun _=>⟨hit,by dsimp only;omega⟩,fun h=>(by cases h),⟨by dsimp only;omega,h0,h1⟩,fun h=>absurd hd1 h⟩ (by dsimp only;omega) tU rfl (by rw [hskl];repeat (first | exact List.Sublist.refl _ | apply List.Sublist.cons_cons | apply List.Sublist.cons))
    ·repeat' (first | refine jR ?_ | (refine jo ?_;first | refine ah F ?_ | refine jV (bD F F) ?_ | (refine ai F F F cx_nb F ?_;rintro _ _ ⟨rfl,rfl⟩;dsimp only [zA,fA]) | (refine ai F F F cx_nb2 F ?_;rintro _ _ ⟨rfl,rfl⟩;dsimp only [zA,fA]) | (refine ai F F F cx_tkb F ?_;rintro _ _ ⟨rfl,rfl⟩;dsimp only [zA,fA]) | refine ad F F F cx_fld F ?_) | refine ae F F ?_ | (refine af F (by first | rfl | (refine decide_eq_false ?_;(assumption))) ?_))
     all_goals
      exact aT (vs,cs,a,cap,sk,sa,scap,q2.drop m3,false,m',tg,Gq) ⟨⟨hreps,hgq⟩,fun _=>⟨hit,by dsimp only;omega⟩,fun h=>(by cases h),⟨by dsimp only;omega,h0,h1⟩,hsk⟩ (by dsimp only;omega) tU rfl a6
   | some f =>
    obtain ⟨j,hj,hjn,hjt,hjd⟩:=cV hft
    obtain ⟨bf,of,cf,rfl,hsf⟩:=h2.expl oM
    subst hjd
    have hsf:=hsf.mono hgq
    have cx_fld:=dE (h1'.mono hgq) hsf oM hj hjn hjt
    have cx_prt:=sy (G:=Gq) (r:=r) (sc:=sc) (m:=sk.length) (c:=scap) (a:=sa) (s:=q2.drop m3) (k:=(ac t.fields j).kind) (p:=q2.take m3) (d:=d) hd hn hU (hS.mono hgq) (hkf _ (a7 hj)) htl
    repeat' (first | refine jR ?_ | (refine jo ?_;first | refine jL fun _=>?_ | refine jC F F F ?_ | refine ah F ?_ | (refine jV (du F F aS ?_ F F) ?_;focus omega) | refine jV (bD F F) ?_ | (refine ai F F F cx_nb F ?_;rintro _ _ ⟨rfl,rfl⟩;dsimp only [zA,fA]) | (refine ai F F F cx_nb2 F ?_;rintro _ _ ⟨rfl,rfl⟩;dsimp only [zA,fA]) | (refine ai F F F cx_tkb F ?_;rintro _ _ ⟨rfl,rfl⟩;dsimp only [zA,fA]) | refine ad F F F cx_fld F ?_ | (refine da F F F cx_prt F ?_;rintro _ G1 _ hle ⟨u1,c1,b1,rfl,hrep,rfl,hQ2,hQ3⟩;dsimp only [zA,fA];skip)) | refine ae F F ?_ | (refine af F (by first | rfl | (refine decide_eq_false ?_;(assumption))) ?_))
    rename_i x10
    have hgl:=hgq.trans hle
    have hS1:=hS.mono hgl
    have hsf1:=hsf.mono hle
    have cx_of:=pQ hS1 hW0 hsf1 hj (hkf _ (a7 hj))
    obtain ⟨u',m2',g1',g2',g3'⟩:=hS1.at'
    cases b1 with
    | true =>
     rw [tj hg htz ht hlast hft (hQ3 rfl)] at hit
     repeat' (first | refine jR ?_ | refine af F F ?_ | (refine ak (ar (id:=12) _ (fun _ h=>h) aj ?_);refine jT 13 [0,1,2] (aa 16 7) ?_;(refine jG (aa 16 15) 3 F (an F F F) ?_);refine jT 10 [4,5] (aa 16 63) ?_;(try (refine Nx.re (d:=47) (v':=Bo false) F (congrArg Value.bool F) ?_));refine jT 6 [8,9,10,12] (aa 16 5951) ?_;(refine jN (aa 16 6015) 6 F ?_);(refine jN (aa 16 8063) 11 F ?_);(refine jN (aa 16 8191) 7 F ?_);(refine jN (aa 16 16383) 13 F ?_);refine jT 1 [14] (aa 16 32767) ?_;(refine jG (aa 16 65535) 15 F (aW F F F) ?_);refine jQ ?_))
     all_goals exact aT (vs,cs,a,cap,sk,sa,scap,q2.drop m3,true,m',tg,G1) ⟨⟨bV hle hreps,hgl⟩,fun h=>(by cases h),fun _=>hit,⟨by dsimp only;omega,h0,h1⟩,hsk⟩ (by dsimp only;omega) tU rfl sB
    | false =>
     obtain ⟨hra,htot⟩:=hQ2 rfl
     rw [th hg htz ht hlast hft hra] at hit
     have cx_pr:=kq (G:=G1) u1.tot (Nat.le_refl _) oM hrep
     have hotl:=oG hrep
     by_cases heq : u1.out = cx (ag qs) (ac t.fields j)
     ·rw [if_pos heq] at hit
      repeat' (first | refine jR ?_ | (refine af F ?_ ?_;(focus ((simp [*];done);done))) | (refine ak (ar (id:=12) _ (fun _ h=>h) aj ?_);refine jT 13 [0,1,2] (aa 16 7) ?_;(refine jG (aa 16 15) 3 F (an F F F) ?_);refine jT 10 [4,5] (aa 16 63) ?_;(try (refine Nx.re (d:=47) (v':=Bo true) F (congrArg Value.bool F) ?_));refine jT 6 [8,9,10,12] (aa 16 5951) ?_;(refine jG (aa 16 6015) 6 F (bC F F F F) ?_);(refine jG (aa 16 8063) 11 F (an F F F) ?_);(refine jA 7 F ?_;(refine ad F F F cx_pr F ?_);refine jS (aa 16 8191) ?_);(refine jA 13 F ?_;(refine ad F F F cx_of F ?_);refine jS (aa 16 16383) ?_);refine jT 1 [14] (aa 16 32767) ?_;(refine jG (aa 16 65535) 15 F (bU F F F) ?_);refine jQ ?_))
      all_goals exact aT (vs,cs,a,cap,sk,sa,scap,q2.drop m3,false,m',tg,G1) ⟨⟨bV hle hreps,hgl⟩,fun _=>⟨hit,by dsimp only;omega⟩,fun h=>(by cases h),⟨by dsimp only;omega,h0,h1⟩,hsk⟩ (by dsimp only;omega) tU rfl sB
     ·rw [if_neg heq] at hit
      repeat' (first | refine jR ?_ | (refine jo ?_;first | refine jV (am F F) ?_ | refine jD F F F ?_ | refine ah F ?_ | refine aK F ?_ | refine jF fun _=>?_ | refine bj F F F F F F F F F oM fun _ _=>?_) | refine ae F (aC ‹_›) ?_ | (refine ak (ar (id:=12) _ (fun _ h=>h) aj ?_);refine jT 13 [0,1,2] (aa 16 7) ?_;(refine jG (aa 16 15) 3 F (an F F F) ?_);refine jT 10 [4,5] (aa 16 63) ?_;(try (refine Nx.re (d:=47) (v':=Bo true) F (congrArg Value.bool F) ?_));refine jT 6 [8,9,10,12] (aa 16 5951) ?_;(refine jG (aa 16 6015) 6 F (bC F F F F) ?_);(refine jG (aa 16 8063) 11 F (an F F F) ?_);(refine jA 7 F ?_;(refine ad F F F cx_pr F ?_);refine jS (aa 16 8191) ?_);(refine jA 13 F ?_;(refine ad F F F cx_of F ?_);refine jS (aa 16 16383) ?_);refine jT 1 [14] (aa 16 32767) ?_;(refine jG (aa 16 65535) 15 F (bU F F F) ?_);refine jQ ?_))
      rename_i y z y1 yc
      rw [hjt] at hit
      refine Nx.sealC (b:=y) fun G2 hG2 hsy=>?_
      have hsl : bh G2 (.slice (some ⟨y,0,none⟩) 1 1) 4 ([c1] : List VC).length (ao bE [c1]):=⟨rfl,.inr ⟨y,0,1,rfl,Nat.le_refl _,hsy⟩⟩
      have hrow : ao bE cs ++ [U8 61,S [],I tg,.slice (some ⟨y,0,none⟩) 1 1] = ao bE (cs ++ [⟨61,[],tg,some ⟨y,0,none⟩,1,1⟩]):=(cn bE cs (⟨61,[],tg,some ⟨y,0,none⟩,1,1⟩ : VC)).symm
      have hr1 : V.rep G2 (.nd 61 [] tg [u1]) (⟨61,[],tg,some ⟨y,0,none⟩,1,1⟩ : VC):=cH (ks:=[u1]) dC oM (fun _=>rfl) rfl hsl ⟨c1,[],rfl,eI hG2 hrep,rfl⟩
      have hr2 : V.reps G2 (vs ++ [.nd 61 [] tg [u1]]) (cs ++ [⟨61,[],tg,some ⟨y,0,none⟩,1,1⟩]):=g0 hr1 (bV (hle.trans hG2) hreps)
      have hvl : (vs ++ [V.nd 61 [] tg [u1]]).length = vs.length + 1:=by simp
      refine Nx.perm (List.Perm.append_right _ (List.perm_append_comm (l₁:=[_,_,_]) (l₂:=[_,_]))) ?_
      dsimp only [zA,fA]
      rw [hrow]
      exact aT (vs ++ [.nd 61 [] tg [u1]],cs ++ [⟨61,[],tg,some ⟨y,0,none⟩,1,1⟩],some ⟨y1,0,none⟩,yc,sk,sa,scap,q2.drop m3,false,m',tg,G2) ⟨⟨hr2,hgl.trans hG2⟩,fun _=>⟨hit,by dsimp only;omega⟩,fun h=>(by cases h),⟨by dsimp only;omega,h0,h1⟩,hsk⟩ (by dsimp only;omega) tU rfl (by rw [hvl];repeat (first | exact List.Sublist.refl _ | apply List.Sublist.cons_cons | apply List.Sublist.cons))
theorem aar {n r sc : Nat} {qs : List b8} {k s : abu} {d : Int} (hd : d = 12 - (n : Int)) (hn : n ≤ 12) (hU : pL n sc qs) (hS : ScI G sc qs) (hk : aJ (ag qs) (91 :: k) = true) (hs : s.length ≤ 1000) :
  cX abt 96 [Pt r 0,Ag (dQ (91 :: k))] G [bA r sc s false none 0 0 d] (jq (rb (ag qs) (n + 1) (91 :: k)) r sc s false d):=by
 have hk2:=gW (.inl rfl) hk
 obtain ⟨e1,e2,e3,_⟩:=iI (c:=91) (k:=k) (.inl rfl)
 have hrd:=yv (ts:=ag qs) (n:=n) (k:=k) (s:=s)
 unfold dQ
 rw [e1,e2,e3]
 have cx_sign:=@ix G 91 (sg k) (bs k) (nm k)
 have cx_ptA : ∀ G,aI abt 129 [Ag [S (91 :: sg k),S (bs k),S (nm k)]] G (· = Ag [S (sg k),S (bs k),S (nm k)]):=fun G=>@oh G 91 (sg k) (bs k) (nm k)
 cases hg : bR s with
 | none =>
  rw [hg] at hrd
  have cx_nb:=fH (G:=G) (r:=r) (sc:=sc) (m:=0) (c:=0) (b:=false) (a:=none) (d:=d + 1) hg hs
  refine ce [(0,_),(1,_)] Tryz.func96 kR Tryz.ntmps96 F F tU fun B hok hB hW=>?_
  repeat' (first | refine jM ?_ | (refine jo ?_;first | refine jO fun _=>?_ | refine jL fun _=>?_ | refine ah F ?_ | refine jD F F F ?_ | refine jV (cE F F) ?_))
  rename_i x2 x3 x4
  refine jo ?_
  refine cg (fi:=[]) (ca:=[Pt x2 0]) (az:=[]) F F ?_
  repeat' (first | refine jR ?_ | (refine jo ?_;first | refine jL fun _=>?_ | refine ah F ?_ | refine aK F ?_ | refine jC F F F ?_ | refine jV (am F F) ?_ | refine ad F F F cx_sign F ?_ | (refine ai F F F cx_nb F ?_;rintro _ _ ⟨rfl,rfl⟩;dsimp only [zA,fA])) | refine ae F F ?_ | (refine af F (by first | rfl | (refine decide_eq_false ?_;(omega))) ?_))
  rename_i x5
  refine aU (ι:=Unit) (fun j=>True) (fun j=>[(2,Pt x2 0),(3,Pt x3 0),(4,Pt x4 0),(5,I 0),(6,Pt x5 0),(7,I 0)]) (fun _=>G) (fun j=>[.blk x5 (.cells (List.toArray [U8 91,S [],I 0,aA]) lq (0,0)),bA r sc [] true none 0 0 (d + 1),.blk x4 (.cells (List.toArray [U8 (0 : Nat),S [],I 0,aA]) lq (0,0)),.blk x3 (.cells (List.toArray [S (91 :: sg k),S (bs k),S (nm k)]) pZ (0,0)),.blk x2 (.cells (List.toArray [Pt r 0]) e8 (0,0))]) (fun j=>0) () ?_ tU F a6 (fun j Hj=>?_)
  ·trivial
  repeat' (first | refine jR ?_ | (refine jo ?_;first | refine aK F ?_ | refine jC F F F ?_ | refine aH F ?_) | refine aD F F F ?_ | refine af F F ?_)
  all_goals
   refine cR (.inl F) F (cz (x0:=x2) (r:=r) (sc:=sc) (s:=[]) (b:=true) (a:=none) (n:=0) (c:=0) (d:=d + 1) oM) F ?_
   rintro v G' L' ⟨rfl,rfl⟩
   dsimp only [zA,fA]
   exact ⟨[_],[bA r sc [] true none 0 0 (d + 1 - 1)],⟨aw F F F F,trivial⟩,sB,Gh.le.refl _,cq (c:=⟨91,[],0,none,0,0⟩) (be dC dC) oM (fun _=>⟨F,F,F⟩) ⟨by simp,fun h=>(by cases h),fun _=>.inr hrd⟩⟩
 | some z =>
  obtain ⟨m,q⟩:=z
  obtain ⟨h1,h2,_⟩:=d3 hg
  have hl:=cy hg
  rw [hg] at hrd
  dsimp only at hrd
  have cx_nb:=d8 (G:=G) (r:=r) (sc:=sc) (m:=0) (c:=0) (b:=false) (a:=none) (d:=d + 1) hg hs
  by_cases h20 : m ≤ 20
  case neg =>
   rw [if_neg h20] at hrd
   refine ce [(0,_),(1,_)] Tryz.func96 kR Tryz.ntmps96 F F tU fun B hok hB hW=>?_
   repeat' (first | refine jM ?_ | (refine jo ?_;first | refine jO fun _=>?_ | refine jL fun _=>?_ | refine ah F ?_ | refine jD F F F ?_ | refine jV (cE F F) ?_))
   rename_i x2 x3 x4
   refine jo ?_
   refine cg (fi:=[]) (ca:=[Pt x2 0]) (az:=[]) F F ?_
   repeat' (first | refine jR ?_ | (refine jo ?_;first | refine jL fun _=>?_ | refine ah F ?_ | refine aK F ?_ | refine jD F F F ?_ | refine jC F F F ?_ | refine jV (am F F) ?_ | refine ad F F F cx_sign F ?_ | (refine ai F F F cx_nb F ?_;rintro _ _ ⟨rfl,rfl⟩;dsimp only [zA,fA])) | (refine ae F (by first | rfl | (refine decide_eq_true ?_;(omega))) ?_) | (refine af F (by first | rfl | (refine decide_eq_false ?_;(omega))) ?_))
   rename_i x5
   refine aU (ι:=Unit) (fun j=>True) (fun j=>[(2,Pt x2 0),(3,Pt x3 0),(4,Pt x4 0),(5,I m),(6,Pt x5 0),(7,I 0)]) (fun _=>G) (fun j=>[.blk x5 (.cells (List.toArray [U8 91,S [],I 0,aA]) lq (0,0)),bA r sc q true none 0 0 (d + 1),.blk x4 (.cells (List.toArray [U8 (0 : Nat),S [],I 0,aA]) lq (0,0)),.blk x3 (.cells (List.toArray [S (91 :: sg k),S (bs k),S (nm k)]) pZ (0,0)),.blk x2 (.cells (List.toArray [Pt r 0]) e8 (0,0))]) (fun j=>0) () ?_ tU F a6 (fun j Hj=>?_)
   ·trivial
   repeat' (first | refine jR ?_ | (refine jo ?_;first | refine ah F ?_ | refine aK F ?_ | refine jC F F F ?_ | refine aP F ?_) | refine aO F F (aC oM) ?_ | refine af F F ?_)
   all_goals
    refine cR (.inl F) F (cz (x0:=x2) (r:=r) (sc:=sc) (s:=q) (b:=true) (a:=none) (n:=0) (c:=0) (d:=d + 1) oM) F ?_
    rintro v G' L' ⟨rfl,rfl⟩
    dsimp only [zA,fA]
    exact ⟨[_],[bA r sc q true none 0 0 (d + 1 - 1)],⟨aw F F F F,trivial⟩,sB,Gh.le.refl _,cq (c:=⟨91,[],0,none,0,0⟩) (be dC dC) oM (fun _=>⟨F,F,F⟩) ⟨oM,fun h=>(by cases h),fun _=>.inr hrd⟩⟩
  rw [if_pos h20] at hrd
  obtain ⟨m,rfl⟩ : ∃ m' : Nat,m = (m' : Int):=⟨m.toNat,oM⟩
  rw [Int.toNat_natCast] at hrd
  refine ce [(0,_),(1,_)] Tryz.func96 kR Tryz.ntmps96 F F tU fun B hok hB hW=>?_
  repeat' (first | refine jM ?_ | (refine jo ?_;first | refine jO fun _=>?_ | refine jL fun _=>?_ | refine ah F ?_ | refine jD F F F ?_ | refine jV (cE F F) ?_))
  rename_i x2 x3 x4
  refine jo ?_
  refine cg (fi:=[]) (ca:=[Pt x2 0]) (az:=[]) F F ?_
  repeat' (first | refine jR ?_ | (refine jo ?_;first | refine jL fun _=>?_ | refine ah F ?_ | refine aK F ?_ | refine jC F F F ?_ | refine jV (am F F) ?_ | refine ad F F F cx_sign F ?_ | (refine ai F F F cx_nb F ?_;rintro _ _ ⟨rfl,rfl⟩;dsimp only [zA,fA])) | refine ae F F ?_ | (refine af F (by first | rfl | (refine decide_eq_false ?_;(omega))) ?_))
  rename_i x5
  refine Nx.addNil lq 4 (Nx.perm (List.Perm.cons _ (List.Perm.swap _ _ _)) ?_)
  refine aU (ι:=List V × List VC × Option Addr × Nat × abu × Bool × Gh) (fun y=>(V.reps y.2.2.2.2.2.2 y.1 y.2.1 ∧ Gh.le G y.2.2.2.2.2.2) ∧ (y.2.2.2.2.2.1 = false → bT (rb (ag qs) n k) m q [] = bT (rb (ag qs) n k) (m - y.1.length) y.2.2.2.2.1 y.1) ∧ (y.2.2.2.2.2.1 = true → bT (rb (ag qs) n k) m q [] = none) ∧ (y.1.length ≤ m ∧ y.2.2.2.2.1.length ≤ q.length)) (fun y=>[(2,Pt x2 0),(3,Pt x3 0),(4,Pt x4 0),(5,I (m : Nat)),(6,Pt x5 0),(7,I (y.1.length : Nat))]) (fun y=>y.2.2.2.2.2.2) (fun y=>[.acc (.slice y.2.2.1 y.1.length y.2.2.2.1) lq 4 y.1.length (ao bE y.2.1),bA r sc y.2.2.2.2.1 y.2.2.2.2.2.1 none 0 0 (d + 1),.blk x5 (.cells (List.toArray [U8 91,S [],I 0,.slice y.2.2.1 y.1.length y.2.2.2.1]) lq (0,0)),.blk x4 (.cells (List.toArray [U8 (0 : Nat),S [],I 0,aA]) lq (0,0)),.blk x3 (.cells (List.toArray [S (91 :: sg k),S (bs k),S (nm k)]) pZ (0,0)),.blk x2 (.cells (List.toArray [Pt r 0]) e8 (0,0))]) (fun y=>m - y.1.length) ([],[],none,0,q,false,G) ?_ tU F a6 (fun y Hy=>?_)
  ·exact ⟨⟨F,Gh.le.refl _⟩,fun _=>rfl,fun h=>(by cases h),Nat.zero_le _,Nat.le_refl _⟩
  obtain ⟨vs,cs,a,cap,t,b,Gq⟩:=y
  dsimp only at Hy ⊢
  obtain ⟨⟨hreps,hgq⟩,hI0,hI1,hlm,htl'⟩:=Hy
  have hcl:=gE hreps
  by_cases hi : b = false ∧ vs.length < m
  case neg =>
   have hres : rq (rb (ag qs) (n + 1) (91 :: k)) s false (.nd 91 [] 0 vs) t b:=by
    refine ⟨oM,fun h=>⟨F,?_⟩,fun h=>.inr ?_⟩
    ·have h2:=hI0 h
     have h9 : ¬ vs.length < m:=fun h3=>hi ⟨h,h3⟩
     have e0 : m - vs.length = 0:=oM
     rw [e0,bT] at h2
     rw [hrd,h2];rfl
    ·rw [hrd,hI1 h];rfl
   cases b with
   | true =>
    repeat' (first | refine jR ?_ | (refine jo ?_;first | refine ah F ?_ | refine aK F ?_ | refine jC F F F ?_ | refine aP F ?_ | refine aH F ?_) | refine dR F F (fun _=>?_) (fun _=>?_) | refine af F F ?_)
    all_goals
     refine Nx.sealS (v:=.slice a vs.length cap) fun G2 hG2 hsl=>?_
     refine cR (.inl F) F (cz (x0:=x2) (r:=r) (sc:=sc) (s:=t) (b:=true) (a:=none) (n:=0) (c:=0) (d:=d + 1) oM) F ?_
     rintro v G' L' ⟨rfl,rfl⟩
     dsimp only [zA,fA]
     exact ⟨[_],[bA r sc t true none 0 0 (d + 1 - 1)],⟨aw F F F F,trivial⟩,sB,(hgq.trans hG2),cq (c:=⟨91,[],0,a,vs.length,cap⟩) (cH dC dC (fun h=>absurd h dC) F (by rw [hcl];exact hsl) (bV hG2 hreps)) oM (fun _=>⟨F,F,F⟩) hres⟩
   | false =>
    have hi2 : ¬ vs.length < m:=fun h=>hi ⟨rfl,h⟩
    repeat' (first | refine jR ?_ | (refine jo ?_;first | refine aK F ?_ | refine jC F F F ?_ | refine aH F ?_) | refine aD F F (aF oM) ?_ | refine af F F ?_)
    all_goals
     refine Nx.sealS (v:=.slice a vs.length cap) fun G2 hG2 hsl=>?_
     refine cR (.inl F) F (cz (x0:=x2) (r:=r) (sc:=sc) (s:=t) (b:=false) (a:=none) (n:=0) (c:=0) (d:=d + 1) oM) F ?_
     rintro v G' L' ⟨rfl,rfl⟩
     dsimp only [zA,fA]
     exact ⟨[_],[bA r sc t false none 0 0 (d + 1 - 1)],⟨aw F F F F,trivial⟩,sB,(hgq.trans hG2),cq (c:=⟨91,[],0,a,vs.length,cap⟩) (cH dC dC (fun h=>absurd h dC) F (by rw [hcl];exact hsl) (bV hG2 hreps)) oM (fun _=>⟨F,F,F⟩) hres⟩
  obtain ⟨rfl,hi2⟩:=hi
  have hit:=hI0 rfl
  clear hI0 hI1
  obtain ⟨m',hm'⟩ : ∃ m',m - vs.length = m' + 1:=⟨m - vs.length - 1,oM⟩
  rw [hm'] at hit
  have cx_vl:=vu (r:=r) (d:=d + 1) oM oM (hU Gq r k t false (hS.mono hgq) hk2 oM)
  have cx_pt:=cx_ptA Gq
  repeat' (first | refine jR ?_ | (refine jo ?_;first | refine ah F ?_ | refine aP F ?_) | refine aO F F (aC oM) ?_ | refine ae F F ?_)
  (refine ak (ar (id:=16) [.blk x3 (.cells (List.toArray [S (91 :: sg k),S (bs k),S (nm k)]) pZ (0,0)),.blk x2 (.cells (List.toArray [Pt r 0]) e8 (0,0))] (by intro y hy;simp only [List.mem_cons,List.not_mem_nil,or_false] at hy ⊢;rcases hy with hy | hy <;> simp [hy]) aj ?_);refine jW 9 [0] (aa 10 1) ?_;(refine jG (aa 10 5) 2 F (an F F F) ?_);(refine jG (aa 10 13) 3 F (bC F F F F) ?_);refine cd [1,4] kR dC ⟨?_,?_,trivial⟩;(focus (refine aX F F ?_;(refine ah F ?_);refine jK (aa 10 15) ?_;refine jA 4 F ?_;(refine ad F F F cx_pt F ?_);refine jK (aa 10 31) ?_;refine jA 5 F ?_;(refine da F F F cx_vl F ?_;rintro _ G1 _ hle ⟨u1,c1,t1,b1,rfl,hrep,rfl,hP⟩;dsimp only [zA,fA];skip);refine jK (aa 10 63) ?_;refine jA 6 F ?_;(refine jF fun _=>?_);refine jK (aa 10 127) ?_;refine jA 7 F ?_;((refine bj F F F F F F F F F ?_ fun _ _=>?_;focus omega));refine jK (aa 10 255) ?_;refine jW 1 [8] (aa 10 511) ?_;refine jA 9 F ?_;(refine jD F F F ?_);refine jK (aa 10 1023) ?_;refine jQ ?_));rotate_left 1;(focus (refine aX F F ?_;(refine ad F F F cx_pt F ?_);refine jK (aa 10 29) ?_;refine cd [1,5] kR dC ⟨?_,?_,trivial⟩;(focus (refine aX F F ?_;(refine ah F ?_);refine jK (aa 10 31) ?_;refine jA 5 F ?_;(refine da F F F cx_vl F ?_;rintro _ G1 _ hle ⟨u1,c1,t1,b1,rfl,hrep,rfl,hP⟩;dsimp only [zA,fA];skip);refine jK (aa 10 63) ?_;refine jA 6 F ?_;(refine jF fun _=>?_);refine jK (aa 10 127) ?_;refine jA 7 F ?_;((refine bj F F F F F F F F F ?_ fun _ _=>?_;focus omega));refine jK (aa 10 255) ?_;refine jW 1 [8] (aa 10 511) ?_;refine jA 9 F ?_;(refine jD F F F ?_);refine jK (aa 10 1023) ?_;refine jQ ?_));rotate_left 1;(focus (refine aX F F ?_;(refine da F F F cx_vl F ?_;rintro _ G1 _ hle ⟨u1,c1,t1,b1,rfl,hrep,rfl,hP⟩;dsimp only [zA,fA];skip);refine jK (aa 10 61) ?_;refine cd [1,6] kR dC ⟨?_,?_,trivial⟩;(focus (refine aX F F ?_;(refine ah F ?_);refine jK (aa 10 63) ?_;refine jA 6 F ?_;(refine jF fun _=>?_);refine jK (aa 10 127) ?_;refine jA 7 F ?_;((refine bj F F F F F F F F F ?_ fun _ _=>?_;focus omega));refine jK (aa 10 255) ?_;refine jW 1 [8] (aa 10 511) ?_;refine jA 9 F ?_;(refine jD F F F ?_);refine jK (aa 10 1023) ?_;refine jQ ?_));rotate_left 1;(focus (refine aX F F ?_;(refine jF fun _=>?_);refine jK (aa 10 125) ?_;refine jA 1 F ?_;(refine ah F ?_);refine jK (aa 10 127) ?_;refine jA 7 F ?_;((refine bj F F F F F F F F F ?_ fun _ _=>?_;focus omega));refine jK (aa 10 255) ?_;refine jW 1 [8] (aa 10 511) ?_;refine jA 9 F ?_;(refine jD F F F ?_);refine jK (aa 10 1023) ?_;refine jQ ?_));rotate_left 1));rotate_left 2));rotate_left 3)
  all_goals
   rename_i y1 yc
   have hrow : ao bE cs ++ [U8 (c1.what : Nat),S c1.text,I c1.tag,c1.sl] = ao bE (cs ++ [c1]):=(cn bE cs c1).symm
   have hr2 : V.reps G1 (vs ++ [u1]) (cs ++ [c1]):=g0 hrep (bV hle hreps)
   have hvl : (vs ++ [u1]).length = vs.length + 1:=by simp
   have hgl:=hgq.trans hle
   obtain ⟨hQ1,hQ2,hQ3⟩:=ke hP
   rw [hrow]
   have hm2 : m - (vs ++ [u1]).length = m':=by rw [hvl];omega
   have hno1 : b1 = true → bT (rb (ag qs) n k) m q [] = none:=fun h=>by rw [hit,tf (hQ3 h)]
   have hyes1 : b1 = false → bT (rb (ag qs) n k) m q [] = bT (rb (ag qs) n k) (m - (vs ++ [u1]).length) t1 (vs ++ [u1]):=fun h2=>by rw [hit,qe (hQ2 h2).1,hm2]
   repeat' (refine jM ?_)
   refine Nx.re (d:=7) (v':=I ((vs ++ [u1]).length : Nat)) F (congrArg (Value.int .i64) (by rw [hvl];omega)) ?_
   exact aT (vs ++ [u1],cs ++ [c1],some ⟨y1,0,none⟩,yc,t1,b1,G1) ⟨⟨hr2,hgl⟩,hyes1,hno1,by dsimp only;omega,by dsimp only;omega⟩ (by dsimp only;omega) tU rfl (by rw [hvl];repeat (first | exact List.Sublist.refl _ | apply List.Sublist.cons_cons | apply List.Sublist.cons))
theorem aap {n r sc : Nat} {qs : List b8} {k s : abu} {d : Int} (hd : d = 12 - (n : Int)) (hn : n ≤ 12) (hU : pL n sc qs) (hS : ScI G sc qs) (hk : aJ (ag qs) (63 :: k) = true) (hs : s.length ≤ 1000) :
  cX abt 96 [Pt r 0,Ag (dQ (63 :: k))] G [bA r sc s false none 0 0 d] (jq (rb (ag qs) (n + 1) (63 :: k)) r sc s false d):=by
 have hk2:=gW (.inr rfl) hk
 obtain ⟨e1,e2,e3,_⟩:=iI (c:=63) (k:=k) (.inr rfl)
 have hrd:=yu (ts:=ag qs) (n:=n) (k:=k) (s:=s)
 unfold dQ
 rw [e1,e2,e3]
 have cx_sign:=@ix G 63 (sg k) (bs k) (nm k)
 have cx_pt:=@oh G 63 (sg k) (bs k) (nm k)
 cases hf : dt s with
 | none =>
  rw [hf] at hrd
  have cx_fl:=ra (G:=G) (r:=r) (sc:=sc) (n:=0) (c:=0) (s:=s) (b:=false) (a:=none) (d:=d + 1) (.inr hf) oM
  refine ce [(0,_),(1,_)] Tryz.func96 kR Tryz.ntmps96 F F tU fun B hok hB hW=>?_
  repeat' (first | refine jM ?_ | (refine jo ?_;first | refine jO fun _=>?_ | refine jL fun _=>?_ | refine ah F ?_ | refine jD F F F ?_ | refine jV (cE F F) ?_))
  rename_i x2 x3 x4
  refine jo ?_
  refine cg (fi:=[]) (ca:=[Pt x2 0]) (az:=[]) F F ?_
  repeat' (first | refine jR ?_ | (refine jo ?_;first | refine ah F ?_ | refine aK F ?_ | refine jC F F F ?_ | refine jV (am F F) ?_ | refine ad F F F cx_sign F ?_ | (refine ai F F F cx_fl F ?_;rintro _ _ ⟨q1,⟨rfl,hql⟩,rfl⟩;dsimp only [zA,fA])) | refine ae F F ?_ | (refine af F (by first | rfl | (refine decide_eq_false ?_;(omega))) ?_))
  all_goals
   refine cR (.inl F) F (cz (x0:=x2) (r:=r) (sc:=sc) (s:=q1) (b:=true) (a:=none) (n:=0) (c:=0) (d:=d + 1) oM) F ?_
   rintro v G' L' ⟨rfl,rfl⟩
   dsimp only [zA,fA]
   exact ⟨[_],[bA r sc q1 true none 0 0 (d + 1 - 1)],⟨aw F F F F,trivial⟩,sB,Gh.le.refl _,cq (c:=⟨63,[],0,none,0,0⟩) (be dC dC) oM (fun _=>⟨F,F,F⟩) ⟨hql,fun h=>(by cases h),fun _=>.inr hrd⟩⟩
 | some y =>
  obtain ⟨x,q⟩:=y
  rw [hf] at hrd
  have hin:=eJ hf
  have hl : s.length = q.length + 1:=by rw [hin];rfl
  have cx_fl:=q8 (G:=G) (r:=r) (sc:=sc) (n:=0) (c:=0) (s:=s) (q:=q) (x:=x) (a:=none) (d:=d + 1) hf oM
  cases x with
  | false =>
   refine ce [(0,_),(1,_)] Tryz.func96 kR Tryz.ntmps96 F F tU fun B hok hB hW=>?_
   repeat' (first | refine jM ?_ | (refine jo ?_;first | refine jO fun _=>?_ | refine jL fun _=>?_ | refine ah F ?_ | refine jD F F F ?_ | refine jV (cE F F) ?_))
   rename_i x2 x3 x4
   refine jo ?_
   refine cg (fi:=[]) (ca:=[Pt x2 0]) (az:=[]) F F ?_
   repeat' (first | refine jR ?_ | (refine jo ?_;first | refine ah F ?_ | refine aK F ?_ | refine jC F F F ?_ | refine jV (am F F) ?_ | refine ad F F F cx_sign F ?_ | (refine ai F F F cx_fl F ?_;rintro _ _ ⟨rfl,rfl⟩;dsimp only [zA,fA])) | refine ae F F ?_ | (refine af F (by first | rfl | (refine decide_eq_false ?_;(omega))) ?_))
   all_goals
    refine cR (.inl F) F (cz (x0:=x2) (r:=r) (sc:=sc) (s:=q) (b:=false) (a:=none) (n:=0) (c:=0) (d:=d + 1) oM) F ?_
    rintro v G' L' ⟨rfl,rfl⟩
    dsimp only [zA,fA]
    exact ⟨[_],[bA r sc q false none 0 0 (d + 1 - 1)],⟨aw F F F F,trivial⟩,sB,Gh.le.refl _,cq (c:=⟨63,[],0,none,0,0⟩) (be dC dC) oM (fun _=>⟨F,F,F⟩) ⟨oM,fun _=>⟨F,hrd⟩,fun h=>(by cases h)⟩⟩
  | true =>
   dsimp only at hrd
   have cx_vl:=vu (r:=r) (d:=d + 1) oM oM (hU G r k q false hS hk2 oM)
   refine ce [(0,_),(1,_)] Tryz.func96 kR Tryz.ntmps96 F F tU fun B hok hB hW=>?_
   repeat' (first | refine jM ?_ | (refine jo ?_;first | refine jO fun _=>?_ | refine jL fun _=>?_ | refine ah F ?_ | refine jD F F F ?_ | refine jV (cE F F) ?_))
   rename_i x2 x3 x4
   refine jo ?_
   refine cg (fi:=[]) (ca:=[Pt x2 0]) (az:=[]) F F ?_
   repeat' (first | refine jR ?_ | (refine jo ?_;first | refine ah F ?_ | refine aK F ?_ | refine ad F F F cx_sign F ?_ | (refine ai F F F cx_fl F ?_;rintro _ _ ⟨rfl,rfl⟩;dsimp only [zA,fA])) | refine ae F F ?_ | (refine af F (by first | rfl | (refine decide_eq_false ?_;(omega))) ?_))
   (refine ak (ar (id:=21) [.blk x3 (.cells (List.toArray [S (63 :: sg k),S (bs k),S (nm k)]) pZ (0,0)),.blk x2 (.cells (List.toArray [Pt r 0]) e8 (0,0))] (by intro y hy;simp only [List.mem_cons,List.not_mem_nil,or_false] at hy ⊢;rcases hy with hy | hy <;> simp [hy]) aj ?_);(refine jG (aa 7 1) 0 F (an F F F) ?_);(refine jG (aa 7 3) 1 F (bC F F F F) ?_);refine jA 2 F ?_;(refine ad F F F cx_pt F ?_);refine jK (aa 7 7) ?_;refine jA 3 F ?_;(refine da F F F cx_vl F ?_;rintro _ G1 _ hle ⟨u1,c1,t1,b1,rfl,hrep,rfl,hP⟩;dsimp only [zA,fA];skip);refine jK (aa 7 15) ?_;refine jA 4 F ?_;(refine jF fun _=>?_);refine jK (aa 7 31) ?_;(refine jG (aa 7 63) 5 F (am F F) ?_);refine jA 6 F ?_;(refine jC F F F ?_);refine jK (aa 7 127) ?_;refine jQ ?_)
   all_goals repeat' (refine jR ?_)
   rename_i y
   refine Nx.sealC (b:=y) fun G2 hG2 hsy=>?_
   have hsl : bh G2 (.slice (some ⟨y,0,none⟩) 1 1) 4 ([c1] : List VC).length (ao bE [c1]):=⟨rfl,.inr ⟨y,0,1,rfl,Nat.le_refl _,hsy⟩⟩
   obtain ⟨hQ1,hQ2,hQ3⟩:=ke hP
   refine cR (.inl F) F (cz (x0:=x2) (r:=r) (sc:=sc) (s:=t1) (b:=b1) (a:=none) (n:=0) (c:=0) (d:=d + 1) oM) F ?_
   rintro v G' L' ⟨rfl,rfl⟩
   dsimp only [zA,fA]
   exact ⟨[_],[bA r sc t1 b1 none 0 0 (d + 1 - 1)],⟨aw F F F F,trivial⟩,sB,(hle.trans hG2),cq (c:=⟨63,[],0,some ⟨y,0,none⟩,1,1⟩) (cH (ks:=[u1]) dC dC (fun h=>absurd h dC) F hsl ⟨_,[],F,eI hG2 hrep,F⟩) oM (fun _=>⟨F,F,F⟩) ⟨oM,fun h=>⟨F,by rw [hrd,(hQ2 h).1];rfl⟩,fun h=>.inr (by rw [hrd,hQ3 h];rfl)⟩⟩
theorem aao {n r sc p : Nat} {qs : List b8} {t : Ty} {x s : abu} {d : Int} (hd : d = 12 - (n : Int)) (hn : n ≤ 12) (hU : pL n sc qs) (hS : ScI G sc qs) (hW0 : SchW (ag qs)) (hkv : kl (fQ qs) x = some (Pt p 0)) (hT : hD G p t) (hw : TyW t) (hkf : ∀ d ∈ t.fields,aJ (ag qs) d.kind = true) (hso : t.sort = 82) (hs : s.length ≤ 1000) :
  cX abt 96 [Pt r 0,Ag [S [],S [64],S x]] G [bA r sc s false none 0 0 d] (jq (cI (ag qs) (rb (ag qs) n) t) r sc s false d):=by
 obtain ⟨u,m2,g1,g2,g3⟩:=hS.at'
 have hso' : (t.sort : Int) = 82:=oM
 have cx_sign:=@di G [64] x
 have cx_rcd:=zr (G:=G) (r:=r) (s:=s) (d:=d + 1) oM hn hU hS hW0 hT hw hkf hs
 have hrd : cI (ag qs) (rb (ag qs) n) t = fun s=>(bO (ag qs) (rb (ag qs) n) t (s.length + 1) 0 s []).map fun x=>(.nd 82 [] 0 x.1,x.2):=by
  funext s
  unfold cI;rw [if_pos hso]
 rw [hrd]
 obtain ⟨fv,ln,h1,h2⟩:=hT
 refine ce [(0,_),(1,_)] Tryz.func96 kR Tryz.ntmps96 F F tU fun B hok hB hW=>?_
 repeat' (first | refine jM ?_ | (refine jo ?_;first | refine jO fun _=>?_ | refine jL fun _=>?_ | refine ah F ?_ | refine jD F F F ?_ | refine jV (cE F F) ?_))
 rename_i x2 x3 x4
 refine jo ?_
 refine cg (fi:=[]) (ca:=[Pt x2 0]) (az:=[]) F F ?_
 repeat' (first | refine jR ?_ | (refine jo ?_;first | refine ah F ?_ | refine aK F ?_ | refine ad F F F cx_sign F ?_) | (refine af F (by first | rfl | (refine decide_eq_false ?_;(omega))) ?_))
 (refine ak (ar (id:=34) _ (fun _ h=>h) aj ?_);refine jT 10 [7] (aa 11 128) ?_;(refine jG (aa 11 129) 0 F (an F F F) ?_);refine jT 7 [1,2] (aa 11 135) ?_;(refine jG (aa 11 143) 3 F (an F F F) ?_);refine jT 4 [4,5] (aa 11 191) ?_;(refine jG (aa 11 255) 6 F (ay F F aS F F) ?_);(refine jG (aa 11 511) 8 F (an F F F) ?_);((refine jG (aa 11 1023) 9 F (bG F F (c9 aS) aS F) ?_));refine jT 0 [10] (aa 11 2047) ?_;refine jQ ?_)
 all_goals repeat' (first | refine jR ?_ | (refine jo ?_;first | refine ah F ?_ | refine jV (ay F F aS F F) ?_ | refine jC F F F ?_ | (refine da F F F cx_rcd F ?_;rintro _ G1 _ hle ⟨u1,c1,t1,b1,a1,n1,k1,rfl,hrep,rfl,hsk,hP⟩;dsimp only [zA,fA];skip)) | refine af F (aF oM) ?_)
 all_goals
  refine cR (.inl F) F (cz (x0:=x2) (r:=r) (sc:=sc) (s:=t1) (b:=b1) (a:=a1) (n:=n1) (c:=k1) (d:=d + 1) oM) F ?_
  rintro v G' L' ⟨rfl,rfl⟩
  dsimp only [zA,fA]
  exact ⟨[_],[bA r sc t1 b1 a1 n1 k1 (d + 1 - 1)],⟨aw F F F F,trivial⟩,sB,hle,cq (c:=c1) hrep oM (fun h=>hsk oM) hP⟩
theorem aau {n r sc : Nat} {qs : List b8} {c : UInt8} {k s : abu} {t : Ty} {d : Int} (h91 : ¬ (c.toNat = 91 ∨ c.toNat = 63)) (hd : d = 12 - (n : Int)) (hn : n ≤ 12) (hU : pL n sc qs) (hS : ScI G sc qs) (hw : SchW (ag qs)) (hk : aJ (ag qs) (c :: k) = true) (hrf : aL (ag qs) (c :: k) = some t) (hs : s.length ≤ 1000) :
  cX abt 96 [Pt r 0,Ag (dQ (c :: k))] G [bA r sc s false none 0 0 d] (jq (rb (ag qs) (n + 1) (c :: k)) r sc s false d):=by
 have hko:=cU hk
 have hsg:=f4 (r:=k) h91
 have hcs:=dB (r:=k) h91
 have hrn : (bc (aG (c :: k))).isSome = true:=by
  rw [hcs];unfold aL at hrf
  cases hx : bc (c :: k) with
  | none=>rw [hx] at hrf;cases hrf
  | some x=>rfl
 have hbs : bs (c :: k) = [64]:=(gB hko).2 hrn
 have hnm : bc (c :: k) = some (nm (c :: k)):=by
  unfold nm;rw [hcs] at hrn ⊢
  cases hx : bc (c :: k) with
  | none=>rw [hx] at hrn;cases hrn
  | some x=>rfl
 have hft : dK (ag qs) (nm (c :: k)) = some t:=by unfold aL at hrf;rw [hnm] at hrf;exact hrf
 have hkv:=d4 qs (nm (c :: k))
 rw [← fq] at hft
 rcases hfq : dU qs (nm (c :: k)) with _ | ⟨p,t'⟩
 ·rw [hfq] at hft;cases hft
 rw [hfq] at hft hkv
 dsimp only [Option.map_some] at hft hkv
 have htt : t' = t:=Option.some.inj hft
 subst htt
 have hqm:=fu hfq
 have htm:=bM hrf
 have hW:=hw.ty t' htm
 have hT : hD G p t':=hS.ty _ hqm
 have hrd : rb (ag qs) (n + 1) (c :: k) = cI (ag qs) (rb (ag qs) n) t':=by
  funext s
  rw [rb];unfold fj
  dsimp only
  rw [if_neg (fun h=>h91 (.inl h)),if_neg (fun h=>h91 (.inr h)),hrf]
 unfold dQ
 rw [hsg,hbs,hrd]
 rcases hW.sort with h | h | h
 ·exact aao hd hn hU hS hw hkv hT hW (fun d hd=>dv hw htm oM hd) h hs
 ·exact aam hd hn hU hS hkv hT hW (fun d hd=>dv hw htm oM hd) h hs
 ·exact aat hd hn hS hkv hT hW h hs
theorem oC {sc : Nat} {qs : List b8} (hw : SchW (ag qs)) : ∀ n,n ≤ 13 → pL n sc qs
 | 0,_=>fun G r k s b _ _ hs=>sr (.inr rfl) hs oM
 | n + 1,hn=>fun G r k s b hS hk hs=>by
  have hU:=oC (sc:=sc) hw n oM
  have ed : (13 : Int) - ((n + 1 : Nat) : Int) = 12 - (n : Int):=oM
  cases b with
  | true=>exact sr (.inl F) hs hn
  | false =>
   match k,hk with
   | [],hk=>cases hk
   | c :: k,hk =>
    by_cases h1 : c.toNat = 91
    ·obtain rfl:=cB h1 dC
     exact aar ed oM hU hS hk hs
    by_cases h2 : c.toNat = 63
    ·obtain rfl:=cB h2 dC
     exact aap ed oM hU hS hk hs
    have h91 : ¬ (c.toNat = 91 ∨ c.toNat = 63):=fun h=>by rcases h with h | h <;> omega
    cases hr : aL (ag qs) (c :: k) with
    | some t=>exact aau h91 ed oM hU hS hw hk hr hs
    | none =>
     rcases gU hk h91 hr with e | e | e
     ·rw [e] at hr ⊢;exact aaq ed oM hr hs
     ·rw [e] at hr ⊢;exact aan ed oM hr hs
     ·rw [e] at hr ⊢;exact aas ed oM hr hs
theorem u5 {v : V} {c : VC} (h : V.rep G v c) (ht : v.tot ≤ 1000000) : aI abt 97 [Ag (bE c)] G (· = Bo (decide (v.out.length ≤ 400 ∧ v.deep ≤ 12))):=by
 have cx_pr:=kq (G:=G) v.tot (Nat.le_refl _) ht h
 have cx_dp:=u7 (G:=G) v.tot (Nat.le_refl _) ht h
 have hdl:=nf v
 obtain ⟨w,tx,tg,a,m,kc⟩:=c
 have e0 : bE ⟨w,tx,tg,a,m,kc⟩ = [U8 (w : Nat),S tx,I tg,.slice a m kc]:=rfl
 rw [e0] at cx_pr cx_dp ⊢
 by_cases h1 : v.out.length ≤ 400
 ·by_cases h2 : v.deep ≤ 12
  ·rw [decide_eq_true (p:=v.out.length ≤ 400 ∧ v.deep ≤ 12) ⟨h1,h2⟩]
   refine jE [(0,_)] Tryz.func97 Tryz.ntmps97 fun B hB=>?_
   repeat' (first | refine jR ?_ | (refine jo ?_;first | refine jO fun _=>?_ | refine aK F ?_ | refine aP F ?_ | refine ad F F F cx_pr F ?_ | refine ad F F F cx_dp F ?_) | refine aO F F (aC oM) ?_)
   all_goals refine jY (vs:=[_]) ?_
   all_goals (rw [aE,decide_eq_true oM])
  ·rw [decide_eq_false (p:=v.out.length ≤ 400 ∧ v.deep ≤ 12) (fun h=>h2 h.2)]
   refine jE [(0,_)] Tryz.func97 Tryz.ntmps97 fun B hB=>?_
   repeat' (first | refine jR ?_ | (refine jo ?_;first | refine jO fun _=>?_ | refine aK F ?_ | refine aP F ?_ | refine ad F F F cx_pr F ?_ | refine ad F F F cx_dp F ?_) | refine aO F F (aC oM) ?_)
   all_goals refine jY (vs:=[_]) ?_
   all_goals (rw [aE,decide_eq_false oM])
 ·rw [decide_eq_false (p:=v.out.length ≤ 400 ∧ v.deep ≤ 12) (fun h=>h1 h.1)]
  refine jE [(0,_)] Tryz.func97 Tryz.ntmps97 fun B hB=>?_
  repeat' (first | refine jR ?_ | (refine jo ?_;first | refine jO fun _=>?_ | refine aK F ?_ | refine aH F ?_ | refine ad F F F cx_pr F ?_) | refine aD F F (aF oM) ?_)
  all_goals refine jY (vs:=[_]) ?_
  all_goals rfl
theorem wg {sc : Nat} {qs : List b8} {k b : abu} (hS : ScI G sc qs) (hw : SchW (ag qs)) (hk : aJ (ag qs) k = true) (hb : b.length ≤ 1048576) (hno : ¬ (b.length ≤ 600 ∧ ∃ v,db (rb (ag qs) 13) k b = some v ∧ v.out.length ≤ 400 ∧ v.deep ≤ 12)) :
  ci abt 58 [Pt sc 0,Ag [S (sg k),S (bs k),S (nm k)],S b] G (fun v _=>∃ a n c,v = Tu [Ag [U8 (0 : Nat),S [],I 0,aA],.slice a n c,Bo false]):=by
 by_cases hl : b.length ≤ 600
 case neg =>
  refine jB [(0,_),(1,_),(2,_)] Tryz.func58 Tryz.ntmps58 fun B hok hB hW=>?_
  repeat' (first | refine jR ?_ | (refine jo ?_;first | refine jO fun _=>?_ | refine jL fun _=>?_ | refine jV (am F F) ?_ | refine jC F F F ?_) | refine ae F (aC oM) ?_)
  all_goals refine jZ (vs:=[_,_,_]) F ⟨aw F F F F,F,F,trivial⟩ F ⟨Gh.le.refl _,F,?_⟩
  all_goals exact ⟨_,_,_,F⟩
 refine jB [(0,_),(1,_),(2,_)] Tryz.func58 Tryz.ntmps58 fun B hok hB hW=>?_
 repeat' (first | refine jR ?_ | (refine jo ?_;first | refine jO fun _=>?_ | refine jL fun _=>?_ | refine jV (am F F) ?_ | refine aK F ?_) | refine af F (aF oM) ?_)
 rename_i x4 x6 y
 have hv:=oC (sc:=sc) hw 13 (Nat.le_refl _) G y k b false hS hk oM
 rw [show (13 : Int) - ((13 : Nat) : Int) = 0 from rfl] at hv
 refine jo ?_
 refine da F F F hv F ?_
 rintro _ G1 _ hle ⟨u1,c1,t1,b1,a1,n1,k1,rfl,hrep,rfl,hsk,hP⟩
 dsimp only [zA,fA]
 obtain ⟨hQ1,hQ2,hQ3⟩:=ke hP
 clear hv hP
 cases b1 with
 | true =>
  repeat' (first | refine jR ?_ | (refine jo ?_;first | refine jL fun _=>?_ | refine jV (am F F) ?_ | refine jC F F F ?_ | refine ah F ?_ | refine aP F ?_) | refine aO F F F ?_ | refine ae F F ?_)
  all_goals refine jZ (vs:=[_,_,_]) F ⟨aw F F F F,F,F,trivial⟩ F ⟨hle,F,?_⟩
  all_goals exact ⟨_,_,_,F⟩
 | false =>
  obtain ⟨h1,h2,h3⟩:=hQ2 rfl
  cases t1 with
  | cons e t1 =>
   repeat' (first | refine jR ?_ | (refine jo ?_;first | refine jL fun _=>?_ | refine jV (am F F) ?_ | refine jC F F F ?_ | refine ah F ?_ | refine aP F ?_ | refine aH F ?_) | refine aO F F F ?_ | refine aD F F F ?_ | refine ae F F ?_)
   all_goals refine jZ (vs:=[_,_,_]) F ⟨aw F F F F,F,F,trivial⟩ F ⟨hle,F,?_⟩
   all_goals exact ⟨_,_,_,F⟩
  | nil =>
   simp only [List.length_nil] at h2
   have hnf : ¬ (u1.out.length ≤ 400 ∧ u1.deep ≤ 12):=fun h=>hno ⟨hl,u1,iG h1,h⟩
   have cx_fit:=u5 hrep oM
   rw [decide_eq_false hnf] at cx_fit
   simp only [bE,VC.sl] at cx_fit
   dsimp only [bE,VC.sl]
   repeat' (first | refine jR ?_ | (refine jo ?_;first | refine jL fun _=>?_ | refine jV (am F F) ?_ | refine jC F F F ?_ | refine ah F ?_ | refine aK F ?_ | refine aH F ?_ | refine ad F F F cx_fit F ?_) | refine aD F F F ?_ | refine ae F F ?_)
   all_goals refine jZ (vs:=[_,_,_]) F ⟨aw F F F F,F,F,trivial⟩ F ⟨hle,F,?_⟩
   all_goals exact ⟨_,_,_,F⟩
theorem we {sc : Nat} {qs : List b8} {k b : abu} {v : V} (hS : ScI G sc qs) (hw : SchW (ag qs)) (hk : aJ (ag qs) k = true) (hl : b.length ≤ 600) (hv : db (rb (ag qs) 13) k b = some v) (ho : v.out.length ≤ 400) (hd : v.deep ≤ 12) :
  ci abt 58 [Pt sc 0,Ag [S (sg k),S (bs k),S (nm k)],S b] G (fun r G'=>∃ c a n k',r = Tu [Ag (bE c),.slice a n k',Bo true] ∧ V.rep G' v c):=by
 have hin:=f5 hv
 refine jB [(0,_),(1,_),(2,_)] Tryz.func58 Tryz.ntmps58 fun B hok hB hW=>?_
 repeat' (first | refine jR ?_ | (refine jo ?_;first | refine jO fun _=>?_ | refine jL fun _=>?_ | refine jV (am F F) ?_ | refine aK F ?_) | refine af F (aF oM) ?_)
 rename_i x4 x6 y
 have hv2:=oC (sc:=sc) hw 13 (Nat.le_refl _) G y k b false hS hk oM
 rw [show (13 : Int) - ((13 : Nat) : Int) = 0 from rfl] at hv2
 refine jo ?_
 refine da F F F hv2 F ?_
 rintro _ G1 _ hle ⟨u1,c1,t1,b1,a1,n1,k1,rfl,hrep,rfl,hsk,hP⟩
 dsimp only [zA,fA]
 obtain ⟨hQ1,hQ2,hQ3⟩:=ke hP
 clear hv2 hP
 cases b1 with
 | true=>have:=hQ3 rfl;rw [hin] at this;cases this
 | false =>
  obtain ⟨h1,h2,h3⟩:=hQ2 rfl
  rw [hin] at h1
  simp only [Option.some.injEq,Prod.mk.injEq] at h1
  obtain ⟨rfl,rfl⟩:=h1
  simp only [List.length_nil] at h2
  have cx_fit:=u5 hrep oM
  rw [decide_eq_true ⟨ho,hd⟩] at cx_fit
  simp only [bE,VC.sl] at cx_fit
  dsimp only [bE,VC.sl]
  repeat' (first | refine jR ?_ | (refine jo ?_;first | refine jL fun _=>?_ | refine jC F F F ?_ | refine ah F ?_ | refine aK F ?_ | refine aH F ?_ | refine ad F F F cx_fit F ?_) | refine aD F F F ?_ | refine af F F ?_ | (refine ak (dq (id:=7) (tt:=6) F aj ?_);refine jW 5 [1,2,3] (aa 8 14) ?_;(refine jG (aa 8 15) 0 F (bC F F F F) ?_);(refine jG (aa 8 31) 4 F (an F F F) ?_);refine jA 5 F ?_;(refine jC F F F ?_);refine jK (aa 8 63) ?_;refine jW 0 [6,7] (aa 8 255) ?_;refine jQ ?_))
  all_goals refine jZ (vs:=[_,_,_]) F ⟨aw F F F F,F,F,trivial⟩ F ⟨hle,F,?_⟩
  all_goals exact ⟨c1,_,_,_,F,hrep⟩
theorem yB {s k b : abu} (h : a9 s k = false) : iJ s k b = none:=by
 unfold iJ
 unfold a9 at h
 cases hs : ax s with
 | none=>rfl
 | some ts=>rw [hs] at h;dsimp only at h ⊢;rw [if_neg (by rw [h];simp)]
theorem rI {s k b : abu} (h : s.length ≤ 1048576 ∧ k.length ≤ 1048576 ∧ b.length ≤ 1048576) : aI abt 25 [S s,S k,S b] G (· = wz ((iJ s k b).map V.out)):=by
 by_cases hk : a9 s k = true
 case neg =>
  have hk2 : a9 s k = false:=by simpa using hk
  have cx_bo1 : ∀ G,ci abt 52 [S s,S k] G (fun v _=>∃ p a b c,v = Tu [p,Ag [S a,S b,S c],Bo false]):=fun G=>by
   refine (eP (G:=G) (s:=s) (k:=k) oM oM).mono ?_
   rintro v G' L' ⟨h1,h2,⟨h4,p,a,b,c,rfl⟩ | ⟨b,qs,rfl,h4,h5,h6⟩⟩
   ·exact ⟨h1,h2,p,a,b,c,F⟩
   ·unfold a9 at hk;rw [h4] at hk;exact absurd h5 hk
  rw [yB hk2]
  refine jB (Post:=fun v G' L'=>G' = G ∧ L' = [] ∧ _) [(0,_),(1,_),(2,_)] Tryz.func25 Tryz.ntmps25 fun B hok hB hW=>?_
  repeat' (first | refine jR ?_ | (refine jo ?_;first | refine jL fun _=>?_ | refine jC F F F ?_ | (refine aM F F F (cx_bo1 _) F ?_;rintro _ G hle ⟨p1,a1,b1,c1,rfl⟩;skip)) | refine ae F F ?_)
  all_goals refine Nx.base hok hB ?_
  all_goals refine jY (vs:=[_,_]) ?_
  all_goals rfl
 case pos =>
  obtain ⟨ts,hs,hki⟩ : ∃ ts,ax s = some ts ∧ aJ ts k = true:=by
   unfold a9 at hk
   cases hs : ax s with
   | none=>rw [hs] at hk;cases hk
   | some ts=>rw [hs] at hk;exact ⟨ts,F,hk⟩
  have hw:=co hs
  have cx_boa : ∀ G,ci abt 52 [S s,S k] G (fun v G'=>∃ b qs,v = Tu [Pt b 0,Ag [S (sg k),S (bs k),S (nm k)],Bo true] ∧ ag qs = ts ∧ ScI G' b qs):=fun G=>by
   refine (eP (G:=G) (s:=s) (k:=k) oM oM).mono ?_
   rintro v G' L' ⟨h1,h2,⟨h4,_⟩ | ⟨b,qs,rfl,h4,h5,h6⟩⟩
   ·rw [h4] at hk;cases hk
   ·rw [hs] at h4;exact ⟨h1,h2,b,qs,F,(Option.some.inj h4).symm,h6⟩
  cases hg : iJ s k b with
  | none =>
   refine jB (Post:=fun v G' L'=>G' = G ∧ L' = [] ∧ _) [(0,_),(1,_),(2,_)] Tryz.func25 Tryz.ntmps25 fun B hok hB hW=>?_
   repeat' (first | refine jR ?_ | (refine jo ?_;first | refine jL fun _=>?_ | refine jC F F F ?_ | refine aK F ?_ | (refine aM F F F (cx_boa _) F ?_;rintro _ G hle ⟨ba,qa,rfl,hT1,hR1⟩;skip)) | refine af F F ?_)
   subst hT1
   have cx_fb0:=wg (G:=G) (b:=b) hR1 hw hki oM (fun h=>by
    obtain ⟨a1,v,a2,a3⟩:=h
    unfold iJ at hg
    rw [hs] at hg
    dsimp only at hg
    rw [if_pos ⟨hki,a1⟩,a2] at hg
    dsimp only at hg
    rw [if_pos a3] at hg
    cases hg)
   repeat' (first | refine jR ?_ | (refine jo ?_;first | refine jL fun _=>?_ | refine jC F F F ?_ | (refine aM F F F cx_fb0 F ?_;rintro _ G hle ⟨za,zn,zk,rfl⟩;skip)) | refine ae F F ?_)
   all_goals refine Nx.base hok hB ?_
   all_goals refine jY (vs:=[_,_]) ?_
   all_goals rfl
  | some v =>
   obtain ⟨ts',hs',_,hl,hr,ho,hd⟩:=xg hg
   obtain rfl : ts = ts':=by rw [hs] at hs';exact Option.some.inj hs'
   have htot:=qd _ _ _ _ _ (f5 hr)
   simp only [List.length_nil] at htot
   refine jB (Post:=fun v G' L'=>G' = G ∧ L' = [] ∧ _) [(0,_),(1,_),(2,_)] Tryz.func25 Tryz.ntmps25 fun B hok hB hW=>?_
   repeat' (first | refine jR ?_ | (refine jo ?_;first | refine jL fun _=>?_ | refine jC F F F ?_ | refine aK F ?_ | (refine aM F F F (cx_boa _) F ?_;rintro _ G hle ⟨ba,qa,rfl,hT1,hR1⟩;skip)) | refine af F F ?_)
   subst hT1
   have cx_fb1:=we (G:=G) (b:=b) hR1 hw hki hl hr ho hd
   clear hr
   unfold wz
   dsimp only [Option.map,Option.getD,Option.isSome]
   repeat' (first | refine jR ?_ | (refine jo ?_;first | refine jL fun _=>?_ | refine jC F F F ?_ | refine aK F ?_ | (refine aM F F F cx_fb1 F ?_;rintro _ G hle ⟨c1,za,zn,zk,rfl,hrep⟩;skip)) | refine af F F ?_)
   have cx_pr:=kq (G:=G) v.tot (Nat.le_refl _) oM hrep
   simp only [bE,VC.sl] at cx_pr
   generalize v.out = vo at cx_pr ⊢
   repeat' (first | refine jR ?_ | (refine jo ?_;refine ad F F F cx_pr F ?_))
   all_goals refine Nx.base hok hB ?_
   all_goals refine jY (vs:=[_,_]) ?_
   all_goals rfl
--?s0
open Go.Proofs
variable {G : Gh}
theorem l6 {v : Value} {l : abu} (hs : bh G v 1 l.length (bB l)) : ci abt 19 [v] G (fun r G'=>∃ s a ms c s2 a2 ns c2,r = Tu [Ag [S s,.slice a (ms : List Mt).length c],Ag [S s2,.slice a2 (ns : List Mt).length c2]] ∧ bh G' (.slice a ms.length c) 3 ms.length (ao f6 ms) ∧ bh G' (.slice a2 ns.length c2) 3 ns.length (ao f6 ns) ∧ ((s.length ≤ 1048576 ∧ ms.length ≤ 1048576) ∧ (s2.length ≤ 1048576 ∧ ns.length ≤ 1048576) ∧ (∀ x ∈ ms,kx x) ∧ ∀ x ∈ ns,kx x)):=by
 refine jB [(0,_)] Tryz.func19 Tryz.ntmps19 fun B hok hB hW=>?_
 repeat' (first | refine jR ?_ | (refine jo ?_;first | refine jL fun _=>?_ | refine jD F F F ?_ | refine jC F F F ?_ | refine ah F ?_ | refine jV (am F F) ?_ | (refine ep F F F (v8 (by (repeat (assumption));done)) rfl ?_;rintro _ _ ⟨b,code,l,rfl,rfl,hcd,hcl⟩;dsimp only [zA,fA]) | (refine da F F F (lY ?_ (by (repeat (assumption));done)) rfl ?_;(focus omega);rintro _ G1 _ hle ⟨sv,a1,ms,ca,q1,rfl,hsl1,hb1,rfl,hq1,hq2⟩;dsimp only [zA,fA];skip) | (refine da F F F (tM ?_ (by (repeat (first | assumption | refine bh.mono ?_ aS));done)) rfl ?_;(focus omega);rintro _ G1 _ hle ⟨o1,o2,o3,o4,q1,rfl,hol,rfl,hq1,hq2⟩;dsimp only [zA,fA];skip) | (refine ai F F F (cQ ?_ (by (repeat (first | assumption | refine bh.mono ?_ aS));done)) rfl ?_;(focus omega);rintro _ _ ⟨k,rfl,rfl,hk0,hk1⟩;dsimp only [zA,fA])) | refine cJ F (fun _=>?_) (fun _=>?_))
 ·rename_i x2 x3 Ga hla qa hqa hqb x5 h0 x10
  refine Nx.sealC (b:=x10) fun G2 l2 s10=>?_
  refine Nx.sealC (b:=x5) fun G3 l3 s5=>?_
  have s10:=s10.mono l3
  have hsl0:=((hsl1.mono hle).mono l2).mono l3
  have hlb:=((hla.trans hle).trans l2).trans l3
  (refine ak (ar (id:=7) [] (fun _ h=>absurd h (by simp)) aj ?_);(refine jG (aa 4 1) 0 F (mn F F aS F F) ?_);(refine jG (aa 4 3) 1 F (mn F F aS F F) ?_);refine jA 2 F ?_;(refine jC F F F ?_);refine jK (aa 4 7) ?_;refine jA 3 F ?_;(refine jC F F F ?_);refine jK (aa 4 15) ?_;refine jQ ?_)
  all_goals repeat' (refine jR ?_)
  all_goals exact jZ (vs:=[_,_]) F ⟨aw F F F F,aw F F F F,trivial⟩ F ⟨hlb,F,_,_,_,_,_,_,_,_,F,hsl0,hsl0,⟨⟨oM,oM⟩,⟨oM,oM⟩,hb1.2.2,hb1.2.2⟩⟩
 ·rename_i x2 x3 Ga hla qa hqa hqb x5 h0
  refine Nx.sealC (b:=x5) fun G3 l3 s5=>?_
  have hsl0:=(hsl1.mono hle).mono l3
  have hb0:=hb1
  have hlb:=(hla.trans hle).trans l3
  have hcd:=((hcd.mono hla).mono hle).mono l3
  (refine ak (ar (id:=8) [] (fun _ h=>absurd h (by simp)) aj ?_);refine jW 4 [1] (aa 5 2) ?_;(refine jG (aa 5 3) 0 F (mn F F aS F F) ?_);refine jA 2 F ?_;((refine da F F F (lY ?_ (by (repeat (assumption));done)) rfl ?_;(focus omega);rintro _ G1 _ hle ⟨sv,a1,ms,ca,q1,rfl,hsl1,hb1,rfl,hq1,hq2⟩;dsimp only [zA,fA];skip));refine jK (aa 5 7) ?_;refine jA 3 F ?_;(refine jC F F F ?_);refine jK (aa 5 15) ?_;refine jA 4 F ?_;(refine jC F F F ?_);refine jK (aa 5 31) ?_;refine jQ ?_)
  all_goals repeat' (refine jR ?_)
  all_goals exact jZ (vs:=[_,_]) F ⟨aw F F F F,aw F F F F,trivial⟩ F ⟨hlb.trans hle,F,_,_,_,_,_,_,_,_,F,hsl0.mono hle,hsl1,⟨⟨oM,oM⟩,⟨oM,oM⟩,hb0.2.2,hb1.2.2⟩⟩
theorem ui {r l x : abu} (hx : ec r l = some x) : ∃ u : V,iP r l u.bys = some u ∧ fM r l x = some u.bys ∧ u.out = x ∧ x.length ≤ 400:=by
 obtain ⟨us,u,i1,i2,i3,i4,i5,i6,i7⟩:=kD hx
 have hb:=pY i4 oM
 have hc:=lW i1 i2 i3 i6 (by rw [i5];exact i7) oM
 have hp:=pE hc
 rw [i5] at hp
 exact ⟨u,hc,hp,i5,i7⟩
theorem uj {s k r l x : abu} (h : bY s k r l = true) (hx : ec r l = some x) : ∃ u : V,fM r l x = some u.bys ∧ iJ s k u.bys = some u ∧ u.out = x:=by
 obtain ⟨us,u,i1,i2,i3,i4,i5,i6,i7⟩:=kD hx
 obtain ⟨ts,m,j1,j2,j3,j4,_⟩:=qJ h i1 i3 i4
 have hb:=pY i4 oM
 have hc:=lW i1 i2 i3 i6 (by rw [i5];exact i7) oM
 have hp:=pE hc
 rw [i5] at hp
 exact ⟨u,hp,tL (lW j1 j2 j4 i6 (by rw [i5];exact i7) oM),i5⟩
abbrev sT : TypeId:=25
theorem mt {v : Value} {l : abu} (hs : bh G v 1 l.length (bB l)) : aI abt 7 [v] G (· = Bo true):=by
 obtain ⟨a,cap,rfl⟩:=hs.sl
 refine jB (Post:=fun v G' L'=>G' = G ∧ L' = [] ∧ _) [(0,_)] Tryz.func7 Tryz.ntmps7 fun B hok hB hW=>?_
 repeat' (first | refine jR ?_ | (refine jo ?_;refine jV (aq F) ?_) | refine cJ F (fun _=>?_) (fun _=>?_))
 ·refine Nx.base hok hB ?_
  refine jY (vs:=[_]) ?_
  rfl
 refine jo ?_
 refine aM F F F (l6 hs) F ?_
 rintro _ G hle ⟨s1,a1,ms,ca,s2,a2,ns,cb,rfl,hsl1,hsl2,hsz⟩
 obtain ⟨⟨z1,z2⟩,⟨z3,z4⟩,hms,hns⟩:=id hsz
 cases hsv : dN s1 ms s2 ns with
 | false =>
  have cx_sr1:=eY hsz hsl1 hsl2
  have cx_sr2:=eX hsz hsl1 hsl2
  rw [hsv] at cx_sr1 cx_sr2
  repeat' (first | refine jR ?_ | (refine jo ?_;first | refine jL fun _=>?_ | refine jC F F F ?_ | refine aK F ?_ | refine aH F ?_ | (refine ad F F F (eY ?_ (by (repeat (assumption));done) (by (repeat (assumption));done)) rfl ?_;(focus ((assumption);done))) | (refine ad F F F (eX ?_ (by (repeat (assumption));done) (by (repeat (assumption));done)) rfl ?_;(focus ((assumption);done)))) | (refine aD F F ?_ ?_;(focus ((simp [*];done);done))) | (refine ae F ?_ ?_;(focus ((simp [*];done);done))))
  all_goals refine Nx.base hok hB ?_
  all_goals refine jY (vs:=[_]) ?_
  all_goals (rw [hsv];rfl)
 | true =>
 obtain ⟨_,sok,_⟩:=o8 hsv
 have cx_sr1:=eY hsz hsl1 hsl2
 have cx_sr2:=eX hsz hsl1 hsl2
 rw [hsv] at cx_sr1 cx_sr2
 repeat' (first | refine jR ?_ | (refine jo ?_;first | refine jL fun _=>?_ | refine jC F F F ?_ | refine aK F ?_ | refine aH F ?_ | (refine ad F F F (eY ?_ (by (repeat (assumption));done) (by (repeat (assumption));done)) rfl ?_;(focus ((assumption);done))) | (refine ad F F F (eX ?_ (by (repeat (assumption));done) (by (repeat (assumption));done)) rfl ?_;(focus ((assumption);done)))) | (refine aD F F ?_ ?_;(focus ((simp [*];done);done))) | (refine af F ?_ ?_;(focus ((simp [*];done);done))))
 rename_i x3 x4
 refine aU (ι:=Nat) (fun i=>i ≤ ns.length) (fun i=>[(3,Pt x3 0),(4,Pt x4 0),(6,I i)]) (fun _=>G) (fun i=>[.blk x4 (.cells (List.toArray [S s2,.slice a2 ns.length cb]) sT (0,0)),.blk x3 (.cells (List.toArray [S s1,.slice a1 ms.length ca]) sT (0,0))]) (fun i=>ns.length - i) 0 ?_ tU F a6 (fun i Hi=>?_)
 ·exact Nat.zero_le _
 by_cases hi : i < ns.length
 case neg =>
  repeat' (first | refine jR ?_ | (refine jo ?_;first | refine jV (aq F) ?_ | refine ah F ?_) | refine af F (aF oM) ?_)
  all_goals refine Nx.base hok hB ?_
  all_goals refine jY (vs:=[_]) ?_
  all_goals rfl
 obtain ⟨x,hx⟩:=ue sok hi
 obtain ⟨bb,ob,cb',e,sb⟩:=hsl2.expl oM
 simp only [Value.slice.injEq] at e
 obtain ⟨rfl,-,rfl⟩:=e
 have hxo:=hns _ (a7 hi)
 have cx_st:=oo (G:=G) (s:=s2) (k:=(ac ns i).2.1) ⟨z3,hxo.2.1⟩
 unfold p5 at cx_st
 rw [hx] at cx_st
 simp only [Option.getD_some,Option.isSome_some] at cx_st
 obtain ⟨u,hcu,hpu,hou,hxl⟩:=ui hx
 have hbl:=tS hpu
 have cx_bp1:=rH (G:=G) (s:=s2) (k:=(ac ns i).2.1) (w:=x) ⟨z3,hxo.2.1,oM⟩
 rw [hpu] at cx_bp1
 simp only [Option.getD_some,Option.isSome_some] at cx_bp1
 repeat' (first | refine jR ?_ | (refine jo ?_;first | refine jV (aq F) ?_ | refine ah F ?_) | refine ae F (aC oM) ?_)
 refine aU (ι:=Nat) (fun k=>k ≤ ms.length) (fun k=>[(3,Pt x3 0),(4,Pt x4 0),(6,I i),(7,I k)]) (fun _=>G) (fun k=>[.blk x4 (.cells (List.toArray [S s2,.slice (some ⟨bb,ob,none⟩) ns.length cb]) sT (0,0)),.blk x3 (.cells (List.toArray [S s1,.slice a1 ms.length ca]) sT (0,0))]) (fun k=>ms.length - k) 0 ?_ tU F a6 (fun k Hk=>?_)
 ·exact Nat.zero_le _
 by_cases hk : k < ms.length
 case neg =>
  repeat' (first | refine jM ?_ | (refine jo ?_;first | refine jV (aq F) ?_ | refine ah F ?_) | refine af F (aF oM) ?_)
  refine Nx.re (d:=6) (v':=I (i + 1 : Nat)) F (congrArg (Value.int .i64) oM) ?_
  exact aT (i + 1) oM oM tU F a6
 obtain ⟨bm,om,cm,e,sm⟩:=hsl1.expl oM
 simp only [Value.slice.injEq] at e
 obtain ⟨rfl,-,rfl⟩:=e
 have hxm:=hms _ (a7 hk)
 have cx_bg1:=rI (G:=G) (s:=s1) (k:=(ac ms k).2.1) (b:=u.bys) ⟨z1,hxm.2.1,oM⟩
 have cx_el:=pO (G:=G) (s:=s1) (k:=(ac ms k).2.1) (r:=s2) (l:=(ac ns i).2.1) (x:=x) z1 hxm.2.1 z3 hxo.2.1 hx
 unfold wz at cx_bg1 cx_el
 by_cases he : (ac ms k).1 = (ac ns i).1
 ·have hr:=uf hsv hi hk he
  obtain ⟨u2,hp2,hg2,ho2⟩:=uj hr hx
  rw [hpu] at hp2
  have hp2:=Option.some.inj hp2
  rw [hp2,hg2] at cx_bg1
  rw [if_pos hr] at cx_el
  simp only [Option.map_some,Option.getD_some,Option.isSome_some] at cx_bg1 cx_el
  rw [ho2,← hp2] at cx_bg1
  clear hcu hpu hp2 hg2
  generalize u.bys = ub at *
  have he2:=he.symm
  repeat' (first | refine jM ?_ | (refine jo ?_;first | refine jV (aq F) ?_ | refine jL fun _=>?_ | refine jC F F F ?_ | refine ah F ?_ | (refine jV (bz F F aS ?_) ?_;focus omega) | refine aP F ?_ | refine aH F ?_ | refine jV (al F F oM) ?_ | refine ad F F F cx_st F ?_ | refine ad F F F cx_bp1 F ?_ | refine ad F F F cx_bg1 F ?_ | refine ad F F F cx_el F ?_) | refine aO F F (aC ‹_›) ?_ | refine aD F F F ?_ | refine ae F (aC oM) ?_ | (refine af F ?_ ?_;(focus ((simp [*];done);done))))
  refine Nx.re (d:=7) (v':=I (k + 1 : Nat)) F (congrArg (Value.int .i64) oM) ?_
  exact aT (k + 1) oM oM tU F sB
 ·have he2 : ¬ (ac ns i).1 = (ac ms k).1:=fun h=>he h.symm
  generalize (iJ s1 (ac ms k).2.1 u.bys).map V.out = o1 at cx_bg1
  generalize (if bY s1 (ac ms k).2.1 s2 (ac ns i).2.1 = true then some x else none) = o2 at cx_el
  clear hcu hpu
  generalize u.bys = ub at *
  generalize o1.getD [] = d1 at cx_bg1
  generalize o1.isSome = f1 at cx_bg1
  generalize o2.getD [] = d2 at cx_el
  generalize o2.isSome = f2 at cx_el
  repeat' (first | refine jM ?_ | (refine jo ?_;first | refine jV (aq F) ?_ | refine jL fun _=>?_ | refine jC F F F ?_ | refine ah F ?_ | (refine jV (bz F F aS ?_) ?_;focus omega) | refine aH F ?_ | refine jV (al F F oM) ?_ | refine ad F F F cx_st F ?_ | refine ad F F F cx_bp1 F ?_ | refine ad F F F cx_bg1 F ?_ | refine ad F F F cx_el F ?_) | refine aD F F (aF ‹_›) ?_ | refine ae F (aC oM) ?_ | refine af F F ?_)
  refine Nx.re (d:=7) (v':=I (k + 1 : Nat)) F (congrArg (Value.int .i64) oM) ?_
  exact aT (k + 1) oM oM tU F sB
end Go.E
