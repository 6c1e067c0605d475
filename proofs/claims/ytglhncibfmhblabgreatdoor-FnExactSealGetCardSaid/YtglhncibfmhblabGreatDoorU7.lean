/- Contracts and plain laws that the statement rests on, part 7. Conditions: as each says. -/
import Derived.Test.YtglhncibfmhblabGreatDoorU6
set_option linter.unusedVariables false
set_option linter.unusedSimpArgs false
namespace Go.E
set_option maxRecDepth 20000
set_option maxHeartbeats 2000000
open Go.Proofs
variable {G : Gh}
theorem ab3 {n r sc : Nat} {qs : List co} {k s : ac1} {d : Int} (hd : d = 12 - (n : Int)) (hn : n ≤ 12) (hU : rg n sc qs) (hS : ScI G sc qs) (hk : aE (ag qs) (91 :: k) = true) (hs : s.length ≤ 1000) :
  dw ac0 93 [Pt r 0,Ag (cS (91 :: k))] G [bL r sc s false none 0 0 d] (kz (rb (ag qs) (n + 1) (91 :: k)) r sc s false d):=by
 have hk2:=dP (.inl rfl) hk
 obtain ⟨e1,e2,e3,_⟩:=gA (c:=91) (k:=k) (.inl rfl)
 have hrd:=vr (ts:=ag qs) (n:=n) (k:=k) (s:=s)
 unfold cS
 rw [e1,e2,e3]
 have cx_sign:=@gQ G 91 (sg k) (bs k) (nm k)
 have cx_ptA : ∀ G,aC ac0 124 [Ag [S (91 :: sg k),S (bs k),S (nm k)]] G (· = Ag [S (sg k),S (bs k),S (nm k)]):=fun G=>@kY G 91 (sg k) (bs k) (nm k)
 cases hg : bm s with
 | none =>
  rw [hg] at hrd
  have cx_nb:=f9 (G:=G) (r:=r) (sc:=sc) (m:=0) (c:=0) (b:=false) (a:=none) (d:=d + 1) hg hs
  refine cr [(0,_),(1,_)] Tryz.func93 kR Tryz.ntmps93 F F tU fun B hok hB hW=>?_
  repeat' (first | refine jM ?_ | (refine jo ?_;first | refine jO fun _=>?_ | refine jL fun _=>?_ | refine ak F ?_ | refine jD F F F ?_ | refine jV (df F F) ?_))
  rename_i x2 x3 x4
  refine jo ?_
  refine ct (fi:=[]) (ca:=[Pt x2 0]) (az:=[]) F F ?_
  repeat' (first | refine jR ?_ | (refine jo ?_;first | refine jL fun _=>?_ | refine ak F ?_ | refine aN F ?_ | refine jC F F F ?_ | refine jV (an F F) ?_ | refine ab F F F cx_sign F ?_ | (refine aq F F F cx_nb F ?_;rintro _ _ ⟨rfl,rfl⟩;dsimp only [zA,fA])) | refine ac F F ?_ | (refine ad F (by first | rfl | (refine decide_eq_false ?_;(omega))) ?_))
  rename_i x5
  refine aR (ι:=Unit) (fun j=>True) (fun j=>[(2,Pt x2 0),(3,Pt x3 0),(4,Pt x4 0),(5,I 0),(6,Pt x5 0),(7,I 0)]) (fun _=>G) (fun j=>[.blk x5 (.cells (List.toArray [U8 91,S [],I 0,aJ]) md (0,0)),bL r sc [] true none 0 0 (d + 1),.blk x4 (.cells (List.toArray [U8 (0 : Nat),S [],I 0,aJ]) md (0,0)),.blk x3 (.cells (List.toArray [S (91 :: sg k),S (bs k),S (nm k)]) rv (0,0)),.blk x2 (.cells (List.toArray [Pt r 0]) fI (0,0))]) (fun j=>0) () ?_ tU F aW (fun j Hj=>?_)
  ·trivial
  repeat' (first | refine jR ?_ | (refine jo ?_;first | refine aN F ?_ | refine jC F F F ?_ | refine aw F ?_) | refine aj F F F ?_ | refine ad F F ?_)
  all_goals
   refine da (.inl F) F (cK (x0:=x2) (r:=r) (sc:=sc) (s:=[]) (b:=true) (a:=none) (n:=0) (c:=0) (d:=d + 1) oM) F ?_
   rintro v G' L' ⟨rfl,rfl⟩
   dsimp only [zA,fA]
   exact ⟨[_],[bL r sc [] true none 0 0 (d + 1 - 1)],⟨av F F F F,trivial⟩,sB,Gh.le.refl _,cI (c:=⟨91,[],0,none,0,0⟩) (bq dC dC) oM (fun _=>⟨F,F,F⟩) ⟨by simp,fun h=>(by cases h),fun _=>.inr hrd⟩⟩
 | some z =>
  obtain ⟨m,q⟩:=z
  obtain ⟨h1,h2,_⟩:=cF hg
  have hl:=bU hg
  rw [hg] at hrd
  dsimp only at hrd
  have cx_nb:=eA (G:=G) (r:=r) (sc:=sc) (m:=0) (c:=0) (b:=false) (a:=none) (d:=d + 1) hg hs
  by_cases h20 : m ≤ 20
  case neg =>
   rw [if_neg h20] at hrd
   refine cr [(0,_),(1,_)] Tryz.func93 kR Tryz.ntmps93 F F tU fun B hok hB hW=>?_
   repeat' (first | refine jM ?_ | (refine jo ?_;first | refine jO fun _=>?_ | refine jL fun _=>?_ | refine ak F ?_ | refine jD F F F ?_ | refine jV (df F F) ?_))
   rename_i x2 x3 x4
   refine jo ?_
   refine ct (fi:=[]) (ca:=[Pt x2 0]) (az:=[]) F F ?_
   repeat' (first | refine jR ?_ | (refine jo ?_;first | refine jL fun _=>?_ | refine ak F ?_ | refine aN F ?_ | refine jD F F F ?_ | refine jC F F F ?_ | refine jV (an F F) ?_ | refine ab F F F cx_sign F ?_ | (refine aq F F F cx_nb F ?_;rintro _ _ ⟨rfl,rfl⟩;dsimp only [zA,fA])) | (refine ac F (by first | rfl | (refine decide_eq_true ?_;(omega))) ?_) | (refine ad F (by first | rfl | (refine decide_eq_false ?_;(omega))) ?_))
   rename_i x5
   refine aR (ι:=Unit) (fun j=>True) (fun j=>[(2,Pt x2 0),(3,Pt x3 0),(4,Pt x4 0),(5,I m),(6,Pt x5 0),(7,I 0)]) (fun _=>G) (fun j=>[.blk x5 (.cells (List.toArray [U8 91,S [],I 0,aJ]) md (0,0)),bL r sc q true none 0 0 (d + 1),.blk x4 (.cells (List.toArray [U8 (0 : Nat),S [],I 0,aJ]) md (0,0)),.blk x3 (.cells (List.toArray [S (91 :: sg k),S (bs k),S (nm k)]) rv (0,0)),.blk x2 (.cells (List.toArray [Pt r 0]) fI (0,0))]) (fun j=>0) () ?_ tU F aW (fun j Hj=>?_)
   ·trivial
   repeat' (first | refine jR ?_ | (refine jo ?_;first | refine ak F ?_ | refine aN F ?_ | refine jC F F F ?_ | refine aH F ?_) | refine ax F F (ar oM) ?_ | refine ad F F ?_)
   all_goals
    refine da (.inl F) F (cK (x0:=x2) (r:=r) (sc:=sc) (s:=q) (b:=true) (a:=none) (n:=0) (c:=0) (d:=d + 1) oM) F ?_
    rintro v G' L' ⟨rfl,rfl⟩
    dsimp only [zA,fA]
    exact ⟨[_],[bL r sc q true none 0 0 (d + 1 - 1)],⟨av F F F F,trivial⟩,sB,Gh.le.refl _,cI (c:=⟨91,[],0,none,0,0⟩) (bq dC dC) oM (fun _=>⟨F,F,F⟩) ⟨oM,fun h=>(by cases h),fun _=>.inr hrd⟩⟩
  rw [if_pos h20] at hrd
  obtain ⟨m,rfl⟩ : ∃ m' : Nat,m = (m' : Int):=⟨m.toNat,oM⟩
  rw [Int.toNat_natCast] at hrd
  refine cr [(0,_),(1,_)] Tryz.func93 kR Tryz.ntmps93 F F tU fun B hok hB hW=>?_
  repeat' (first | refine jM ?_ | (refine jo ?_;first | refine jO fun _=>?_ | refine jL fun _=>?_ | refine ak F ?_ | refine jD F F F ?_ | refine jV (df F F) ?_))
  rename_i x2 x3 x4
  refine jo ?_
  refine ct (fi:=[]) (ca:=[Pt x2 0]) (az:=[]) F F ?_
  repeat' (first | refine jR ?_ | (refine jo ?_;first | refine jL fun _=>?_ | refine ak F ?_ | refine aN F ?_ | refine jC F F F ?_ | refine jV (an F F) ?_ | refine ab F F F cx_sign F ?_ | (refine aq F F F cx_nb F ?_;rintro _ _ ⟨rfl,rfl⟩;dsimp only [zA,fA])) | refine ac F F ?_ | (refine ad F (by first | rfl | (refine decide_eq_false ?_;(omega))) ?_))
  rename_i x5
  refine Nx.addNil md 4 (Nx.perm (List.Perm.cons _ (List.Perm.swap _ _ _)) ?_)
  refine aR (ι:=List V × List VC × Option Addr × Nat × ac1 × Bool × Gh) (fun y=>(V.reps y.2.2.2.2.2.2 y.1 y.2.1 ∧ Gh.le G y.2.2.2.2.2.2) ∧ (y.2.2.2.2.2.1 = false → bG (rb (ag qs) n k) m q [] = bG (rb (ag qs) n k) (m - y.1.length) y.2.2.2.2.1 y.1) ∧ (y.2.2.2.2.2.1 = true → bG (rb (ag qs) n k) m q [] = none) ∧ (y.1.length ≤ m ∧ y.2.2.2.2.1.length ≤ q.length)) (fun y=>[(2,Pt x2 0),(3,Pt x3 0),(4,Pt x4 0),(5,I (m : Nat)),(6,Pt x5 0),(7,I (y.1.length : Nat))]) (fun y=>y.2.2.2.2.2.2) (fun y=>[.acc (.slice y.2.2.1 y.1.length y.2.2.2.1) md 4 y.1.length (aI bx y.2.1),bL r sc y.2.2.2.2.1 y.2.2.2.2.2.1 none 0 0 (d + 1),.blk x5 (.cells (List.toArray [U8 91,S [],I 0,.slice y.2.2.1 y.1.length y.2.2.2.1]) md (0,0)),.blk x4 (.cells (List.toArray [U8 (0 : Nat),S [],I 0,aJ]) md (0,0)),.blk x3 (.cells (List.toArray [S (91 :: sg k),S (bs k),S (nm k)]) rv (0,0)),.blk x2 (.cells (List.toArray [Pt r 0]) fI (0,0))]) (fun y=>m - y.1.length) ([],[],none,0,q,false,G) ?_ tU F aW (fun y Hy=>?_)
  ·exact ⟨⟨F,Gh.le.refl _⟩,fun _=>rfl,fun h=>(by cases h),Nat.zero_le _,Nat.le_refl _⟩
  obtain ⟨vs,cs,a,cap,t,b,Gq⟩:=y
  dsimp only at Hy ⊢
  obtain ⟨⟨hreps,hgq⟩,hI0,hI1,hlm,htl'⟩:=Hy
  have hcl:=ib hreps
  by_cases hi : b = false ∧ vs.length < m
  case neg =>
   have hres : sW (rb (ag qs) (n + 1) (91 :: k)) s false (.nd 91 [] 0 vs) t b:=by
    refine ⟨oM,fun h=>⟨F,?_⟩,fun h=>.inr ?_⟩
    ·have h2:=hI0 h
     have h9 : ¬ vs.length < m:=fun h3=>hi ⟨h,h3⟩
     have e0 : m - vs.length = 0:=oM
     rw [e0,bG] at h2
     rw [hrd,h2];rfl
    ·rw [hrd,hI1 h];rfl
   cases b with
   | true =>
    repeat' (first | refine jR ?_ | (refine jo ?_;first | refine ak F ?_ | refine aN F ?_ | refine jC F F F ?_ | refine aH F ?_ | refine aw F ?_) | refine eD F F (fun _=>?_) (fun _=>?_) | refine ad F F ?_)
    all_goals
     refine Nx.sealS (v:=.slice a vs.length cap) fun G2 hG2 hsl=>?_
     refine da (.inl F) F (cK (x0:=x2) (r:=r) (sc:=sc) (s:=t) (b:=true) (a:=none) (n:=0) (c:=0) (d:=d + 1) oM) F ?_
     rintro v G' L' ⟨rfl,rfl⟩
     dsimp only [zA,fA]
     exact ⟨[_],[bL r sc t true none 0 0 (d + 1 - 1)],⟨av F F F F,trivial⟩,sB,(hgq.trans hG2),cI (c:=⟨91,[],0,a,vs.length,cap⟩) (cW dC dC (fun h=>absurd h dC) F (by rw [hcl];exact hsl) (bX hG2 hreps)) oM (fun _=>⟨F,F,F⟩) hres⟩
   | false =>
    have hi2 : ¬ vs.length < m:=fun h=>hi ⟨rfl,h⟩
    repeat' (first | refine jR ?_ | (refine jo ?_;first | refine aN F ?_ | refine jC F F F ?_ | refine aw F ?_) | refine aj F F (aA oM) ?_ | refine ad F F ?_)
    all_goals
     refine Nx.sealS (v:=.slice a vs.length cap) fun G2 hG2 hsl=>?_
     refine da (.inl F) F (cK (x0:=x2) (r:=r) (sc:=sc) (s:=t) (b:=false) (a:=none) (n:=0) (c:=0) (d:=d + 1) oM) F ?_
     rintro v G' L' ⟨rfl,rfl⟩
     dsimp only [zA,fA]
     exact ⟨[_],[bL r sc t false none 0 0 (d + 1 - 1)],⟨av F F F F,trivial⟩,sB,(hgq.trans hG2),cI (c:=⟨91,[],0,a,vs.length,cap⟩) (cW dC dC (fun h=>absurd h dC) F (by rw [hcl];exact hsl) (bX hG2 hreps)) oM (fun _=>⟨F,F,F⟩) hres⟩
  obtain ⟨rfl,hi2⟩:=hi
  have hit:=hI0 rfl
  clear hI0 hI1
  obtain ⟨m',hm'⟩ : ∃ m',m - vs.length = m' + 1:=⟨m - vs.length - 1,oM⟩
  rw [hm'] at hit
  have cx_vl:=wy (r:=r) (d:=d + 1) oM oM (hU Gq r k t false (hS.mono hgq) hk2 oM)
  have cx_pt:=cx_ptA Gq
  repeat' (first | refine jR ?_ | (refine jo ?_;first | refine ak F ?_ | refine aH F ?_) | refine ax F F (ar oM) ?_ | refine ac F F ?_)
  (refine ai (am (id:=16) [.blk x3 (.cells (List.toArray [S (91 :: sg k),S (bs k),S (nm k)]) rv (0,0)),.blk x2 (.cells (List.toArray [Pt r 0]) fI (0,0))] (by intro y hy;simp only [List.mem_cons,List.not_mem_nil,or_false] at hy ⊢;rcases hy with hy | hy <;> simp [hy]) ah ?_);refine jW 9 [0] (aa 10 1) ?_;(refine jG (aa 10 5) 2 F (aD F F F) ?_);(refine jG (aa 10 13) 3 F (bo F F F F) ?_);refine dN [1,4] kR dC ⟨?_,?_,trivial⟩;(focus (refine b6 F F ?_;(refine ak F ?_);refine jK (aa 10 15) ?_;refine jA 4 F ?_;(refine ab F F F cx_pt F ?_);refine jK (aa 10 31) ?_;refine jA 5 F ?_;(refine dZ F F F cx_vl F ?_;rintro _ G1 _ hle ⟨u1,c1,t1,b1,rfl,hrep,rfl,hP⟩;dsimp only [zA,fA];skip);refine jK (aa 10 63) ?_;refine jA 6 F ?_;(refine jF fun _=>?_);refine jK (aa 10 127) ?_;refine jA 7 F ?_;((refine cQ F F F F F F F F F ?_ fun _ _=>?_;focus omega));refine jK (aa 10 255) ?_;refine jW 1 [8] (aa 10 511) ?_;refine jA 9 F ?_;(refine jD F F F ?_);refine jK (aa 10 1023) ?_;refine jQ ?_));rotate_left 1;(focus (refine b6 F F ?_;(refine ab F F F cx_pt F ?_);refine jK (aa 10 29) ?_;refine dN [1,5] kR dC ⟨?_,?_,trivial⟩;(focus (refine b6 F F ?_;(refine ak F ?_);refine jK (aa 10 31) ?_;refine jA 5 F ?_;(refine dZ F F F cx_vl F ?_;rintro _ G1 _ hle ⟨u1,c1,t1,b1,rfl,hrep,rfl,hP⟩;dsimp only [zA,fA];skip);refine jK (aa 10 63) ?_;refine jA 6 F ?_;(refine jF fun _=>?_);refine jK (aa 10 127) ?_;refine jA 7 F ?_;((refine cQ F F F F F F F F F ?_ fun _ _=>?_;focus omega));refine jK (aa 10 255) ?_;refine jW 1 [8] (aa 10 511) ?_;refine jA 9 F ?_;(refine jD F F F ?_);refine jK (aa 10 1023) ?_;refine jQ ?_));rotate_left 1;(focus (refine b6 F F ?_;(refine dZ F F F cx_vl F ?_;rintro _ G1 _ hle ⟨u1,c1,t1,b1,rfl,hrep,rfl,hP⟩;dsimp only [zA,fA];skip);refine jK (aa 10 61) ?_;refine dN [1,6] kR dC ⟨?_,?_,trivial⟩;(focus (refine b6 F F ?_;(refine ak F ?_);refine jK (aa 10 63) ?_;refine jA 6 F ?_;(refine jF fun _=>?_);refine jK (aa 10 127) ?_;refine jA 7 F ?_;((refine cQ F F F F F F F F F ?_ fun _ _=>?_;focus omega));refine jK (aa 10 255) ?_;refine jW 1 [8] (aa 10 511) ?_;refine jA 9 F ?_;(refine jD F F F ?_);refine jK (aa 10 1023) ?_;refine jQ ?_));rotate_left 1;(focus (refine b6 F F ?_;(refine jF fun _=>?_);refine jK (aa 10 125) ?_;refine jA 1 F ?_;(refine ak F ?_);refine jK (aa 10 127) ?_;refine jA 7 F ?_;((refine cQ F F F F F F F F F ?_ fun _ _=>?_;focus omega));refine jK (aa 10 255) ?_;refine jW 1 [8] (aa 10 511) ?_;refine jA 9 F ?_;(refine jD F F F ?_);refine jK (aa 10 1023) ?_;refine jQ ?_));rotate_left 1));rotate_left 2));rotate_left 3)
  all_goals
   rename_i y1 yc
   have hrow : aI bx cs ++ [U8 (c1.what : Nat),S c1.text,I c1.tag,c1.sl] = aI bx (cs ++ [c1]):=(cB bx cs c1).symm
   have hr2 : V.reps G1 (vs ++ [u1]) (cs ++ [c1]):=iA hrep (bX hle hreps)
   have hvl : (vs ++ [u1]).length = vs.length + 1:=by simp
   have hgl:=hgq.trans hle
   obtain ⟨hQ1,hQ2,hQ3⟩:=kP hP
   rw [hrow]
   have hm2 : m - (vs ++ [u1]).length = m':=by rw [hvl];omega
   have hno1 : b1 = true → bG (rb (ag qs) n k) m q [] = none:=fun h=>by rw [hit,o9 (hQ3 h)]
   have hyes1 : b1 = false → bG (rb (ag qs) n k) m q [] = bG (rb (ag qs) n k) (m - (vs ++ [u1]).length) t1 (vs ++ [u1]):=fun h2=>by rw [hit,mz (hQ2 h2).1,hm2]
   repeat' (refine jM ?_)
   refine Nx.re (d:=7) (v':=I ((vs ++ [u1]).length : Nat)) F (congrArg (Value.int .i64) (by rw [hvl];omega)) ?_
   exact aX (vs ++ [u1],cs ++ [c1],some ⟨y1,0,none⟩,yc,t1,b1,G1) ⟨⟨hr2,hgl⟩,hyes1,hno1,by dsimp only;omega,by dsimp only;omega⟩ (by dsimp only;omega) tU rfl (by rw [hvl];repeat (first | exact List.Sublist.refl _ | apply List.Sublist.cons_cons | apply List.Sublist.cons))
theorem ab1 {n r sc : Nat} {qs : List co} {k s : ac1} {d : Int} (hd : d = 12 - (n : Int)) (hn : n ≤ 12) (hU : rg n sc qs) (hS : ScI G sc qs) (hk : aE (ag qs) (63 :: k) = true) (hs : s.length ≤ 1000) :
  dw ac0 93 [Pt r 0,Ag (cS (63 :: k))] G [bL r sc s false none 0 0 d] (kz (rb (ag qs) (n + 1) (63 :: k)) r sc s false d):=by
 have hk2:=dP (.inr rfl) hk
 obtain ⟨e1,e2,e3,_⟩:=gA (c:=63) (k:=k) (.inr rfl)
 have hrd:=vq (ts:=ag qs) (n:=n) (k:=k) (s:=s)
 unfold cS
 rw [e1,e2,e3]
 have cx_sign:=@gQ G 63 (sg k) (bs k) (nm k)
 have cx_pt:=@kY G 63 (sg k) (bs k) (nm k)
 cases hf : cx s with
 | none =>
  rw [hf] at hrd
  have cx_fl:=sG (G:=G) (r:=r) (sc:=sc) (n:=0) (c:=0) (s:=s) (b:=false) (a:=none) (d:=d + 1) (.inr hf) oM
  refine cr [(0,_),(1,_)] Tryz.func93 kR Tryz.ntmps93 F F tU fun B hok hB hW=>?_
  repeat' (first | refine jM ?_ | (refine jo ?_;first | refine jO fun _=>?_ | refine jL fun _=>?_ | refine ak F ?_ | refine jD F F F ?_ | refine jV (df F F) ?_))
  rename_i x2 x3 x4
  refine jo ?_
  refine ct (fi:=[]) (ca:=[Pt x2 0]) (az:=[]) F F ?_
  repeat' (first | refine jR ?_ | (refine jo ?_;first | refine ak F ?_ | refine aN F ?_ | refine jC F F F ?_ | refine jV (an F F) ?_ | refine ab F F F cx_sign F ?_ | (refine aq F F F cx_fl F ?_;rintro _ _ ⟨q1,⟨rfl,hql⟩,rfl⟩;dsimp only [zA,fA])) | refine ac F F ?_ | (refine ad F (by first | rfl | (refine decide_eq_false ?_;(omega))) ?_))
  all_goals
   refine da (.inl F) F (cK (x0:=x2) (r:=r) (sc:=sc) (s:=q1) (b:=true) (a:=none) (n:=0) (c:=0) (d:=d + 1) oM) F ?_
   rintro v G' L' ⟨rfl,rfl⟩
   dsimp only [zA,fA]
   exact ⟨[_],[bL r sc q1 true none 0 0 (d + 1 - 1)],⟨av F F F F,trivial⟩,sB,Gh.le.refl _,cI (c:=⟨63,[],0,none,0,0⟩) (bq dC dC) oM (fun _=>⟨F,F,F⟩) ⟨hql,fun h=>(by cases h),fun _=>.inr hrd⟩⟩
 | some y =>
  obtain ⟨x,q⟩:=y
  rw [hf] at hrd
  have hin:=fc hf
  have hl : s.length = q.length + 1:=by rw [hin];rfl
  have cx_fl:=sF (G:=G) (r:=r) (sc:=sc) (n:=0) (c:=0) (s:=s) (q:=q) (x:=x) (a:=none) (d:=d + 1) hf oM
  cases x with
  | false =>
   refine cr [(0,_),(1,_)] Tryz.func93 kR Tryz.ntmps93 F F tU fun B hok hB hW=>?_
   repeat' (first | refine jM ?_ | (refine jo ?_;first | refine jO fun _=>?_ | refine jL fun _=>?_ | refine ak F ?_ | refine jD F F F ?_ | refine jV (df F F) ?_))
   rename_i x2 x3 x4
   refine jo ?_
   refine ct (fi:=[]) (ca:=[Pt x2 0]) (az:=[]) F F ?_
   repeat' (first | refine jR ?_ | (refine jo ?_;first | refine ak F ?_ | refine aN F ?_ | refine jC F F F ?_ | refine jV (an F F) ?_ | refine ab F F F cx_sign F ?_ | (refine aq F F F cx_fl F ?_;rintro _ _ ⟨rfl,rfl⟩;dsimp only [zA,fA])) | refine ac F F ?_ | (refine ad F (by first | rfl | (refine decide_eq_false ?_;(omega))) ?_))
   all_goals
    refine da (.inl F) F (cK (x0:=x2) (r:=r) (sc:=sc) (s:=q) (b:=false) (a:=none) (n:=0) (c:=0) (d:=d + 1) oM) F ?_
    rintro v G' L' ⟨rfl,rfl⟩
    dsimp only [zA,fA]
    exact ⟨[_],[bL r sc q false none 0 0 (d + 1 - 1)],⟨av F F F F,trivial⟩,sB,Gh.le.refl _,cI (c:=⟨63,[],0,none,0,0⟩) (bq dC dC) oM (fun _=>⟨F,F,F⟩) ⟨oM,fun _=>⟨F,hrd⟩,fun h=>(by cases h)⟩⟩
  | true =>
   dsimp only at hrd
   have cx_vl:=wy (r:=r) (d:=d + 1) oM oM (hU G r k q false hS hk2 oM)
   refine cr [(0,_),(1,_)] Tryz.func93 kR Tryz.ntmps93 F F tU fun B hok hB hW=>?_
   repeat' (first | refine jM ?_ | (refine jo ?_;first | refine jO fun _=>?_ | refine jL fun _=>?_ | refine ak F ?_ | refine jD F F F ?_ | refine jV (df F F) ?_))
   rename_i x2 x3 x4
   refine jo ?_
   refine ct (fi:=[]) (ca:=[Pt x2 0]) (az:=[]) F F ?_
   repeat' (first | refine jR ?_ | (refine jo ?_;first | refine ak F ?_ | refine aN F ?_ | refine ab F F F cx_sign F ?_ | (refine aq F F F cx_fl F ?_;rintro _ _ ⟨rfl,rfl⟩;dsimp only [zA,fA])) | refine ac F F ?_ | (refine ad F (by first | rfl | (refine decide_eq_false ?_;(omega))) ?_))
   (refine ai (am (id:=21) [.blk x3 (.cells (List.toArray [S (63 :: sg k),S (bs k),S (nm k)]) rv (0,0)),.blk x2 (.cells (List.toArray [Pt r 0]) fI (0,0))] (by intro y hy;simp only [List.mem_cons,List.not_mem_nil,or_false] at hy ⊢;rcases hy with hy | hy <;> simp [hy]) ah ?_);(refine jG (aa 7 1) 0 F (aD F F F) ?_);(refine jG (aa 7 3) 1 F (bo F F F F) ?_);refine jA 2 F ?_;(refine ab F F F cx_pt F ?_);refine jK (aa 7 7) ?_;refine jA 3 F ?_;(refine dZ F F F cx_vl F ?_;rintro _ G1 _ hle ⟨u1,c1,t1,b1,rfl,hrep,rfl,hP⟩;dsimp only [zA,fA];skip);refine jK (aa 7 15) ?_;refine jA 4 F ?_;(refine jF fun _=>?_);refine jK (aa 7 31) ?_;(refine jG (aa 7 63) 5 F (an F F) ?_);refine jA 6 F ?_;(refine jC F F F ?_);refine jK (aa 7 127) ?_;refine jQ ?_)
   all_goals repeat' (refine jR ?_)
   rename_i y
   refine Nx.sealC (b:=y) fun G2 hG2 hsy=>?_
   have hsl : bR G2 (.slice (some ⟨y,0,none⟩) 1 1) 4 ([c1] : List VC).length (aI bx [c1]):=⟨rfl,.inr ⟨y,0,1,rfl,Nat.le_refl _,hsy⟩⟩
   obtain ⟨hQ1,hQ2,hQ3⟩:=kP hP
   refine da (.inl F) F (cK (x0:=x2) (r:=r) (sc:=sc) (s:=t1) (b:=b1) (a:=none) (n:=0) (c:=0) (d:=d + 1) oM) F ?_
   rintro v G' L' ⟨rfl,rfl⟩
   dsimp only [zA,fA]
   exact ⟨[_],[bL r sc t1 b1 none 0 0 (d + 1 - 1)],⟨av F F F F,trivial⟩,sB,(hle.trans hG2),cI (c:=⟨63,[],0,some ⟨y,0,none⟩,1,1⟩) (cW (ks:=[u1]) dC dC (fun h=>absurd h dC) F hsl ⟨_,[],F,fb hG2 hrep,F⟩) oM (fun _=>⟨F,F,F⟩) ⟨oM,fun h=>⟨F,by rw [hrd,(hQ2 h).1];rfl⟩,fun h=>.inr (by rw [hrd,hQ3 h];rfl)⟩⟩
theorem ab0 {n r sc p : Nat} {qs : List co} {t : Ty} {x s : ac1} {d : Int} (hd : d = 12 - (n : Int)) (hn : n ≤ 12) (hU : rg n sc qs) (hS : ScI G sc qs) (hW0 : SchW (ag qs)) (hkv : l6 (gX qs) x = some (Pt p 0)) (hT : iI G p t) (hw : TyW t) (hkf : ∀ d ∈ t.fields,aE (ag qs) d.kind = true) (hso : t.sort = 82) (hs : s.length ≤ 1000) :
  dw ac0 93 [Pt r 0,Ag [S [],S [64],S x]] G [bL r sc s false none 0 0 d] (kz (bT (ag qs) (rb (ag qs) n) t) r sc s false d):=by
 obtain ⟨u,m2,g1,g2,g3⟩:=hS.at'
 have hso' : (t.sort : Int) = 82:=oM
 have cx_sign:=@di G [64] x
 have cx_rcd:=aaV (G:=G) (r:=r) (s:=s) (d:=d + 1) oM hn hU hS hW0 hT hw hkf hs
 have hrd : bT (ag qs) (rb (ag qs) n) t = fun s=>(bM (ag qs) (rb (ag qs) n) t (s.length + 1) 0 s []).map fun x=>(.nd 82 [] 0 x.1,x.2):=by
  funext s
  unfold bT;rw [if_pos hso]
 rw [hrd]
 obtain ⟨fv,ln,h1,h2⟩:=hT
 refine cr [(0,_),(1,_)] Tryz.func93 kR Tryz.ntmps93 F F tU fun B hok hB hW=>?_
 repeat' (first | refine jM ?_ | (refine jo ?_;first | refine jO fun _=>?_ | refine jL fun _=>?_ | refine ak F ?_ | refine jD F F F ?_ | refine jV (df F F) ?_))
 rename_i x2 x3 x4
 refine jo ?_
 refine ct (fi:=[]) (ca:=[Pt x2 0]) (az:=[]) F F ?_
 repeat' (first | refine jR ?_ | (refine jo ?_;first | refine ak F ?_ | refine aN F ?_ | refine ab F F F cx_sign F ?_) | (refine ad F (by first | rfl | (refine decide_eq_false ?_;(omega))) ?_))
 (refine ai (am (id:=34) _ (fun _ h=>h) ah ?_);refine jT 10 [7] (aa 11 128) ?_;(refine jG (aa 11 129) 0 F (aD F F F) ?_);refine jT 7 [1,2] (aa 11 135) ?_;(refine jG (aa 11 143) 3 F (aD F F F) ?_);refine jT 4 [4,5] (aa 11 191) ?_;(refine jG (aa 11 255) 6 F (ao F F aS F F) ?_);(refine jG (aa 11 511) 8 F (aD F F F) ?_);((refine jG (aa 11 1023) 9 F (bY F F (dO aS) aS F) ?_));refine jT 0 [10] (aa 11 2047) ?_;refine jQ ?_)
 all_goals repeat' (first | refine jR ?_ | (refine jo ?_;first | refine ak F ?_ | refine jV (ao F F aS F F) ?_ | refine jC F F F ?_ | (refine dZ F F F cx_rcd F ?_;rintro _ G1 _ hle ⟨u1,c1,t1,b1,a1,n1,k1,rfl,hrep,rfl,hsk,hP⟩;dsimp only [zA,fA];skip)) | refine ad F (aA oM) ?_)
 all_goals
  refine da (.inl F) F (cK (x0:=x2) (r:=r) (sc:=sc) (s:=t1) (b:=b1) (a:=a1) (n:=n1) (c:=k1) (d:=d + 1) oM) F ?_
  rintro v G' L' ⟨rfl,rfl⟩
  dsimp only [zA,fA]
  exact ⟨[_],[bL r sc t1 b1 a1 n1 k1 (d + 1 - 1)],⟨av F F F F,trivial⟩,sB,hle,cI (c:=c1) hrep oM (fun h=>hsk oM) hP⟩
theorem ab6 {n r sc : Nat} {qs : List co} {c : UInt8} {k s : ac1} {t : Ty} {d : Int} (h91 : ¬ (c.toNat = 91 ∨ c.toNat = 63)) (hd : d = 12 - (n : Int)) (hn : n ≤ 12) (hU : rg n sc qs) (hS : ScI G sc qs) (hw : SchW (ag qs)) (hk : aE (ag qs) (c :: k) = true) (hrf : aT (ag qs) (c :: k) = some t) (hs : s.length ≤ 1000) :
  dw ac0 93 [Pt r 0,Ag (cS (c :: k))] G [bL r sc s false none 0 0 d] (kz (rb (ag qs) (n + 1) (c :: k)) r sc s false d):=by
 have hko:=cR hk
 have hsg:=i9 (r:=k) h91
 have hcs:=eE (r:=k) h91
 have hrn : (bz (bj (c :: k))).isSome = true:=by
  rw [hcs];unfold aT at hrf
  cases hx : bz (c :: k) with
  | none=>rw [hx] at hrf;cases hrf
  | some x=>rfl
 have hbs : bs (c :: k) = [64]:=(i5 hko).2 hrn
 have hnm : bz (c :: k) = some (nm (c :: k)):=by
  unfold nm;rw [hcs] at hrn ⊢
  cases hx : bz (c :: k) with
  | none=>rw [hx] at hrn;cases hrn
  | some x=>rfl
 have hft : gn (ag qs) (nm (c :: k)) = some t:=by unfold aT at hrf;rw [hnm] at hrf;exact hrf
 have hkv:=gz qs (nm (c :: k))
 rw [← gD] at hft
 rcases hfq : en qs (nm (c :: k)) with _ | ⟨p,t'⟩
 ·rw [hfq] at hft;cases hft
 rw [hfq] at hft hkv
 dsimp only [Option.map_some] at hft hkv
 have htt : t' = t:=Option.some.inj hft
 subst htt
 have hqm:=gM hfq
 have htm:=bJ hrf
 have hW:=hw.ty t' htm
 have hT : iI G p t':=hS.ty _ hqm
 have hrd : rb (ag qs) (n + 1) (c :: k) = bT (ag qs) (rb (ag qs) n) t':=by
  funext s
  rw [rb];unfold fD
  dsimp only
  rw [if_neg (fun h=>h91 (.inl h)),if_neg (fun h=>h91 (.inr h)),hrf]
 unfold cS
 rw [hsg,hbs,hrd]
 rcases hW.sort with h | h | h
 ·exact ab0 hd hn hU hS hw hkv hT hW (fun d hd=>dK hw htm oM hd) h hs
 ·exact abY hd hn hU hS hkv hT hW (fun d hd=>dK hw htm oM hd) h hs
 ·exact ab5 hd hn hS hkv hT hW h hs
theorem pN {sc : Nat} {qs : List co} (hw : SchW (ag qs)) : ∀ n,n ≤ 13 → rg n sc qs
 | 0,_=>fun G r k s b _ _ hs=>tQ (.inr rfl) hs oM
 | n + 1,hn=>fun G r k s b hS hk hs=>by
  have hU:=pN (sc:=sc) hw n oM
  have ed : (13 : Int) - ((n + 1 : Nat) : Int) = 12 - (n : Int):=oM
  cases b with
  | true=>exact tQ (.inl F) hs hn
  | false =>
   match k,hk with
   | [],hk=>cases hk
   | c :: k,hk =>
    by_cases h1 : c.toNat = 91
    ·obtain rfl:=bn h1 dC
     exact ab3 ed oM hU hS hk hs
    by_cases h2 : c.toNat = 63
    ·obtain rfl:=bn h2 dC
     exact ab1 ed oM hU hS hk hs
    have h91 : ¬ (c.toNat = 91 ∨ c.toNat = 63):=fun h=>by rcases h with h | h <;> omega
    cases hr : aT (ag qs) (c :: k) with
    | some t=>exact ab6 h91 ed oM hU hS hw hk hr hs
    | none =>
     rcases eK hk h91 hr with e | e | e
     ·rw [e] at hr ⊢;exact ab2 ed oM hr hs
     ·rw [e] at hr ⊢;exact abZ ed oM hr hs
     ·rw [e] at hr ⊢;exact ab4 ed oM hr hs
abbrev xF : TypeId:=3
theorem pH {s : ac1} (h : s.length ≤ 1048576) : bi ac0 63 [S s] G (ww s):=by
 by_cases h0 : s = []
 ·subst h0
  refine jB [(0,_)] Tryz.func63 Tryz.ntmps63 fun B hok hB hW=>?_
  repeat' (first | refine jR ?_ | refine ac F F ?_)
  refine jZ (vs:=[_,_]) F ⟨F,F,trivial⟩ F ⟨Gh.le.refl _,F,?_⟩
  exact ⟨_,_,_,F,fun p hp=>by
   obtain rfl : p = []:=by unfold cJ at hp;simpa using hp.symm
   exact ⟨F,bR.nil0⟩⟩
 have cx_split : bi ac0 98 [S s,S [47]] G (fun v G'=>∃ b o cap,v = .slice (some ⟨b,o,none⟩) (aV 47 s).length cap ∧ cE G' b o (aI dz (aV 47 s))):=by
  refine (t7 (c:=47) oM).mono ?_
  rintro v G' L' ⟨h1,h2,h3⟩
  have hp : 0 < (aV 47 s).length:=dL
  exact ⟨h1,h2,h3.expl hp⟩
 have hcl:=gO (k:=47) (s:=s)
 have hbad:=fun {i : Nat}=>pi h0 (i:=i)
 have hpo:=mA h0
 have hxl : ∀ i,i < (aV 47 s).length → (ae (aV 47 s) i).length ≤ 100000000:=fun i hi=>by
  have:=c7 (bB hi)
  omega
 generalize aV 47 s = xs at *
 refine jB [(0,_)] Tryz.func63 Tryz.ntmps63 fun B hok hB hW=>?_
 repeat' (first | refine jR ?_ | (refine jo ?_;first | refine jV (al F) ?_ | (refine aK F F F cx_split F ?_;rintro _ G hle ⟨b1,o1,cap1,rfl,hseg⟩;skip)) | refine ad F (aA ‹_›) ?_)
 refine Nx.addNil xF 1 ?_
 refine aR (ι:=List Int × Option Addr × Nat × Nat) (fun j=>(j.1.length = j.2.2.2 ∧ j.2.2.2 ≤ xs.length ∧ j.2.2.2 ≤ 8) ∧ cj (xs.take j.2.2.2) = some j.1) (fun j=>[(4,.slice j.2.1 j.1.length j.2.2.1),(12,.slice (some ⟨b1,o1,none⟩) xs.length cap1),(13,I xs.length),(14,I j.2.2.2)]) (fun _=>G) (fun j=>[.acc (.slice j.2.1 j.1.length j.2.2.1) xF 1 j.1.length (aI eh j.1)]) (fun j=>xs.length - j.2.2.2) ([],none,0,0) ?_ tU F aW (fun j Hj=>?_)
 ·exact ⟨⟨F,Nat.zero_le _,Nat.zero_le _⟩,F⟩
 obtain ⟨ps,a,c,i⟩:=j
 dsimp only at Hj ⊢
 obtain ⟨⟨hpl,hi0,hi8⟩,hst⟩:=Hj
 by_cases hi : i < xs.length
 ·have hxl1:=hxl i hi
  cases hn : aL (ae xs i) 999999 with
  | none =>
   have hno:=hbad hi hn
   have hns : (!(aL (ae xs i) 999999).isSome) = true:=by rw [hn];rfl
   repeat' (first | refine jR ?_ | (refine jo ?_;first | refine jV (ay F F oM) ?_ | (refine jV (eS F F aS ?_) ?_;focus omega) | refine aH F ?_ | (refine cZ F F F (dI oM) F ?_;rintro _ ⟨n,rfl,hnum⟩)) | refine ax F F ‹_› ?_ | (refine ac F (by first | rfl | (refine decide_eq_true ?_;(omega))) ?_))
   all_goals refine jZ (vs:=[_,_]) F ⟨F,F,trivial⟩ F ⟨hle,F,?_⟩
   all_goals exact ⟨_,_,_,by rw [hno];rfl,fun p hp=>by rw [hno] at hp;cases hp⟩
  | some m =>
   have hns : (!(aL (ae xs i) 999999).isSome) = false:=by rw [hn];rfl
   by_cases h8 : i = 8
   ·subst h8
    have hno : cJ s = none:=by
     rw [hpo]
     cases hso : cj xs with
     | none=>rfl
     | some q =>
      have:=(kC hso).1
      dsimp only
      rw [if_neg oM]
    have h88 : ((ps.length : Nat) : Int) = 8:=oM
    repeat' (first | refine jR ?_ | (refine jo ?_;first | refine jV (al F) ?_ | refine jV (ay F F oM) ?_ | (refine jV (eS F F aS ?_) ?_;focus omega) | refine aw F ?_ | (refine cZ F F F (dI oM) F ?_;rintro _ ⟨n,rfl,hnum⟩)) | refine aj F F ‹_› ?_ | (refine ac F (by refine decide_eq_true ?_;first | assumption | omega) ?_))
    all_goals refine jZ (vs:=[_,_]) F ⟨F,F,trivial⟩ F ⟨hle,F,?_⟩
    all_goals exact ⟨_,_,_,by rw [hno];rfl,fun p hp=>by rw [hno] at hp;cases hp⟩
   ·have h88 : ¬ ((ps.length : Nat) : Int) = 8:=oM
    repeat' (first | refine jM ?_ | (refine jo ?_;first | refine jV (al F) ?_ | refine jV (ay F F oM) ?_ | (refine jV (eS F F aS ?_) ?_;focus omega) | refine aw F ?_ | refine jF fun _=>?_ | refine cQ F F F F F F F F F oM fun _ _=>?_ | (refine cZ F F F (dI oM) F ?_;rintro _ ⟨n,rfl,hnum⟩)) | refine aj F F ‹_› ?_ | refine ac F (ar oM) ?_ | refine ad F (aA ‹_›) ?_)
    rename_i y1 yc
    have hmn:=hnum m hn
    subst hmn
    have hst2 : cj (xs.take (i + 1)) = some (ps ++ [n]):=by rw [d4 hi,jn hst,hn];rfl
    have hl1 : (ps ++ [n]).length = ps.length + 1:=by simp
    rw [show aI eh ps ++ [I n] = aI eh (ps ++ [n]) from (cB eh ps n).symm]
    exact aX (ps ++ [n],some ⟨y1,0,none⟩,yc,i + 1) ⟨⟨by dsimp only;omega,by dsimp only;omega,by dsimp only;omega⟩,hst2⟩ (by dsimp only;omega) (by rw [hl1];repeat (first | exact trivial | refine ⟨F,?_⟩)) F (by rw [hl1];repeat (first | exact List.nil_sublist _ | apply List.Sublist.cons_cons))
 ·rw [List.take_of_length_le oM] at hst
  rw [hst] at hpo
  dsimp only at hpo
  rw [if_pos oM] at hpo
  repeat' (first | refine jR ?_ | refine ad F (aA oM) ?_)
  refine Nx.sealS (v:=.slice a ps.length c) fun G2 hG2 hsl=>?_
  refine jZ (vs:=[_,_]) F ⟨F,F,trivial⟩ F ⟨hle.trans hG2,F,?_⟩
  refine ⟨_,_,_,by rw [hpo];rfl,fun p hp=>?_⟩
  rw [hpo] at hp
  simp only [Option.some.injEq] at hp;subst hp;exact ⟨F,hsl⟩
theorem pR : ∀ k : ac1,sg k ++ bj k = k
 | []=>rfl
 | c :: r=>by
  by_cases h : c.toNat = 91 ∨ c.toNat = 63
  ·rw [kN h,bj,if_pos h,List.cons_append,pR r]
  ·rw [i9 h,eE h];rfl
theorem vx {k : ac1} (h : bA k = true) : (bs k = [64] → sg k ++ [64] ++ nm k ++ [59] = k) ∧ (bs k ≠ [64] → sg k ++ bs k = k):=by
 have hk:=jx (cH h).1
 have hsc:=pR k
 refine ⟨fun h64=>?_,fun hne=>?_⟩
 ·have hr:=(i5 h).1 h64
  cases hc : bj k with
  | nil=>rw [hc] at hk;cases hk
  | cons c r =>
   rw [hc] at hr hk hsc
   have h64' : c.toNat = 64:=by
    by_cases h64' : c.toNat = 64
    ·exact h64'
    ·simp [bz,h64'] at hr
   have hn : nm k = r.take (r.length - 1):=by unfold nm;rw [hc];simp [bz,h64']
   rw [ep,if_neg oM,if_pos h64'] at hk
   simp only [Bool.and_eq_true,decide_eq_true_eq] at hk
   obtain ⟨h59,hnm⟩:=hk
   have hrl : 1 ≤ r.length:=by
    cases r with
    | nil=>simp [cn] at hnm
    | cons=>simp
   obtain ⟨m,hm⟩ : ∃ m,r.length = m + 1:=⟨r.length - 1,oM⟩
   rw [hm,dG] at h59
   have e3 : r = r.take m ++ [59]:=by
    have e1 : r.take (m + 1) = r:=List.take_of_length_le oM
    have e2:=d4 (cs:=r) (i:=m) oM
    rw [e1] at e2
    have e4 : ae r m = 59:=by
     rw [aP oM]
     have : bt r m = (r[m]'oM).toNat:=by simp [bt,List.getD,List.getElem?_eq_getElem (show m < r.length by omega)]
     exact UInt8.toNat_inj.1 (by rw [← this];show bt r m = 59;omega)
    rw [e4] at e2;exact e2
   have hc64 : c = 64:=UInt8.toNat_inj.1 h64'
   have e5 : sg k ++ 64 :: (r.take m ++ [59]) = k:=by rw [← e3,← hc64];exact hsc
   rw [hn,hm,Nat.add_sub_cancel]
   refine Eq.trans ?_ e5
   simp
 ·have hr : bz (bj k) = none:=by
   cases hr : bz (bj k) with
   | none=>rfl
   | some x=>exact absurd ((i5 h).2 (by rw [hr];rfl)) hne
  have e : bs k = bj k:=by
   unfold bs
   cases hc : bj k with
   | nil=>rfl
   | cons c r =>
    rw [hc] at hr
    have h64 : ¬ c.toNat = 64:=by intro h64;simp [bz,h64] at hr
    simp [nP,h64]
  rw [e];exact hsc
theorem y3 {k : ac1} (h : bA k = true) : aC ac0 65 [Ag (cS k)] G (· = S k):=by
 obtain ⟨h1,h2⟩:=vx h
 have hl:=(cH h).2
 have hsl : (sg k).length ≤ 12:=by
  have:=congrArg List.length (pR k)
  simp only [List.length_append] at this
  omega
 unfold cS
 by_cases h64 : bs k = [64]
 ·have e:=h1 h64
  have hnl:=congrArg List.length e
  simp only [List.length_append,List.length_cons,List.length_nil] at hnl
  rw [h64]
  refine jE [(0,_)] Tryz.func65 Tryz.ntmps65 fun B hB=>?_
  repeat' (first | refine jX ?_ | (refine jo ?_;first | refine jO fun _=>?_ | refine ak F ?_) | refine ac F F ?_)
  all_goals refine jY (vs:=[_]) ?_
  all_goals (rw [aB,e])
 ·have e:=h2 h64
  have hnl:=congrArg List.length e
  simp only [List.length_append] at hnl
  refine jE [(0,_)] Tryz.func65 Tryz.ntmps65 fun B hB=>?_
  repeat' (first | refine jM ?_ | (refine jo ?_;first | refine jO fun _=>?_ | refine ak F ?_) | refine ad F (aA ‹_›) ?_)
  all_goals refine jY (vs:=[_]) ?_
  all_goals (rw [aB,e])
theorem aa0 {b : Nat} {qs : List co} {k s : ac1} {u : V} (hS : ScI G b qs) (hw : SchW (ag qs)) (hk : aE (ag qs) k = true) (hvo : bV (ag qs) k s = some u) :
  bi ac0 171 [Pt b 0,Ag (cS k),S s] G (fun r G'=>∃ c,r = Ag (bx c) ∧ V.rep G' u c):=by
 have hl:=(nR hvo).2
 have cx_ris : bi ac0 97 [Pt b 0,Ag [S (sg k),S (bs k),S (nm k)],S s] G (fun v G'=>∃ cv,v = Tu [Ag (bx cv),Bo true] ∧ V.rep G' u cv):=by
  refine (qk (G:=G) (b:=b) (s:=s) hS hw hk oM).mono ?_
  rintro v G' L' ⟨h1,h2,⟨h4,_⟩ | ⟨u',c,h4,rfl,h5⟩⟩
  ·rw [hvo] at h4;cases h4
  ·rw [hvo] at h4;obtain rfl:=Option.some.inj h4;exact ⟨h1,h2,c,F,h5⟩
 unfold cS
 refine jB [(0,_),(1,_),(2,_)] Tryz.func171 Tryz.ntmps171 fun B hok hB hW=>?_
 repeat' (first | refine jR ?_ | (refine jo ?_;first | refine jO fun _=>?_ | refine jL fun _=>?_ | refine aN F ?_ | refine jC F F F ?_ | (refine aK F F F cx_ris F ?_;rintro _ G hle ⟨cv,rfl,hrv⟩;skip)))
 all_goals refine jZ (vs:=[_]) F ⟨av F F F F,trivial⟩ F ⟨hle,F,?_⟩
 all_goals exact ⟨cv,F,hrv⟩
theorem vC {ts : List Ty} {f : Fld} {fs : List (Fld × V)} {j : Nat} (hj : j < fs.length) (hjn : (ae fs j).1.tag = f.tag) (hno : ∀ i,i < j → (ae fs i).1.tag ≠ f.tag) : ff ts (.nd 82 [] 0 (fs.map aU)) f = (ae fs j).2:=by
 unfold ff
 rw [V.kids,nW hj hjn hno];rfl
theorem s8 {ts : List Ty} {f : Fld} {fs : List (Fld × V)} (hno : ∀ i,i < fs.length → (ae fs i).1.tag ≠ f.tag) : ff ts (.nd 82 [] 0 (fs.map aU)) f = fp ts f:=by
 unfold ff
 rw [V.kids,nU hno];rfl
theorem aba {b bf of j : Nat} {qs : List co} {t : Ty} {fs : List (Fld × V)} {c : VC} (hS : ScI G b qs) (hw : SchW (ag qs)) (ht : t ∈ ag qs) (hso : t.sort = 82) (hsf : cE G bf of (aI iR t.fields)) (hj : j < t.fields.length) (hrep : V.rep G (.nd 82 [] 0 (fs.map aU)) c) (h9 : fs.length ≤ 1000000) :
  bi ac0 135 [Pt b 0,Ag (bx c),Pt bf (of + j * 6)] G (fun r G'=>∃ c',r = Ag (bx c') ∧ V.rep G' (ff (ag qs) (.nd 82 [] 0 (fs.map aU)) (ae t.fields j)) c'):=by
 obtain ⟨a,k,cs,rfl,_,_,_,hcl,hsl,hrs⟩:=fu hrep
 have hml : (fs.map aU).length = fs.length:=by simp
 rw [hml] at hcl hsl
 have hfm : ae t.fields j ∈ t.fields:=bB hj
 have hdk : aE (ag qs) (ae t.fields j).kind = true:=dK hw ht oM hfm
 obtain ⟨g1,g2,g3⟩:=gI hw ht oM hfm
 have cx_of:=uQ hS hw hsf hj hdk
 have hnt : ∀ i,i < fs.length → ae (fs.map aU) i = aU (ae fs i):=fun i hi=>by rw [aP (by simpa using hi),aP hi];simp
 have hrn : ∀ i,i < fs.length → V.rep G (aU (ae fs i)) (ae cs i):=fun i hi=>by
  have:=gv hrs i oM
  rwa [hnt i hi] at this
 have e0 : bx ⟨82,[],0,a,(fs.map aU).length,k⟩ = [U8 (82 : Nat),S [],I 0,.slice a fs.length k]:=by rw [← hml];rfl
 rw [e0]
 refine jB [(0,_),(1,_),(2,_)] Tryz.func135 Tryz.ntmps135 fun B hok hB hW=>?_
 repeat' (first | refine jR ?_ | (refine jo ?_;first | refine jO fun _=>?_ | refine jL fun _=>?_ | refine ak F ?_ | refine jV (al F) ?_))
 rename_i y4 y6
 refine aR (ι:=Nat) (fun i=>i ≤ fs.length ∧ ∀ l,l < i → (ae fs l).1.tag ≠ (ae t.fields j).tag) (fun i=>[(0,Pt b 0),(2,Pt bf (of + j * 6)),(6,Pt y6 0),(10,.slice a fs.length k),(11,I fs.length),(12,I i)]) (fun _=>G) (fun i=>[.blk y6 (.cells (List.toArray [U8 0,S [],I 0,aJ]) du (0,0))]) (fun i=>fs.length - i) 0 ?_ tU F sB (fun i Hi=>?_)
 ·exact ⟨Nat.zero_le _,fun l hl=>absurd hl oM⟩
 obtain ⟨hi0,hno⟩:=Hi
 by_cases hi : i < fs.length
 ·obtain ⟨xb,xo,xc,e,hsx⟩:=hsl.expl oM
  simp only [Value.slice.injEq] at e
  obtain ⟨rfl,-,rfl⟩:=e
  obtain ⟨a1,k1,cs1,hci,_,_,_,hcl1,hsl1,hrs1⟩:=fu (hrn i hi)
  rw [V.reps] at hrs1
  obtain ⟨c1,cs2,rfl,hr1,hr2⟩:=hrs1
  rw [V.reps] at hr2
  subst hr2
  have hci : ae cs i = ⟨61,[],(ae fs i).1.tag,a1,1,k1⟩:=hci
  have hsl1 : bR G (.slice a1 1 k1) 4 ([c1] : List VC).length (aI bx [c1]):=hsl1
  obtain ⟨zb,zo,zc,e,hsz⟩:=hsl1.expl oM
  simp only [Value.slice.injEq] at e
  obtain ⟨rfl,-,rfl⟩:=e
  by_cases ht2 : (ae fs i).1.tag = (ae t.fields j).tag
  ·have hget:=vC (ts:=ag qs) hi ht2 hno
   rw [hget]
   repeat' (first | refine jR ?_ | (refine jo ?_;first | refine jL fun _=>?_ | refine ak F ?_ | (refine jV (mK F F aS ?_ aS) ?_;focus omega) | refine jV (ay F F oM) ?_ | refine jC F F F ?_) | (refine ac F (by refine decide_eq_true ?_;first | assumption | omega) ?_) | (refine ai (am (id:=4) _ (fun _ h=>h) ah ?_);refine jT 3 [0,2,3,4] (aa 7 29) ?_;(refine jG (aa 7 31) 1 F (aD F F F) ?_);((refine jG (aa 7 63) 5 F (b9 F F aS ?_ F F) ?_;focus omega));refine jT 0 [6] (aa 7 127) ?_;refine jQ ?_))
   dsimp only [bx,VC.sl]
   repeat' (first | refine jR ?_ | (refine jo ?_;first | (refine jV (dY F F aS ?_) ?_;focus omega) | refine jV (be F F oM) ?_ | refine jC F F F ?_))
   all_goals refine jZ (vs:=[_]) F ⟨av F F F F,trivial⟩ F ⟨Gh.le.refl _,F,?_⟩
   all_goals exact ⟨c1,F,hr1⟩
  ·repeat' (first | refine jM ?_ | (refine jo ?_;first | refine jL fun _=>?_ | (refine jV (mK F F aS ?_ aS) ?_;focus omega) | refine jV (ay F F oM) ?_ | refine jC F F F ?_) | refine ac F (ar oM) ?_ | refine ad F (aA ‹_›) ?_ | (refine ai (am (id:=4) _ (fun _ h=>h) ah ?_);refine jT 3 [0,2,3,4] (aa 7 29) ?_;(refine jG (aa 7 31) 1 F (aD F F F) ?_);((refine jG (aa 7 63) 5 F (b9 F F aS ?_ F F) ?_;focus omega));refine jT 0 [6] (aa 7 127) ?_;refine jQ ?_))
   exact aX (i + 1) ⟨oM,fun l hl=>(by
    rcases Nat.lt_or_ge l i with h | h
    ·exact hno l h
    ·have : l = i:=oM
     subst this;exact ht2)⟩ oM tU F sB
 ·have hget:=s8 (ts:=ag qs) (f:=ae t.fields j) (fs:=fs) fun l hl=>hno l oM
  rw [hget]
  have cx_mu:=aa0 hS hw hdk g2
  unfold cS at cx_mu
  repeat' (first | refine jR ?_ | refine ad F (aA oM) ?_ | (refine ai (dA (id:=7) (tt:=6) F ah ?_);refine jW 4 [0,1,2,3,5,6] (aa 10 111) ?_;((refine jG (aa 10 127) 4 F (fO F F aS ?_ F F) ?_;focus omega));refine jA 7 F ?_;(refine ab F F F cx_of F ?_);refine jK (aa 10 255) ?_;refine jA 8 F ?_;(refine aK F F F cx_mu F ?_;rintro _ G hle ⟨cv,rfl,hrv⟩;skip);refine jK (aa 10 511) ?_;refine jA 9 F ?_;(refine jC F F F ?_);refine jK (aa 10 1023) ?_;refine jQ ?_))
  all_goals refine jZ (vs:=[_]) F ⟨av F F F F,trivial⟩ F ⟨hle,F,?_⟩
  all_goals exact ⟨cv,F,hrv⟩
def eH (ts : List Ty) (o : Option (ac1 × V)) (r : Value) (G' : Gh) : Prop:=(o = none ∧ r = Tu [Ag [S [],S [],S []],zP,Bo false]) ∨ ∃ k' v' c',o = some (k',v') ∧ r = Tu [Ag (cS k'),Ag (bx c'),Bo true] ∧ V.rep G' v' c'
theorem eH.no {f : FuncId} {args : List Value} {ts : List Ty} {o : Option (ac1 × V)} (h : bi ac0 f args G (eH ts o)) (e : o = none) : bi ac0 f args G (fun r _=>r = Tu [Ag [S [],S [],S []],zP,Bo false]):=by
 refine h.mono ?_
 rintro v G' L' ⟨h1,h2,⟨_,h3⟩ | ⟨k',v',b',h3,_⟩⟩
 ·exact ⟨h1,h2,h3⟩
 ·rw [e] at h3;cases h3
theorem eH.yes {f : FuncId} {args : List Value} {ts : List Ty} {o : Option (ac1 × V)} {k' : ac1} {v' : V} (h : bi ac0 f args G (eH ts o)) (e : o = some (k',v')) : bi ac0 f args G (fun r G'=>∃ c',r = Tu [Ag [S (sg k'),S (bs k'),S (nm k')],Ag (bx c'),Bo true] ∧ V.rep G' v' c'):=by
 refine h.mono ?_
 rintro v G' L' ⟨h1,h2,⟨h3,_⟩ | ⟨k2,v2,b',h3,h4,h5⟩⟩
 ·rw [e] at h3;cases h3
 ·rw [e] at h3
  simp only [Option.some.injEq,Prod.mk.injEq] at h3
  obtain ⟨rfl,rfl⟩:=h3
  exact ⟨h1,h2,b',h4,h5⟩
theorem zf {b : Nat} {k : ac1} {ts : List Ty} {ks : List V} {c : VC} {n : Int} (hr : V.rep G (.nd 91 [] 0 ks) c) (hn : 0 ≤ n ∧ n ≤ 999999) (hkl : ks.length ≤ 1000000) :
  bi ac0 100 [Pt b 0,Ag (cS (91 :: k)),Ag (bx c),I n] G (eH ts (bH ts (91 :: k) (.nd 91 [] 0 ks) n)):=by
 obtain ⟨e1,e2,e3,_⟩:=gA (c:=91) (k:=k) (.inl rfl)
 have cx_sign:=@gQ G 91 (sg k) (bs k) (nm k)
 have cx_pt:=@kY G 91 (sg k) (bs k) (nm k)
 obtain ⟨a,kc,cs,rfl,_,_,_,hcl,hsl,hrs⟩:=fu hr
 have hst:=iz (ts:=ts) (c:=91) (r:=k) (v:=.nd 91 [] 0 ks) (n:=n) (.inl rfl)
 rw [V.kids] at hst
 rw [hst]
 unfold cS
 rw [e1,e2,e3]
 have e0 : bx ⟨91,[],0,a,ks.length,kc⟩ = [U8 (91 : Nat),S [],I 0,.slice a ks.length kc]:=rfl
 rw [e0]
 by_cases hn2 : n < ((ks.length : Nat) : Int)
 ·obtain ⟨i,rfl⟩ : ∃ i : Nat,n = i:=⟨n.toNat,oM⟩
  obtain ⟨xb,xo,xc,e,hsx⟩:=hsl.expl oM
  simp only [Value.slice.injEq] at e
  obtain ⟨rfl,-,rfl⟩:=e
  have hri:=gv hrs i oM
  obtain ⟨d,hxi⟩ : ∃ d,ae cs i = d:=⟨_,rfl⟩
  rw [hxi] at hri
  rw [if_pos hn2]
  refine jB [(0,_),(1,_),(2,_),(3,_)] Tryz.func100 Tryz.ntmps100 fun B hok hB hW=>?_
  repeat' (first | refine jR ?_ | (refine jo ?_;first | refine jO fun _=>?_ | refine jL fun _=>?_ | refine ak F ?_ | refine aN F ?_ | refine jV (al F) ?_ | refine ab F F F cx_sign F ?_) | refine ac F F ?_ | refine ad F (aA oM) ?_)
  rename_i y5 y6 y8 y9
  (refine ai (am (id:=5) [.blk y6 (.cells (List.toArray [U8 (91 : Nat),S [],I 0,.slice (some ⟨xb,xo,none⟩) ks.length kc]) du (0,0)),.blk y5 (.cells (List.toArray [S (91 :: sg k),S (bs k),S (nm k)]) eI (0,0))] (by intro y hy;simp only [List.mem_cons,List.not_mem_nil,or_false] at hy ⊢;rcases hy with hy | hy <;> simp [hy]) ah ?_);refine jW 8 [2,4] (aa 10 20) ?_;(refine jG (aa 10 21) 0 F (bo F F F F) ?_);(refine jG (aa 10 29) 3 F (aD F F F) ?_);((refine jG (aa 10 61) 5 F (ay F F ?_) ?_;focus omega));((refine jG (aa 10 125) 6 F (mK F F aS ?_ aS) ?_;focus omega));refine jA 1 F ?_;(refine ab F F F cx_pt F ?_);refine jK (aa 10 127) ?_;refine jA 7 F ?_;(refine jC F F F ?_);refine jK (aa 10 255) ?_;refine jA 8 F ?_;(refine jC F F F ?_);refine jK (aa 10 511) ?_;refine jW 0 [9] (aa 10 1023) ?_;refine jQ ?_)
  all_goals repeat' (refine jR ?_)
  all_goals refine jZ (vs:=[_,_,_]) F ⟨av F F F F,av F F F F,F,trivial⟩ F ⟨Gh.le.refl _,F,?_⟩
  all_goals exact .inr ⟨k,ae ks i,d,F,F,hri⟩
 ·rw [if_neg hn2]
  refine jB [(0,_),(1,_),(2,_),(3,_)] Tryz.func100 Tryz.ntmps100 fun B hok hB hW=>?_
  repeat' (first | refine jR ?_ | (refine jo ?_;first | refine jO fun _=>?_ | refine jL fun _=>?_ | refine ak F ?_ | refine aN F ?_ | refine jV (al F) ?_ | refine jV (an F F) ?_ | refine jC F F F ?_ | refine ab F F F cx_sign F ?_) | (refine ac F (by first | rfl | (refine decide_eq_true ?_;(omega))) ?_))
  all_goals refine jZ (vs:=[_,_,_]) F ⟨av F F F F,av F F F F,F,trivial⟩ F ⟨Gh.le.refl _,F,?_⟩
  all_goals exact .inl ⟨F,F⟩
theorem tR {b : Nat} {k : ac1} {ts : List Ty} {ks : List V} {c : VC} {n : Int} (hks : ks = [] ∨ ∃ w,ks = [w]) (hr : V.rep G (.nd 63 [] 0 ks) c) (hn : 0 ≤ n ∧ n ≤ 999999) :
  bi ac0 100 [Pt b 0,Ag (cS (63 :: k)),Ag (bx c),I n] G (eH ts (bH ts (63 :: k) (.nd 63 [] 0 ks) n)):=by
 obtain ⟨e1,e2,e3,_⟩:=gA (c:=63) (k:=k) (.inr rfl)
 have cx_sign:=@gQ G 63 (sg k) (bs k) (nm k)
 have cx_pt:=@kY G 63 (sg k) (bs k) (nm k)
 obtain ⟨a,kc,cs,rfl,_,_,_,hcl,hsl,hrs⟩:=fu hr
 have hst:=iz (ts:=ts) (c:=63) (r:=k) (v:=.nd 63 [] 0 ks) (n:=n) (.inr rfl)
 rw [V.kids] at hst
 rw [hst]
 unfold cS
 rw [e1,e2,e3]
 have e0 : bx ⟨63,[],0,a,ks.length,kc⟩ = [U8 (63 : Nat),S [],I 0,.slice a ks.length kc]:=rfl
 rw [e0]
 rcases hks with rfl | ⟨w,rfl⟩
 ·rw [if_neg (by simp;omega)]
  by_cases hn0 : n = 0
  all_goals
   refine jB [(0,_),(1,_),(2,_),(3,_)] Tryz.func100 Tryz.ntmps100 fun B hok hB hW=>?_
   repeat' (first | refine jR ?_ | (refine jo ?_;first | refine jO fun _=>?_ | refine jL fun _=>?_ | refine ak F ?_ | refine aN F ?_ | refine jV (al F) ?_ | refine jV (an F F) ?_ | refine jC F F F ?_ | refine aH F ?_ | refine aw F ?_ | refine ab F F F cx_sign F ?_) | refine ax F F (ar ‹_›) ?_ | refine aj F F (aA oM) ?_ | refine ac F F ?_ | refine ad F F ?_)
   all_goals refine jZ (vs:=[_,_,_]) F ⟨av F F F F,av F F F F,F,trivial⟩ F ⟨Gh.le.refl _,F,?_⟩
   all_goals exact .inl ⟨F,F⟩
 ·rw [V.reps] at hrs
  obtain ⟨d,cs2,rfl,hri,hr2⟩:=hrs
  rw [V.reps] at hr2
  subst hr2
  have hsl : bR G (.slice a 1 kc) 4 ([d] : List VC).length (aI bx [d]):=hsl
  obtain ⟨xb,xo,xc,e,hsx⟩:=hsl.expl (by simp)
  simp only [Value.slice.injEq] at e
  obtain ⟨rfl,-,rfl⟩:=e
  have hxi : ae [d] (Int.toNat 0) = d:=rfl
  show bi _ _ [Pt b 0,Ag [S (63 :: sg k),S (bs k),S (nm k)],Ag [U8 (63 : Nat),S [],I 0,.slice (some ⟨xb,xo,none⟩) 1 kc],I n] G _
  by_cases hn0 : n = 0
  ·subst hn0
   rw [if_pos (by simp)]
   refine jB [(0,_),(1,_),(2,_),(3,_)] Tryz.func100 Tryz.ntmps100 fun B hok hB hW=>?_
   repeat' (first | refine jR ?_ | (refine jo ?_;first | refine jO fun _=>?_ | refine jL fun _=>?_ | refine ak F ?_ | refine aN F ?_ | refine jV (al F) ?_ | refine aw F ?_ | refine ab F F F cx_sign F ?_) | refine aj F F F ?_ | refine ac F F ?_ | refine ad F F ?_)
   rename_i y5 y6 y8 y9
   (refine ai (am (id:=9) [.blk y6 (.cells (List.toArray [U8 (63 : Nat),S [],I 0,.slice (some ⟨xb,xo,none⟩) 1 kc]) du (0,0)),.blk y5 (.cells (List.toArray [S (63 :: sg k),S (bs k),S (nm k)]) eI (0,0))] (by intro y hy;simp only [List.mem_cons,List.not_mem_nil,or_false] at hy ⊢;rcases hy with hy | hy <;> simp [hy]) ah ?_);refine jW 8 [2] (aa 9 4) ?_;(refine jG (aa 9 5) 0 F (bo F F F F) ?_);(refine jG (aa 9 13) 3 F (aD F F F) ?_);((refine jG (aa 9 29) 4 F (be F F ?_) ?_;focus omega));((refine jG (aa 9 61) 5 F (mK F F aS ?_ aS) ?_;(focus ((simp only [List.length_append,List.length_cons,List.length_nil,List.length_take];omega);done))));refine jA 1 F ?_;(refine ab F F F cx_pt F ?_);refine jK (aa 9 63) ?_;refine jA 6 F ?_;(refine jC F F F ?_);refine jK (aa 9 127) ?_;refine jA 7 F ?_;(refine jC F F F ?_);refine jK (aa 9 255) ?_;refine jW 0 [8] (aa 9 511) ?_;refine jQ ?_)
   all_goals repeat' (refine jR ?_)
   all_goals refine jZ (vs:=[_,_,_]) F ⟨av F F F F,av F F F F,F,trivial⟩ F ⟨Gh.le.refl _,F,?_⟩
   all_goals exact .inr ⟨k,w,d,F,F,hri⟩
  ·rw [if_neg (show ¬ n < (([w].length : Nat) : Int) by show ¬ n < ((1 : Nat) : Int);omega)]
   refine jB [(0,_),(1,_),(2,_),(3,_)] Tryz.func100 Tryz.ntmps100 fun B hok hB hW=>?_
   repeat' (first | refine jR ?_ | (refine jo ?_;first | refine jO fun _=>?_ | refine jL fun _=>?_ | refine aN F ?_ | refine jV (an F F) ?_ | refine jC F F F ?_ | refine aH F ?_ | refine ab F F F cx_sign F ?_) | refine ax F F (ar ‹_›) ?_ | refine ac F F ?_ | refine ad F F ?_)
   all_goals refine jZ (vs:=[_,_,_]) F ⟨av F F F F,av F F F F,F,trivial⟩ F ⟨Gh.le.refl _,F,?_⟩
   all_goals exact .inl ⟨F,F⟩
theorem ze {b : Nat} {x : ac1} {ts : List Ty} {v : V} {c : VC} {n : Int} (hx : x = [110] ∨ x = [116] ∨ x = [102]) :
  bi ac0 100 [Pt b 0,Ag (cS x),Ag (bx c),I n] G (eH ts (bH ts x v n)):=by
 have hno : bH ts x v n = none:=by
  rcases hx with rfl | rfl | rfl
  all_goals exact nu dC dC dC
 rw [hno]
 obtain ⟨w,tx,tg,a,m,kc⟩:=c
 have e0 : bx ⟨w,tx,tg,a,m,kc⟩ = [U8 (w : Nat),S tx,I tg,.slice a m kc]:=rfl
 rw [e0]
 have e1 : cS x = [S [],S x,S []]:=by rcases hx with rfl | rfl | rfl <;> rfl
 rw [e1]
 have cx_sign:=@di G x []
 have hx64 : ¬ x = [64]:=by rcases hx with rfl | rfl | rfl <;> decide
 refine jB [(0,_),(1,_),(2,_),(3,_)] Tryz.func100 Tryz.ntmps100 fun B hok hB hW=>?_
 repeat' (first | refine jR ?_ | (refine jo ?_;first | refine jO fun _=>?_ | refine jL fun _=>?_ | refine ak F ?_ | refine aN F ?_ | refine jV (an F F) ?_ | refine jC F F F ?_ | refine ab F F F cx_sign F ?_) | refine ac F (ar ‹_›) ?_ | refine ad F F ?_)
 all_goals refine jZ (vs:=[_,_,_]) F ⟨av F F F F,av F F F F,F,trivial⟩ F ⟨Gh.le.refl _,F,?_⟩
 all_goals exact .inl ⟨F,F⟩
theorem wV {qs : List co} {k : ac1} {t : Ty} (hki : aE (ag qs) k = true) (hrf : aT (ag qs) k = some t) : cS k = [S [],S [64],S (nm k)] ∧ ∃ p,en qs (nm k) = some (p,t) ∧ (p,t) ∈ qs:=by
 obtain ⟨r,rfl⟩:=ec hrf
 have h91 : ¬ ((64 : UInt8).toNat = 91 ∨ (64 : UInt8).toNat = 63):=by decide
 have hsg:=i9 (r:=r) h91
 have hcs:=eE (r:=r) h91
 have hrn : (bz (bj (64 :: r))).isSome = true:=by rw [hcs];rfl
 have hbs : bs (64 :: r) = [64]:=(i5 (cR hki)).2 hrn
 have hnm : bz (64 :: r) = some (nm (64 :: r)):=by unfold nm;rw [hcs];rfl
 have hft : gn (ag qs) (nm (64 :: r)) = some t:=by unfold aT at hrf;rw [hnm] at hrf;exact hrf
 rw [← gD] at hft
 rcases hfq : en qs (nm (64 :: r)) with _ | ⟨p,t'⟩
 ·rw [hfq] at hft;cases hft
 rw [hfq] at hft
 obtain rfl : t' = t:=Option.some.inj hft
 exact ⟨by unfold cS;rw [hsg,hbs],p,rfl,gM hfq⟩
theorem y7 {b : Nat} {qs : List co} {k : ac1} {t : Ty} {v : V} {c : VC} {n : Int} (hS : ScI G b qs) (hw : SchW (ag qs)) (hki : aE (ag qs) k = true) (hrf : aT (ag qs) k = some t) (ho : OfK (ag qs) k v) (hr : V.rep G v c) (hn : 0 ≤ n ∧ n ≤ 999999) (htt : v.tot ≤ 1000000) :
  bi ac0 100 [Pt b 0,Ag (cS k),Ag (bx c),I n] G (eH (ag qs) (bH (ag qs) k v n)):=by
 obtain ⟨hkd,p,hfq,hqm⟩:=wV hki hrf
 have hst:=j6 (v:=v) (n:=n) hrf
 have htm:=bJ hrf
 have hW:=hw.ty t htm
 obtain ⟨fv,ln,hsg,hfv⟩:=hS.ty _ hqm
 dsimp only at hsg hfv
 have hkv:=gz qs (nm k)
 rw [hfq] at hkv
 dsimp only [Option.map_some] at hkv
 obtain ⟨u,m,g1,g2,g3⟩:=hS.at'
 have hfl:=hW.len
 have cx_sign:=@di G [64] (nm k)
 rw [hkd]
 cases hg : br t.fields n with
 | none =>
  rw [hg] at hst
  dsimp only at hst
  rw [hst]
  have cx_fld:=dV (tag:=n) hsg hfv oM hg
  obtain ⟨w,tx,tg,a,mm,kc⟩:=c
  have e0 : bx ⟨w,tx,tg,a,mm,kc⟩ = [U8 (w : Nat),S tx,I tg,.slice a mm kc]:=rfl
  rw [e0]
  refine jB [(0,_),(1,_),(2,_),(3,_)] Tryz.func100 Tryz.ntmps100 fun B hok hB hW=>?_
  repeat' (first | refine jR ?_ | (refine jo ?_;first | refine jO fun _=>?_ | refine jL fun _=>?_ | refine ak F ?_ | refine aN F ?_ | refine ab F F F cx_sign F ?_) | refine ad F F ?_)
  rename_i y5 y6 y8 y9
  (refine ai (am (id:=12) [.blk y9 (.cells (List.toArray [U8 0,S [],I 0,aJ]) du (0,0)),.blk y8 (.cells (List.toArray [S [],S [],S []]) eI (0,0)),.blk y6 (.cells (List.toArray [U8 (w : Nat),S tx,I tg,.slice a mm kc]) du (0,0)),.blk y5 (.cells (List.toArray [S [],S [64],S (nm k)]) eI (0,0))] (by intro y hy;simp only [List.mem_cons,List.not_mem_nil,or_false] at hy ⊢;rcases hy with hy | hy | hy | hy <;> simp [hy]) ah ?_);refine jT 4 [0,1,2,4] (aa 8 23) ?_;(refine jG (aa 8 31) 3 F (ao F F aS F F) ?_);(refine jG (aa 8 63) 5 F (aD F F F) ?_);((refine jG (aa 8 127) 6 F (bY F F (dO aS) aS F) ?_));refine jT 0 [7] (aa 8 255) ?_;refine jQ ?_)
  all_goals repeat' (first | refine jR ?_ | (refine jo ?_;first | refine jV (an F F) ?_ | refine jC F F F ?_ | refine aH F ?_ | refine jV (b8 F F) ?_ | refine ab F F F cx_fld F ?_) | refine ax F F F ?_ | refine ac F F ?_)
  all_goals refine jZ (vs:=[_,_,_]) F ⟨av F F F F,av F F F F,F,trivial⟩ F ⟨Gh.le.refl _,F,?_⟩
  all_goals exact .inl ⟨F,F⟩
 | some f =>
  rw [hg] at hst
  dsimp only at hst
  obtain ⟨j,hj,hjf,hjn,hjx⟩:=d9 hg
  obtain ⟨bf,of,cf,rfl,hsf⟩:=hfv.expl oM
  have cx_fld:=eG hsg hsf oM hj hjf hjn
  subst hjx
  rcases hW.sort with hso | hso | hso
  ·rw [if_neg oM,if_pos hso] at hst
   rw [hst]
   rcases dH ho hrf with ⟨_,fs,rfl,g4,g5,_,_⟩ | ⟨h1,_⟩ | ⟨h1,_⟩
   ·have h9 : fs.length ≤ 1000000:=by
     have h7:=dx (fs.map aU)
     rw [cC] at htt
     have e1 : (fs.map aU).length = fs.length:=by simp
     omega
    have cx_ge:=aba hS hw htm hso hsf hj hr h9
    obtain ⟨a,kc,cs,rfl,_,_,_,hcl,hsl,hrs⟩:=fu hr
    have hml : (fs.map aU).length = fs.length:=by simp
    have e0 : bx ⟨82,[],0,a,(fs.map aU).length,kc⟩ = [U8 (82 : Nat),S [],I 0,.slice a fs.length kc]:=by rw [← hml];rfl
    rw [e0] at cx_ge ⊢
    refine jB [(0,_),(1,_),(2,_),(3,_)] Tryz.func100 Tryz.ntmps100 fun B hok hB hW=>?_
    repeat' (first | refine jR ?_ | (refine jo ?_;first | refine jO fun _=>?_ | refine jL fun _=>?_ | refine ak F ?_ | refine aN F ?_ | refine ab F F F cx_sign F ?_) | refine ad F F ?_)
    rename_i y5 y6 y8 y9
    (refine ai (am (id:=12) [.blk y9 (.cells (List.toArray [U8 0,S [],I 0,aJ]) du (0,0)),.blk y8 (.cells (List.toArray [S [],S [],S []]) eI (0,0)),.blk y6 (.cells (List.toArray [U8 (82 : Nat),S [],I 0,.slice a fs.length kc]) du (0,0)),.blk y5 (.cells (List.toArray [S [],S [64],S (nm k)]) eI (0,0))] (by intro y hy;simp only [List.mem_cons,List.not_mem_nil,or_false] at hy ⊢;rcases hy with hy | hy | hy | hy <;> simp [hy]) ah ?_);refine jT 4 [0,1,2,4] (aa 8 23) ?_;(refine jG (aa 8 31) 3 F (ao F F aS F F) ?_);(refine jG (aa 8 63) 5 F (aD F F F) ?_);((refine jG (aa 8 127) 6 F (bY F F (dO aS) aS F) ?_));refine jT 0 [7] (aa 8 255) ?_;refine jQ ?_)
    all_goals repeat' (first | refine jR ?_ | (refine jo ?_;first | refine jV (ao F F aS F F) ?_ | refine aw F ?_ | refine jV (b8 F F) ?_ | refine ab F F F cx_fld F ?_) | (refine aj F F (by first | rfl | (refine decide_eq_false ?_;(omega))) ?_) | (refine ad F (by first | rfl | (refine decide_eq_false ?_;(omega))) ?_))
    all_goals (refine ai (am (id:=18) [.blk y6 (.cells (List.toArray [U8 (82 : Nat),S [],I 0,.slice a fs.length kc]) du (0,0)),.blk y5 (.cells (List.toArray [S [],S [64],S (nm k)]) eI (0,0))] (by intro y hy;simp only [List.mem_cons,List.not_mem_nil,or_false] at hy ⊢;rcases hy with hy | hy <;> simp [hy]) ah ?_);refine jW 6 [0,1,2,4,6] (aa 11 87) ?_;((refine jG (aa 11 95) 3 F (fO F F aS ?_ F F) ?_;focus omega));(refine jG (aa 11 127) 5 F (bo F F F F) ?_);refine jA 7 F ?_;(refine aK F F F cx_ge F ?_;rintro _ G hle ⟨cv,rfl,hrv⟩;skip);refine jK (aa 11 255) ?_;refine jA 8 F ?_;(refine jC F F F ?_);refine jK (aa 11 511) ?_;refine jA 9 F ?_;(refine jC F F F ?_);refine jK (aa 11 1023) ?_;refine jW 0 [10] (aa 11 2047) ?_;refine jQ ?_)
    all_goals repeat' (refine jR ?_)
    all_goals refine jZ (vs:=[_,_,_]) F ⟨av F F F F,av F F F F,F,trivial⟩ F ⟨hle,F,?_⟩
    all_goals exact .inr ⟨_,_,cv,F,F,hrv⟩
   ·omega
   ·omega
  ·rw [if_neg oM,if_neg oM] at hst
   rcases dH ho hrf with ⟨h1,_⟩ | ⟨h1,_⟩ | ⟨_,_,d,w,rfl,g4,g5⟩
   ·omega
   ·omega
   ·obtain ⟨a,kc,cs,rfl,_,_,_,hcl,hsl,hrs⟩:=fu hr
    rw [V.reps] at hrs
    obtain ⟨c1,cs2,rfl,hri,hr2⟩:=hrs
    rw [V.reps] at hr2
    subst hr2
    have hsl : bR G (.slice a 1 kc) 4 ([c1] : List VC).length (aI bx [c1]):=hsl
    obtain ⟨xb,xo,xc,e,hsx⟩:=hsl.expl (by simp)
    simp only [Value.slice.injEq] at e
    obtain ⟨rfl,-,rfl⟩:=e
    have hxi : ae [c1] (Int.toNat 0) = c1:=rfl
    show bi _ _ [Pt b 0,Ag [S [],S [64],S (nm k)],Ag [U8 (85 : Nat),S [],I d.tag,.slice (some ⟨xb,xo,none⟩) 1 kc],I n] G _
    by_cases hdn : d.tag = n
    ·rw [if_pos (show V.tag (.nd 85 [] d.tag [w]) = n from hdn)] at hst
     rw [hst]
     refine jB [(0,_),(1,_),(2,_),(3,_)] Tryz.func100 Tryz.ntmps100 fun B hok hB hW=>?_
     repeat' (first | refine jR ?_ | (refine jo ?_;first | refine jO fun _=>?_ | refine jL fun _=>?_ | refine ak F ?_ | refine aN F ?_ | refine ab F F F cx_sign F ?_) | refine ad F F ?_)
     rename_i y5 y6 y8 y9
     (refine ai (am (id:=12) [.blk y9 (.cells (List.toArray [U8 0,S [],I 0,aJ]) du (0,0)),.blk y8 (.cells (List.toArray [S [],S [],S []]) eI (0,0)),.blk y6 (.cells (List.toArray [U8 (85 : Nat),S [],I d.tag,.slice (some ⟨xb,xo,none⟩) 1 kc]) du (0,0)),.blk y5 (.cells (List.toArray [S [],S [64],S (nm k)]) eI (0,0))] (by intro y hy;simp only [List.mem_cons,List.not_mem_nil,or_false] at hy ⊢;rcases hy with hy | hy | hy | hy <;> simp [hy]) ah ?_);refine jT 4 [0,1,2,4] (aa 8 23) ?_;(refine jG (aa 8 31) 3 F (ao F F aS F F) ?_);(refine jG (aa 8 63) 5 F (aD F F F) ?_);((refine jG (aa 8 127) 6 F (bY F F (dO aS) aS F) ?_));refine jT 0 [7] (aa 8 255) ?_;refine jQ ?_)
     all_goals repeat' (first | refine jR ?_ | (refine jo ?_;first | refine ak F ?_ | refine jV (ao F F aS F F) ?_ | refine aH F ?_ | refine aw F ?_ | refine jV (b8 F F) ?_ | refine ab F F F cx_fld F ?_) | refine ax F F (ar oM) ?_ | (refine aj F F (by first | rfl | (refine decide_eq_false ?_;(omega))) ?_) | refine ac F (ar oM) ?_ | refine ad F (aA oM) ?_)
     all_goals (refine ai (am (id:=17) [.blk y6 (.cells (List.toArray [U8 (85 : Nat),S [],I d.tag,.slice (some ⟨xb,xo,none⟩) 1 kc]) du (0,0)),.blk y5 (.cells (List.toArray [S [],S [64],S (nm k)]) eI (0,0))] (by intro y hy;simp only [List.mem_cons,List.not_mem_nil,or_false] at hy ⊢;rcases hy with hy | hy <;> simp [hy]) ah ?_);refine jW 7 [0,1,2,4] (aa 11 23) ?_;((refine jG (aa 11 31) 3 F (fO F F aS ?_ F F) ?_;focus omega));(refine jG (aa 11 63) 5 F (aD F F F) ?_);((refine jG (aa 11 127) 6 F (be F F ?_) ?_;focus omega));((refine jG (aa 11 255) 7 F (mK F F aS ?_ aS) ?_;(focus ((simp only [List.length_append,List.length_cons,List.length_nil,List.length_take];omega);done))));refine jA 8 F ?_;(refine jC F F F ?_);refine jK (aa 11 511) ?_;refine jA 9 F ?_;(refine jC F F F ?_);refine jK (aa 11 1023) ?_;refine jW 0 [10] (aa 11 2047) ?_;refine jQ ?_)
     all_goals repeat' (refine jR ?_)
     all_goals refine jZ (vs:=[_,_,_]) F ⟨av F F F F,av F F F F,F,trivial⟩ F ⟨Gh.le.refl _,F,?_⟩
     all_goals exact .inr ⟨_,w,c1,F,F,hri⟩
    ·rw [if_neg (show ¬ V.tag (.nd 85 [] d.tag [w]) = n from hdn)] at hst
     rw [hst]
     refine jB [(0,_),(1,_),(2,_),(3,_)] Tryz.func100 Tryz.ntmps100 fun B hok hB hW=>?_
     repeat' (first | refine jR ?_ | (refine jo ?_;first | refine jO fun _=>?_ | refine jL fun _=>?_ | refine ak F ?_ | refine aN F ?_ | refine ab F F F cx_sign F ?_) | refine ad F F ?_)
     rename_i y5 y6 y8 y9
     (refine ai (am (id:=12) [.blk y9 (.cells (List.toArray [U8 0,S [],I 0,aJ]) du (0,0)),.blk y8 (.cells (List.toArray [S [],S [],S []]) eI (0,0)),.blk y6 (.cells (List.toArray [U8 (85 : Nat),S [],I d.tag,.slice (some ⟨xb,xo,none⟩) 1 kc]) du (0,0)),.blk y5 (.cells (List.toArray [S [],S [64],S (nm k)]) eI (0,0))] (by intro y hy;simp only [List.mem_cons,List.not_mem_nil,or_false] at hy ⊢;rcases hy with hy | hy | hy | hy <;> simp [hy]) ah ?_);refine jT 4 [0,1,2,4] (aa 8 23) ?_;(refine jG (aa 8 31) 3 F (ao F F aS F F) ?_);(refine jG (aa 8 63) 5 F (aD F F F) ?_);((refine jG (aa 8 127) 6 F (bY F F (dO aS) aS F) ?_));refine jT 0 [7] (aa 8 255) ?_;refine jQ ?_)
     all_goals repeat' (first | refine jR ?_ | (refine jo ?_;first | refine ak F ?_ | refine jV (ao F F aS F F) ?_ | refine jV (an F F) ?_ | refine jC F F F ?_ | refine aH F ?_ | refine aw F ?_ | refine jV (b8 F F) ?_ | refine ab F F F cx_fld F ?_) | refine ax F F (ar oM) ?_ | (refine aj F F (by first | rfl | (refine decide_eq_false ?_;(omega))) ?_) | refine ac F (ar ‹_›) ?_)
     all_goals refine jZ (vs:=[_,_,_]) F ⟨av F F F F,av F F F F,F,trivial⟩ F ⟨Gh.le.refl _,F,?_⟩
     all_goals exact .inl ⟨F,F⟩
  ·rw [if_pos hso] at hst
   rw [hst]
   obtain ⟨w,tx,tg,a,mm,kc⟩:=c
   have e0 : bx ⟨w,tx,tg,a,mm,kc⟩ = [U8 (w : Nat),S tx,I tg,.slice a mm kc]:=rfl
   rw [e0]
   refine jB [(0,_),(1,_),(2,_),(3,_)] Tryz.func100 Tryz.ntmps100 fun B hok hB hW=>?_
   repeat' (first | refine jR ?_ | (refine jo ?_;first | refine jO fun _=>?_ | refine jL fun _=>?_ | refine ak F ?_ | refine aN F ?_ | refine ab F F F cx_sign F ?_) | refine ad F F ?_)
   rename_i y5 y6 y8 y9
   (refine ai (am (id:=12) [.blk y9 (.cells (List.toArray [U8 0,S [],I 0,aJ]) du (0,0)),.blk y8 (.cells (List.toArray [S [],S [],S []]) eI (0,0)),.blk y6 (.cells (List.toArray [U8 (w : Nat),S tx,I tg,.slice a mm kc]) du (0,0)),.blk y5 (.cells (List.toArray [S [],S [64],S (nm k)]) eI (0,0))] (by intro y hy;simp only [List.mem_cons,List.not_mem_nil,or_false] at hy ⊢;rcases hy with hy | hy | hy | hy <;> simp [hy]) ah ?_);refine jT 4 [0,1,2,4] (aa 8 23) ?_;(refine jG (aa 8 31) 3 F (ao F F aS F F) ?_);(refine jG (aa 8 63) 5 F (aD F F F) ?_);((refine jG (aa 8 127) 6 F (bY F F (dO aS) aS F) ?_));refine jT 0 [7] (aa 8 255) ?_;refine jQ ?_)
   all_goals repeat' (first | refine jR ?_ | (refine jo ?_;first | refine jV (ao F F aS F F) ?_ | refine jV (an F F) ?_ | refine jC F F F ?_ | refine aH F ?_ | refine aw F ?_ | refine jV (b8 F F) ?_ | refine ab F F F cx_fld F ?_) | refine ax F F (ar oM) ?_ | refine aj F F F ?_ | refine ac F F ?_)
   all_goals refine jZ (vs:=[_,_,_]) F ⟨av F F F F,av F F F F,F,trivial⟩ F ⟨Gh.le.refl _,F,?_⟩
   all_goals exact .inl ⟨F,F⟩
theorem zg {b : Nat} {qs : List co} {k : ac1} {v : V} {c : VC} {n : Int} (hS : ScI G b qs) (hw : SchW (ag qs)) (hki : aE (ag qs) k = true) (ho : OfK (ag qs) k v) (hr : V.rep G v c) (hn : 0 ≤ n ∧ n ≤ 999999) (htt : v.tot ≤ 1000000) :
  bi ac0 100 [Pt b 0,Ag (cS k),Ag (bx c),I n] G (eH (ag qs) (bH (ag qs) k v n)):=by
 cases hrf : aT (ag qs) k with
 | some t=>exact y7 hS hw hki hrf ho hr hn htt
 | none =>
  obtain ⟨ch,r,rfl⟩:=gK hki
  by_cases h91 : ch.toNat = 91 ∨ ch.toNat = 63
  ·rcases iD ho oM with ⟨h1,_⟩ | ⟨h1,_⟩ | ⟨h1,_⟩ | ⟨h1,ks,_,_,rfl⟩ | ⟨h1,h2⟩
   ·omega
   ·omega
   ·omega
   ·obtain rfl:=bn h1 dC
    have:=dx ks
    rw [cC] at htt
    exact zf hr hn oM
   ·obtain rfl:=bn h1 dC
    rcases h2 with rfl | ⟨w,_,rfl⟩
    ·exact tR (.inl F) hr hn
    ·exact tR (.inr ⟨w,F⟩) hr hn
  ·exact ze (eK hki h91 hrf)
theorem we {b : Nat} {qs : List co} (hS : ScI G b qs) (hw : SchW (ag qs)) {p : List Int} {pv : Value} (hp : bR G pv 1 p.length (aI eh p)) (hpn : ∀ n ∈ p,0 ≤ n ∧ n ≤ 999999) (hpl : p.length ≤ 1000) {k : ac1} {v : V} {c : VC} (hr : V.rep G v c) (ho : OfK (ag qs) k v) (hki : aE (ag qs) k = true) (htt : v.tot ≤ 1000000) :
  bi ac0 64 [Pt b 0,Ag (cS k),Ag (bx c),pv] G (eH (ag qs) (bC (ag qs) k v p)):=by
 obtain ⟨pa,pc,rfl⟩:=hp.sl
 unfold cS
 have e0 : bx c = [U8 (c.what : Nat),S c.text,I c.tag,.slice c.a c.n c.c]:=rfl
 rw [e0]
 refine jB [(0,_),(1,_),(2,_),(3,_)] Tryz.func64 Tryz.ntmps64 fun B hok hB hW=>?_
 repeat' (first | refine jR ?_ | (refine jo ?_;first | refine jO fun _=>?_ | refine jL fun _=>?_ | refine jV (al F) ?_))
 rename_i y5 y6 y8 y9
 refine aR (ι:=ac1 × V × VC × Nat × Gh) (fun j=>((V.rep j.2.2.2.2 j.2.1 j.2.2.1 ∧ OfK (ag qs) j.1 j.2.1) ∧ (aE (ag qs) j.1 = true ∧ j.2.1.tot ≤ 1000000)) ∧ (Gh.le G j.2.2.2.2 ∧ j.2.2.2.1 ≤ p.length) ∧ bC (ag qs) k v p = bC (ag qs) j.1 j.2.1 (p.drop j.2.2.2.1)) (fun j=>[(0,Pt b 0),(5,Pt y5 0),(6,Pt y6 0),(8,Pt y8 0),(9,Pt y9 0),(14,.slice pa p.length pc),(15,I p.length),(16,I j.2.2.2.1)]) (fun j=>j.2.2.2.2) (fun j=>[.blk y9 (.cells (List.toArray [U8 0,S [],I 0,aJ]) du (0,0)),.blk y8 (.cells (List.toArray [S [],S [],S []]) eI (0,0)),.blk y6 (.cells (List.toArray [U8 (j.2.2.1.what : Nat),S j.2.2.1.text,I j.2.2.1.tag,.slice j.2.2.1.a j.2.2.1.n j.2.2.1.c]) du (0,0)),.blk y5 (.cells (List.toArray [S (sg j.1),S (bs j.1),S (nm j.1)]) eI (0,0))]) (fun j=>p.length - j.2.2.2.1) (k,v,c,0,G) ?_ tU F aW (fun j Hj=>?_)
 ·exact ⟨⟨⟨hr,ho⟩,hki,htt⟩,⟨Gh.le.refl _,Nat.zero_le _⟩,F⟩
 obtain ⟨k0,v0,c0,i,Gq⟩:=j
 dsimp only at Hj ⊢
 obtain ⟨⟨⟨hr0,ho0⟩,hk0,ht0⟩,⟨hgq,hi0⟩,he⟩:=Hj
 by_cases hi : i < p.length
 ·obtain ⟨xb,xo,xc,e,hs1⟩:=(hp.mono hgq).expl oM
  simp only [Value.slice.injEq] at e
  obtain ⟨rfl,-,rfl⟩:=e
  have hni:=hpn _ (bB hi)
  have hti : ae p i = ae p i:=rfl
  have hstp:=zg (hS.mono hgq) hw hk0 ho0 hr0 hni ht0
  unfold cS at hstp
  rw [show bx c0 = [U8 (c0.what : Nat),S c0.text,I c0.tag,.slice c0.a c0.n c0.c] from rfl] at hstp
  rw [mL hi] at he
  cases hsv : bH (ag qs) k0 v0 (ae p i) with
  | none =>
   have cx_stn:=eH.no hstp hsv
   rw [hsv] at he
   repeat' (first | refine jR ?_ | (refine jo ?_;first | refine jV (ay F F oM) ?_ | refine aN F ?_ | (refine jV (dp F F aS ?_ aS F) ?_;focus omega) | refine jC F F F ?_ | refine jV (an F F) ?_ | (refine aK F F F cx_stn F ?_;rintro _ G hle rfl;skip)) | (refine ac F (by first | rfl | (refine decide_eq_true ?_;(omega))) ?_))
   all_goals refine jZ (vs:=[_,_,_]) F ⟨av F F F F,av F F F F,F,trivial⟩ F ⟨hgq.trans hle,F,?_⟩
   all_goals exact .inl ⟨he,F⟩
  | some y =>
   obtain ⟨k1,v1⟩:=y
   have cx_sty:=eH.yes hstp hsv
   rw [hsv] at he
   obtain ⟨g1,g2⟩:=gu hw ho0 hk0 hni.1 hsv
   have g3:=mf hw ho0 hk0 hni.1 hsv ht0 oM
   repeat' (first | refine jM ?_ | (refine jo ?_;first | refine jV (ay F F oM) ?_ | refine aN F ?_ | (refine jV (dp F F aS ?_ aS F) ?_;focus omega) | refine jC F F F ?_ | (refine aK F F F cx_sty F ?_;rintro _ G hle ⟨cv,rfl,hrv⟩;skip)) | refine ac F (ar oM) ?_ | refine ad F F ?_)
   exact aX (k1,v1,cv,i + 1,G) ⟨⟨⟨hrv,g1⟩,g2,g3⟩,⟨hgq.trans hle,by dsimp only;omega⟩,he⟩ (by dsimp only;omega) tU rfl aW
 ·have hd : p.drop i = []:=List.drop_eq_nil_of_le oM
  rw [hd] at he
  repeat' (first | refine jR ?_ | refine ad F (aA oM) ?_)
  (refine ai (am (id:=9) [.blk y6 (.cells (List.toArray [U8 (c0.what : Nat),S c0.text,I c0.tag,.slice c0.a c0.n c0.c]) du (0,0)),.blk y5 (.cells (List.toArray [S (sg k0),S (bs k0),S (nm k0)]) eI (0,0))] (by intro y hy;simp only [List.mem_cons,List.not_mem_nil,or_false] at hy ⊢;rcases hy with hy | hy <;> simp [hy]) ah ?_);(refine jG (aa 5 1) 0 F (bo F F F F) ?_);(refine jG (aa 5 3) 1 F (bo F F F F) ?_);refine jA 2 F ?_;(refine jC F F F ?_);refine jK (aa 5 7) ?_;refine jA 3 F ?_;(refine jC F F F ?_);refine jK (aa 5 15) ?_;refine jW 0 [4] (aa 5 31) ?_;refine jQ ?_)
  all_goals repeat' (refine jR ?_)
  all_goals refine jZ (vs:=[_,_,_]) F ⟨av F F F F,av F F F F,F,trivial⟩ F ⟨hgq,F,?_⟩
  all_goals exact .inr ⟨_,_,c0,he,F,hr0⟩
theorem nx {s : ac1} (h : s.length ≤ 1048576) (hp : cJ s = none) : ∀ G,bi ac0 63 [S s] G (fun v _=>∃ a c n,v = Tu [.slice a n c,Bo false] ∧ True):=fun G=>by
 refine (pH (G:=G) h).mono ?_
 rintro v G' L' ⟨h1,h2,a,c,n,rfl,_⟩
 exact ⟨h1,h2,a,c,n,by rw [hp];rfl,trivial⟩
theorem mo {s : ac1} {p : List Int} (h : s.length ≤ 1048576) (hp : cJ s = some p) : ∀ G,bi ac0 63 [S s] G (fun v G'=>∃ a c n,v = Tu [.slice a n c,Bo true] ∧ n = p.length ∧ bR G' (.slice a n c) 1 p.length (aI eh p)):=fun G=>by
 refine (pH (G:=G) h).mono ?_
 rintro v G' L' ⟨h1,h2,a,c,n,rfl,h3⟩
 exact ⟨h1,h2,a,c,n,by rw [hp];rfl,h3 p hp⟩
theorem uX {s k w p : ac1} (h1 : s.length ≤ 1048576 ∧ k.length ≤ 1048576 ∧ w.length ≤ 1048576 ∧ p.length ≤ 1048576) : aC ac0 24 [S s,S k,S w,S p] G (· = pgR (fe s k w p)):=by
 unfold fe
 cases hg : dT s k w with
 | none =>
  rw [wO]
  have cx_gi0:=sE (G:=G) (s:=s) (k:=k) (w:=w) oM hg
  cases hpo : cJ p with
  | none =>
   have cx_sp:=nx h1.2.2.2 hpo
   refine jB (Post:=fun v G' L'=>G' = G ∧ L' = [] ∧ _) [(0,_),(1,_),(2,_),(3,_)] Tryz.func24 Tryz.ntmps24 fun B hok hB hW=>?_
   repeat' (first | refine jR ?_ | (refine jo ?_;first | refine jL fun _=>?_ | refine jC F F F ?_ | refine aH F ?_ | (refine aK F F F cx_gi0 F ?_;rintro _ G hle ⟨p1,a1,b1,c1,rfl⟩;skip) | (refine aK F F F (cx_sp _) F ?_;rintro _ G hle ⟨sa,sc,sn,rfl,hsp⟩;skip)) | refine ax F F F ?_ | refine ac F F ?_)
   all_goals refine Nx.base hok hB ?_
   all_goals refine jY (vs:=[_,_,_]) ?_
   all_goals rfl
  | some q =>
   have cx_sp:=mo h1.2.2.2 hpo
   refine jB (Post:=fun v G' L'=>G' = G ∧ L' = [] ∧ _) [(0,_),(1,_),(2,_),(3,_)] Tryz.func24 Tryz.ntmps24 fun B hok hB hW=>?_
   repeat' (first | refine jR ?_ | (refine jo ?_;first | refine jL fun _=>?_ | refine jC F F F ?_ | refine aH F ?_ | (refine aK F F F cx_gi0 F ?_;rintro _ G hle ⟨p1,a1,b1,c1,rfl⟩;skip) | (refine aK F F F (cx_sp _) F ?_;rintro _ G hle ⟨sa,sc,sn,rfl,hsp⟩;skip)) | refine ax F F F ?_ | refine ac F F ?_)
   all_goals refine Nx.base hok hB ?_
   all_goals refine jY (vs:=[_,_,_]) ?_
   all_goals rfl
 | some u =>
  obtain ⟨ts,hs,hki,hvo,hto,hwf⟩:=lD hg
  have cx_gi1:=sD (G:=G) (s:=s) (k:=k) (w:=w) oM hs hki hvo
  rw [hs]
  cases hpo : cJ p with
  | none =>
   have cx_sp:=nx h1.2.2.2 hpo
   refine jB (Post:=fun v G' L'=>G' = G ∧ L' = [] ∧ _) [(0,_),(1,_),(2,_),(3,_)] Tryz.func24 Tryz.ntmps24 fun B hok hB hW=>?_
   repeat' (first | refine jR ?_ | (refine jo ?_;first | refine jL fun _=>?_ | refine jC F F F ?_ | refine aw F ?_ | (refine aK F F F cx_gi1 F ?_;rintro _ G hle ⟨bg,qg,cv,rfl,hTg,hRg,hrv⟩;skip) | (refine aK F F F (cx_sp _) F ?_;rintro _ G hle ⟨sa,sc,sn,rfl,hsp⟩;skip)) | refine aj F F F ?_ | refine ac F F ?_)
   all_goals refine Nx.base hok hB ?_
   all_goals refine jY (vs:=[_,_,_]) ?_
   all_goals rfl
  | some q =>
   have cx_sp:=mo h1.2.2.2 hpo
   obtain ⟨hq8,hqn⟩:=iC hpo
   have hof:=k5 hvo
   have hw:=cp hs
   dsimp only
   refine jB (Post:=fun v G' L'=>G' = G ∧ L' = [] ∧ _) [(0,_),(1,_),(2,_),(3,_)] Tryz.func24 Tryz.ntmps24 fun B hok hB hW=>?_
   repeat' (first | refine jR ?_ | (refine jo ?_;first | refine jL fun _=>?_ | refine jC F F F ?_ | refine aw F ?_ | refine aN F ?_ | (refine aK F F F cx_gi1 F ?_;rintro _ G hle ⟨bg,qg,cv,rfl,hTg,hRg,hrv⟩;(try have hrv:=fb hle hrv);(try have hRg:=ScI.mono hRg hle)) | (refine aK F F F (cx_sp _) F ?_;rintro _ G hle ⟨sa,sc,sn,rfl,hsp⟩;(try have hrv:=fb hle hrv);(try have hRg:=ScI.mono hRg hle))) | refine aj F F F ?_ | refine ad F F ?_)
   obtain ⟨rfl,hsp⟩:=hsp
   subst hTg
   have hfl:=we hRg hw hsp hqn oM hrv hof hki oM
   unfold cS at hfl
   rw [show bx cv = [U8 (cv.what : Nat),S cv.text,I cv.tag,.slice cv.a cv.n cv.c] from rfl] at hfl
   cases hfo : bC (ag qg) k u q with
   | none =>
    have cx_fon:=eH.no hfl hfo
    repeat' (first | refine jR ?_ | (refine jo ?_;first | refine jC F F F ?_ | (refine aK F F F cx_fon F ?_;rintro _ G hle rfl;skip)) | refine ac F F ?_)
    all_goals refine Nx.base hok hB ?_
    all_goals refine jY (vs:=[_,_,_]) ?_
    all_goals rfl
   | some y =>
    obtain ⟨k1,v1⟩:=y
    have cx_foy:=eH.yes hfl hfo
    have g3:=kK hw hof hki (fun n hn=>(hqn n hn).1) hfo (N:=1000000) oM oM
    obtain ⟨_,hk1⟩:=f6 hw hof hki (fun n hn=>(hqn n hn).1) hfo
    repeat' (first | refine jR ?_ | (refine jo ?_;first | refine jC F F F ?_ | (refine aK F F F cx_foy F ?_;rintro _ G hle ⟨cv,rfl,hrv⟩;skip)) | refine ad F F ?_)
    have cx_txt:=y3 (G:=G) (cR hk1)
    have cx_pr:=kX (G:=G) (c:=cv) v1.tot (Nat.le_refl _) g3 hrv
    unfold cS at cx_txt
    rw [show bx cv = [U8 (cv.what : Nat),S cv.text,I cv.tag,.slice cv.a cv.n cv.c] from rfl] at cx_pr
    rename_i y12 y13 _ _ _ _
    (refine ai (am (id:=8) _ (fun _ h=>h) ah ?_);(refine jG (aa 7 1) 0 F (bo F F F F) ?_);(refine jG (aa 7 5) 2 F (bo F F F F) ?_);refine jA 1 F ?_;(refine ab F F F cx_txt F ?_);refine jS (aa 7 7) ?_;refine jA 3 F ?_;(refine ab F F F cx_pr F ?_);refine jS (aa 7 15) ?_;refine jT 0 [4,5,6] (aa 7 127) ?_;refine jQ ?_)
    all_goals repeat' (refine jR ?_)
    all_goals refine Nx.base hok hB ?_
    all_goals refine jY (vs:=[_,_,_]) ?_
    all_goals rfl
theorem wg {v : V} {c : VC} (h : V.rep G v c) (ht : v.tot ≤ 1000000) : aC ac0 94 [Ag (bx c)] G (· = Bo (decide (v.out.length ≤ 400 ∧ v.deep ≤ 12))):=by
 have cx_pr:=kX (G:=G) v.tot (Nat.le_refl _) ht h
 have cx_dp:=wi (G:=G) v.tot (Nat.le_refl _) ht h
 have hdl:=oo v
 obtain ⟨w,tx,tg,a,m,kc⟩:=c
 have e0 : bx ⟨w,tx,tg,a,m,kc⟩ = [U8 (w : Nat),S tx,I tg,.slice a m kc]:=rfl
 rw [e0] at cx_pr cx_dp ⊢
 by_cases h1 : v.out.length ≤ 400
 ·by_cases h2 : v.deep ≤ 12
  ·rw [decide_eq_true (p:=v.out.length ≤ 400 ∧ v.deep ≤ 12) ⟨h1,h2⟩]
   refine jE [(0,_)] Tryz.func94 Tryz.ntmps94 fun B hB=>?_
   repeat' (first | refine jR ?_ | (refine jo ?_;first | refine jO fun _=>?_ | refine aN F ?_ | refine aH F ?_ | refine ab F F F cx_pr F ?_ | refine ab F F F cx_dp F ?_) | refine ax F F (ar oM) ?_)
   all_goals refine jY (vs:=[_]) ?_
   all_goals (rw [aB,decide_eq_true oM])
  ·rw [decide_eq_false (p:=v.out.length ≤ 400 ∧ v.deep ≤ 12) (fun h=>h2 h.2)]
   refine jE [(0,_)] Tryz.func94 Tryz.ntmps94 fun B hB=>?_
   repeat' (first | refine jR ?_ | (refine jo ?_;first | refine jO fun _=>?_ | refine aN F ?_ | refine aH F ?_ | refine ab F F F cx_pr F ?_ | refine ab F F F cx_dp F ?_) | refine ax F F (ar oM) ?_)
   all_goals refine jY (vs:=[_]) ?_
   all_goals (rw [aB,decide_eq_false oM])
 ·rw [decide_eq_false (p:=v.out.length ≤ 400 ∧ v.deep ≤ 12) (fun h=>h1 h.1)]
  refine jE [(0,_)] Tryz.func94 Tryz.ntmps94 fun B hB=>?_
  repeat' (first | refine jR ?_ | (refine jo ?_;first | refine jO fun _=>?_ | refine aN F ?_ | refine aw F ?_ | refine ab F F F cx_pr F ?_) | refine aj F F (aA oM) ?_)
  all_goals refine jY (vs:=[_]) ?_
  all_goals rfl
theorem xp {sc : Nat} {qs : List co} {k b : ac1} (hS : ScI G sc qs) (hw : SchW (ag qs)) (hk : aE (ag qs) k = true) (hb : b.length ≤ 1048576) (hno : ¬ (b.length ≤ 600 ∧ ∃ v,cN (rb (ag qs) 13) k b = some v ∧ v.out.length ≤ 400 ∧ v.deep ≤ 12)) :
  bi ac0 60 [Pt sc 0,Ag [S (sg k),S (bs k),S (nm k)],S b] G (fun v _=>∃ a n c,v = Tu [Ag [U8 (0 : Nat),S [],I 0,aJ],.slice a n c,Bo false]):=by
 by_cases hl : b.length ≤ 600
 case neg =>
  refine jB [(0,_),(1,_),(2,_)] Tryz.func60 Tryz.ntmps60 fun B hok hB hW=>?_
  repeat' (first | refine jR ?_ | (refine jo ?_;first | refine jO fun _=>?_ | refine jL fun _=>?_ | refine jV (an F F) ?_ | refine jC F F F ?_) | refine ac F (ar oM) ?_)
  all_goals refine jZ (vs:=[_,_,_]) F ⟨av F F F F,F,F,trivial⟩ F ⟨Gh.le.refl _,F,?_⟩
  all_goals exact ⟨_,_,_,F⟩
 refine jB [(0,_),(1,_),(2,_)] Tryz.func60 Tryz.ntmps60 fun B hok hB hW=>?_
 repeat' (first | refine jR ?_ | (refine jo ?_;first | refine jO fun _=>?_ | refine jL fun _=>?_ | refine jV (an F F) ?_ | refine aN F ?_) | refine ad F (aA oM) ?_)
 rename_i x4 x6 y
 have hv:=pN (sc:=sc) hw 13 (Nat.le_refl _) G y k b false hS hk oM
 rw [show (13 : Int) - ((13 : Nat) : Int) = 0 from rfl] at hv
 refine jo ?_
 refine dZ F F F hv F ?_
 rintro _ G1 _ hle ⟨u1,c1,t1,b1,a1,n1,k1,rfl,hrep,rfl,hsk,hP⟩
 dsimp only [zA,fA]
 obtain ⟨hQ1,hQ2,hQ3⟩:=kP hP
 clear hv hP
 cases b1 with
 | true =>
  repeat' (first | refine jR ?_ | (refine jo ?_;first | refine jL fun _=>?_ | refine jV (an F F) ?_ | refine jC F F F ?_ | refine ak F ?_ | refine aH F ?_) | refine ax F F F ?_ | refine ac F F ?_)
  all_goals refine jZ (vs:=[_,_,_]) F ⟨av F F F F,F,F,trivial⟩ F ⟨hle,F,?_⟩
  all_goals exact ⟨_,_,_,F⟩
 | false =>
  obtain ⟨h1,h2,h3⟩:=hQ2 rfl
  cases t1 with
  | cons e t1 =>
   repeat' (first | refine jR ?_ | (refine jo ?_;first | refine jL fun _=>?_ | refine jV (an F F) ?_ | refine jC F F F ?_ | refine ak F ?_ | refine aH F ?_ | refine aw F ?_) | refine ax F F F ?_ | refine aj F F F ?_ | refine ac F F ?_)
   all_goals refine jZ (vs:=[_,_,_]) F ⟨av F F F F,F,F,trivial⟩ F ⟨hle,F,?_⟩
   all_goals exact ⟨_,_,_,F⟩
  | nil =>
   simp only [List.length_nil] at h2
   have hnf : ¬ (u1.out.length ≤ 400 ∧ u1.deep ≤ 12):=fun h=>hno ⟨hl,u1,gw h1,h⟩
   have cx_fit:=wg hrep oM
   rw [decide_eq_false hnf] at cx_fit
   simp only [bx,VC.sl] at cx_fit
   dsimp only [bx,VC.sl]
   repeat' (first | refine jR ?_ | (refine jo ?_;first | refine jL fun _=>?_ | refine jV (an F F) ?_ | refine jC F F F ?_ | refine ak F ?_ | refine aN F ?_ | refine aw F ?_ | refine ab F F F cx_fit F ?_) | refine aj F F F ?_ | refine ac F F ?_)
   all_goals refine jZ (vs:=[_,_,_]) F ⟨av F F F F,F,F,trivial⟩ F ⟨hle,F,?_⟩
   all_goals exact ⟨_,_,_,F⟩
theorem xn {sc : Nat} {qs : List co} {k b : ac1} {v : V} (hS : ScI G sc qs) (hw : SchW (ag qs)) (hk : aE (ag qs) k = true) (hl : b.length ≤ 600) (hv : cN (rb (ag qs) 13) k b = some v) (ho : v.out.length ≤ 400) (hd : v.deep ≤ 12) :
  bi ac0 60 [Pt sc 0,Ag [S (sg k),S (bs k),S (nm k)],S b] G (fun r G'=>∃ c a n k',r = Tu [Ag (bx c),.slice a n k',Bo true] ∧ V.rep G' v c):=by
 have hin:=cL hv
 refine jB [(0,_),(1,_),(2,_)] Tryz.func60 Tryz.ntmps60 fun B hok hB hW=>?_
 repeat' (first | refine jR ?_ | (refine jo ?_;first | refine jO fun _=>?_ | refine jL fun _=>?_ | refine jV (an F F) ?_ | refine aN F ?_) | refine ad F (aA oM) ?_)
 rename_i x4 x6 y
 have hv2:=pN (sc:=sc) hw 13 (Nat.le_refl _) G y k b false hS hk oM
 rw [show (13 : Int) - ((13 : Nat) : Int) = 0 from rfl] at hv2
 refine jo ?_
 refine dZ F F F hv2 F ?_
 rintro _ G1 _ hle ⟨u1,c1,t1,b1,a1,n1,k1,rfl,hrep,rfl,hsk,hP⟩
 dsimp only [zA,fA]
 obtain ⟨hQ1,hQ2,hQ3⟩:=kP hP
 clear hv2 hP
 cases b1 with
 | true=>have:=hQ3 rfl;rw [hin] at this;cases this
 | false =>
  obtain ⟨h1,h2,h3⟩:=hQ2 rfl
  rw [hin] at h1
  simp only [Option.some.injEq,Prod.mk.injEq] at h1
  obtain ⟨rfl,rfl⟩:=h1
  simp only [List.length_nil] at h2
  have cx_fit:=wg hrep oM
  rw [decide_eq_true ⟨ho,hd⟩] at cx_fit
  simp only [bx,VC.sl] at cx_fit
  dsimp only [bx,VC.sl]
  repeat' (first | refine jR ?_ | (refine jo ?_;first | refine jL fun _=>?_ | refine jC F F F ?_ | refine ak F ?_ | refine aN F ?_ | refine aw F ?_ | refine ab F F F cx_fit F ?_) | refine aj F F F ?_ | refine ad F F ?_ | (refine ai (dA (id:=7) (tt:=6) F ah ?_);refine jW 5 [1,2,3] (aa 8 14) ?_;(refine jG (aa 8 15) 0 F (bo F F F F) ?_);(refine jG (aa 8 31) 4 F (aD F F F) ?_);refine jA 5 F ?_;(refine jC F F F ?_);refine jK (aa 8 63) ?_;refine jW 0 [6,7] (aa 8 255) ?_;refine jQ ?_))
  all_goals refine jZ (vs:=[_,_,_]) F ⟨av F F F F,F,F,trivial⟩ F ⟨hle,F,?_⟩
  all_goals exact ⟨c1,_,_,_,F,hrep⟩
theorem aag {s k b : ac1} (h : cP s k = false) : ik s k b = none:=by
 unfold ik
 unfold cP at h
 cases hs : aO s with
 | none=>rfl
 | some ts=>rw [hs] at h;dsimp only at h ⊢;rw [if_neg (by rw [h];simp)]
theorem kL {s k b : ac1} (h : s.length ≤ 1048576 ∧ k.length ≤ 1048576 ∧ b.length ≤ 1048576) : aC ac0 22 [S s,S k,S b] G (· = hY ((ik s k b).map V.out)):=by
 by_cases hk : cP s k = true
 case neg =>
  have hk2 : cP s k = false:=by simpa using hk
  have cx_bo1 : ∀ G,bi ac0 59 [S s,S k] G (fun v _=>∃ p a b c,v = Tu [p,Ag [S a,S b,S c],Bo false]):=fun G=>by
   refine (mW (G:=G) (s:=s) (k:=k) oM oM).mono ?_
   rintro v G' L' ⟨h1,h2,⟨h4,p,a,b,c,rfl⟩ | ⟨b,qs,rfl,h4,h5,h6⟩⟩
   ·exact ⟨h1,h2,p,a,b,c,F⟩
   ·unfold cP at hk;rw [h4] at hk;exact absurd h5 hk
  rw [aag hk2]
  refine jB (Post:=fun v G' L'=>G' = G ∧ L' = [] ∧ _) [(0,_),(1,_),(2,_)] Tryz.func22 Tryz.ntmps22 fun B hok hB hW=>?_
  repeat' (first | refine jR ?_ | (refine jo ?_;first | refine jL fun _=>?_ | refine jC F F F ?_ | (refine aK F F F (cx_bo1 _) F ?_;rintro _ G hle ⟨p1,a1,b1,c1,rfl⟩;skip)) | refine ac F F ?_)
  all_goals refine Nx.base hok hB ?_
  all_goals refine jY (vs:=[_,_]) ?_
  all_goals rfl
 case pos =>
  obtain ⟨ts,hs,hki⟩ : ∃ ts,aO s = some ts ∧ aE ts k = true:=by
   unfold cP at hk
   cases hs : aO s with
   | none=>rw [hs] at hk;cases hk
   | some ts=>rw [hs] at hk;exact ⟨ts,F,hk⟩
  have hw:=cp hs
  have cx_boa : ∀ G,bi ac0 59 [S s,S k] G (fun v G'=>∃ b qs,v = Tu [Pt b 0,Ag [S (sg k),S (bs k),S (nm k)],Bo true] ∧ ag qs = ts ∧ ScI G' b qs):=fun G=>by
   refine (mW (G:=G) (s:=s) (k:=k) oM oM).mono ?_
   rintro v G' L' ⟨h1,h2,⟨h4,_⟩ | ⟨b,qs,rfl,h4,h5,h6⟩⟩
   ·rw [h4] at hk;cases hk
   ·rw [hs] at h4;exact ⟨h1,h2,b,qs,F,(Option.some.inj h4).symm,h6⟩
  cases hg : ik s k b with
  | none =>
   refine jB (Post:=fun v G' L'=>G' = G ∧ L' = [] ∧ _) [(0,_),(1,_),(2,_)] Tryz.func22 Tryz.ntmps22 fun B hok hB hW=>?_
   repeat' (first | refine jR ?_ | (refine jo ?_;first | refine jL fun _=>?_ | refine jC F F F ?_ | refine aN F ?_ | (refine aK F F F (cx_boa _) F ?_;rintro _ G hle ⟨ba,qa,rfl,hT1,hR1⟩;skip)) | refine ad F F ?_)
   subst hT1
   have cx_fb0:=xp (G:=G) (b:=b) hR1 hw hki oM (fun h=>by
    obtain ⟨a1,v,a2,a3⟩:=h
    unfold ik at hg
    rw [hs] at hg
    dsimp only at hg
    rw [if_pos ⟨hki,a1⟩,a2] at hg
    dsimp only at hg
    rw [if_pos a3] at hg
    cases hg)
   repeat' (first | refine jR ?_ | (refine jo ?_;first | refine jL fun _=>?_ | refine jC F F F ?_ | (refine aK F F F cx_fb0 F ?_;rintro _ G hle ⟨za,zn,zk,rfl⟩;skip)) | refine ac F F ?_)
   all_goals refine Nx.base hok hB ?_
   all_goals refine jY (vs:=[_,_]) ?_
   all_goals rfl
  | some v =>
   obtain ⟨ts',hs',_,hl,hr,ho,hd⟩:=p8 hg
   obtain rfl : ts = ts':=by rw [hs] at hs';exact Option.some.inj hs'
   have htot:=jq _ _ _ _ _ (cL hr)
   simp only [List.length_nil] at htot
   refine jB (Post:=fun v G' L'=>G' = G ∧ L' = [] ∧ _) [(0,_),(1,_),(2,_)] Tryz.func22 Tryz.ntmps22 fun B hok hB hW=>?_
   repeat' (first | refine jR ?_ | (refine jo ?_;first | refine jL fun _=>?_ | refine jC F F F ?_ | refine aN F ?_ | (refine aK F F F (cx_boa _) F ?_;rintro _ G hle ⟨ba,qa,rfl,hT1,hR1⟩;skip)) | refine ad F F ?_)
   subst hT1
   have cx_fb1:=xn (G:=G) (b:=b) hR1 hw hki hl hr ho hd
   clear hr
   unfold hY
   dsimp only [Option.map,Option.getD,Option.isSome]
   repeat' (first | refine jR ?_ | (refine jo ?_;first | refine jL fun _=>?_ | refine jC F F F ?_ | refine aN F ?_ | (refine aK F F F cx_fb1 F ?_;rintro _ G hle ⟨c1,za,zn,zk,rfl,hrep⟩;skip)) | refine ad F F ?_)
   have cx_pr:=kX (G:=G) v.tot (Nat.le_refl _) oM hrep
   simp only [bx,VC.sl] at cx_pr
   generalize v.out = vo at cx_pr ⊢
   repeat' (first | refine jR ?_ | (refine jo ?_;refine ab F F F cx_pr F ?_))
   all_goals refine Nx.base hok hB ?_
   all_goals refine jY (vs:=[_,_]) ?_
   all_goals rfl
theorem l9 {s k b : ac1} (h : s.length ≤ 1048576 ∧ k.length ≤ 1048576 ∧ b.length ≤ 1048576) : aC ac0 23 [S s,S k,S b] G (· = Bo (cM s k b).isSome):=by
 have cx_bg1:=kL (G:=G) h
 cases hg : ik s k b with
 | none =>
  rw [hg] at cx_bg1
  unfold hY at cx_bg1
  dsimp only [Option.map,Option.getD,Option.isSome] at cx_bg1
  rw [yw hg]
  refine jE [(0,_),(1,_),(2,_)] Tryz.func23 Tryz.ntmps23 fun B hB=>?_
  repeat' (first | refine jR ?_ | (refine jo ?_;refine ab F F F cx_bg1 F ?_) | refine ac F F ?_)
  all_goals refine jY (vs:=[_]) ?_
  all_goals rfl
 | some v =>
  obtain ⟨ts,hs,hki,hl,hr,ho,hd⟩:=p8 hg
  rw [hg] at cx_bg1
  unfold hY at cx_bg1
  dsimp only [Option.map,Option.getD,Option.isSome] at cx_bg1
  have hpb:=nN hs hki (ll _ _ _ _ (cL hr)).1 hd ho
  have cx_bp1:=nM (G:=G) (s:=s) (k:=k) (w:=v.out) oM
  rw [hpb] at cx_bp1
  have hcn:=uD hg
  clear hg hpb hr
  generalize v.out = vo at cx_bg1 cx_bp1
  by_cases h6 : v.bys.length ≤ 600
  ·rw [if_pos h6] at cx_bp1
   dsimp only [Option.getD,Option.isSome] at cx_bp1
   have hres : (cM s k b).isSome = decide (v.bys = b):=by
    rw [hcn]
    by_cases h1 : v.bys = b
    ·rw [if_pos h1,decide_eq_true h1];rfl
    ·rw [if_neg h1,decide_eq_false h1];rfl
   rw [hres]
   clear hres hcn
   generalize v.bys = vb at cx_bp1 ⊢
   refine jE [(0,_),(1,_),(2,_)] Tryz.func23 Tryz.ntmps23 fun B hB=>?_
   repeat' (first | refine jR ?_ | (refine jo ?_;first | refine aH F ?_ | refine ab F F F cx_bg1 F ?_ | refine ab F F F cx_bp1 F ?_) | refine ax F F F ?_ | refine ad F F ?_)
   all_goals refine jY (vs:=[_]) ?_
   all_goals rfl
  ·rw [if_neg h6] at cx_bp1
   dsimp only [Option.getD,Option.isSome] at cx_bp1
   rw [if_neg (fun h1=>by rw [h1] at h6;exact h6 hl)] at hcn
   rw [hcn]
   refine jE [(0,_),(1,_),(2,_)] Tryz.func23 Tryz.ntmps23 fun B hB=>?_
   repeat' (first | refine jR ?_ | (refine jo ?_;first | refine aw F ?_ | refine ab F F F cx_bg1 F ?_ | refine ab F F F cx_bp1 F ?_) | refine aj F F F ?_ | refine ad F F ?_)
   all_goals refine jY (vs:=[_]) ?_
   all_goals rfl
variable {ts : List Ty}
theorem ul (hw : SchW ts) {k : ac1} {v : V} (h : OfK ts k v) (hk : aE ts k = true) {n : Int} (hn : 0 ≤ n) {k' : ac1} {v' : V} (e : bH ts k v n = some (k',v')) (hd : v.deep ≤ 12) (hl : v.out.length ≤ 400) : v'.deep ≤ 12 ∧ v'.out.length ≤ 400:=by
 obtain ⟨c,r,rfl⟩:=gK hk
 unfold bH at e
 dsimp only at e
 split at e
 ·rename_i hc
  split at e
  ·rename_i hlt
   simp only [Option.some.injEq,Prod.mk.injEq] at e
   obtain ⟨rfl,rfl⟩:=e
   rcases iD h oM with ⟨g1,_⟩ | ⟨g1,_⟩ | ⟨g1,_⟩ | ⟨g1,ks,g2,g3,rfl⟩ | ⟨g1,rfl | ⟨u,g3,rfl⟩⟩
   ·omega
   ·omega
   ·omega
   ·rw [V.kids] at hlt ⊢
    have hi : n.toNat < ks.length:=oM
    rw [ck dC] at hd
    rw [qF] at hl
    have h1:=V.deep_mem (bB hi)
    have h2:=kf (xs:=ks.map V.out) (List.mem_map_of_mem (f:=V.out) (bB hi))
    simp only [List.length_cons,List.length_append,List.length_nil] at hl
    exact ⟨oM,oM⟩
   ·simp [V.kids] at hlt;omega
   ·simp [V.kids] at hlt
    obtain rfl : n = 0:=oM
    rw [ck dC] at hd
    have e1 : V.out (.nd 63 [] 0 [u]) = 43 :: u.out:=by rw [V.out];simp [V.outs,aM,dv]
    rw [e1,List.length_cons] at hl
    have h1:=V.deep_mem (ks:=[u]) (v:=u) (by simp)
    exact ⟨by show u.deep ≤ 12;omega,by show u.out.length ≤ 400;omega⟩
  ·cases e
 ·split at e
  ·cases e
  ·rename_i t hr
   have ht:=bJ hr
   split at e
   ·cases e
   ·rename_i f hf
    have hfm:=List.mem_of_find?_eq_some hf
    split at e
    ·cases e
    ·rename_i h69
     split at e
     ·rename_i h82
      simp only [Option.some.injEq,Prod.mk.injEq] at e
      obtain ⟨rfl,rfl⟩:=e
      rcases dH h hr with ⟨_,fs,rfl,g3,g4,_,_⟩ | ⟨g1,_⟩ | ⟨g1,_⟩
      ·unfold ff
       rw [V.kids]
       cases hto : cV f (fs.map aU) with
       | none =>
        obtain ⟨a1,a2,a3⟩:=gI hw ht h69 hfm
        unfold bV at a2
        split at a2
        ·rename_i hl4
         split at a2
         ·rename_i v' hv'
          have:=iV _ _ _ _ hv'
          simp only [Option.some.injEq] at a2
          subst a2
          exact ⟨this,by show (fp ts f).out.length ≤ 400;rw [a3];exact hl4⟩
         ·cases a2
        ·cases a2
       | some u =>
        obtain ⟨_,p,hp,_,rfl⟩:=k9 (hw.ty t ht) hfm (fun p hp=>⟨g3 p hp,g4 p hp⟩) hto
        rw [ck dC] at hd
        rw [rL] at hl
        have h1:=V.deep_mem (List.mem_map_of_mem (f:=aU) hp)
        rw [show (aU p).deep = p.2.deep from lJ] at h1
        have h2:=kf (xs:=(fs.map aU).map V.out) (List.mem_map_of_mem (f:=V.out) (List.mem_map_of_mem (f:=aU) hp))
        rw [show (aU p).out = a8 p.1.tag ++ 61 :: p.2.out from fx] at h2
        simp only [List.length_cons,List.length_append,List.length_nil] at hl h2
        exact ⟨by show p.2.deep ≤ 12;omega,by show p.2.out.length ≤ 400;omega⟩
      ·omega
      ·omega
     ·rename_i h82
      split at e
      ·simp only [Option.some.injEq,Prod.mk.injEq] at e
       obtain ⟨rfl,rfl⟩:=e
       rcases dH h hr with ⟨h1,_⟩ | ⟨h1,_⟩ | ⟨_,_,d,u,rfl,g4,g5⟩
       ·omega
       ·omega
       ·rw [ck dC] at hd
        have e1 : V.out (.nd 85 [] d.tag [u]) = 60 :: (a8 d.tag ++ 61 :: (u.out ++ [62])):=by rw [V.out];simp [V.outs,aM,dv]
        rw [e1] at hl
        have h1:=V.deep_mem (ks:=[u]) (v:=u) (by simp)
        simp only [List.length_cons,List.length_append,List.length_nil] at hl
        exact ⟨by show u.deep ≤ 12;omega,by show u.out.length ≤ 400;omega⟩
      ·cases e
theorem fP (hw : SchW ts) : ∀ {p : List Int} {k : ac1} {v : V} {k' : ac1} {v' : V},OfK ts k v → aE ts k = true → (∀ n ∈ p,0 ≤ n) → bC ts k v p = some (k',v') → v.deep ≤ 12 → v.out.length ≤ 400 → v'.deep ≤ 12 ∧ v'.out.length ≤ 400
 | [],k,v,k',v',h,hk,_,e,hd,hl=>by
  simp only [bC,Option.some.injEq,Prod.mk.injEq] at e
  obtain ⟨rfl,rfl⟩:=e
  exact ⟨hd,hl⟩
 | n :: p,k,v,k',v',h,hk,hp,e,hd,hl=>by
  unfold bC at e
  cases hs : bH ts k v n with
  | none=>rw [hs] at e;cases e
  | some x =>
   rw [hs] at e
   obtain ⟨k1,v1⟩:=x
   obtain ⟨h1,h2⟩:=gu hw h hk (hp n (by simp)) hs
   obtain ⟨h3,h4⟩:=ul hw h hk (hp n (by simp)) hs hd hl
   exact fP hw h1 h2 (fun m hm=>hp m (by simp [hm])) e h3 h4
def wQ (q : List Int) : ac1:=aM 47 (q.map a8)
theorem ns : ∀ {xs : List ac1} {p : List Int},cj xs = some p → xs = p.map a8 ∧ ∀ n ∈ p,0 ≤ n ∧ n ≤ 999999
 | [],p,h=>by simp only [cj,Option.some.injEq] at h;subst h;simp
 | x :: xs,p,h=>by
  unfold cj at h
  cases hn : aL x 999999 with
  | none=>rw [hn] at h;cases h
  | some n =>
   rw [hn] at h
   dsimp only at h
   cases hs : cj xs with
   | none=>rw [hs] at h;cases h
   | some q =>
    rw [hs] at h
    simp only [Option.map_some,Option.some.injEq] at h
    subst h
    obtain ⟨h1,h2⟩:=ns hs
    refine ⟨by rw [List.map_cons,← h1,← (dm hn).2.1],fun m hm=>?_⟩
    rcases List.mem_cons.1 hm with rfl | hm
    ·exact ⟨jt hn,(dm hn).1⟩
    ·exact h2 m hm
theorem s7 {s : ac1} {q : List Int} (h : cJ s = some q) : s = wQ q ∧ q.length ≤ 8 ∧ (∀ n ∈ q,0 ≤ n ∧ n ≤ 999999) ∧ (s = [] ↔ q = []):=by
 unfold cJ at h
 split at h
 ·rename_i hs
  simp only [Option.some.injEq] at h;subst h
  exact ⟨by rw [hs];rfl,by simp,by simp,by simp [hs]⟩
 ·rename_i hs
  split at h
  ·rename_i q' hq
   split at h
   ·rename_i h8
    simp only [Option.some.injEq] at h;subst h
    obtain ⟨h1,h2⟩:=ns hq
    have h3:=lL 47 s
    have h4 : (47 : UInt8).toNat = 47:=rfl
    rw [h4,h1] at h3
    refine ⟨h3.symm,h8,h2,fun h=>absurd h hs,fun h=>?_⟩
    rw [h] at h3
    exact h3.symm
   ·cases h
  ·cases h
def okV (s k w : ac1) : Bool:=(dT s k w).isSome
theorem rK {s k w p k1 x1 : ac1} (h : fe s k w p = some (k1,x1)) : ∃ ts u q v1,aO s = some ts ∧ dT s k w = some u ∧ cJ p = some q ∧ bC ts k u q = some (k1,v1) ∧ x1 = v1.out:=by
 unfold fe at h
 split at h
 ·rename_i ts u q h1 h2 h3
  cases hf : bC ts k u q with
  | none=>rw [hf] at h;cases h
  | some y =>
   rw [hf] at h
   obtain ⟨k',v'⟩:=y
   simp only [Option.map_some,Option.some.injEq,Prod.mk.injEq] at h
   obtain ⟨rfl,rfl⟩:=h
   exact ⟨ts,u,q,v',h1,h2,h3,hf,F⟩
 ·cases h
theorem aab {s k w p x k1 : ac1} {ts : List Ty} {u v1 y : V} {q : List Int} (h1 : aO s = some ts) (h2 : dT s k w = some u) (h3 : cJ p = some q) (h4 : bC ts k u q = some (k1,v1)) (h5 : rd ts 12 k1 x = some (y,[])) (h6 : (db ts k u q y).out.length ≤ 400 ∧ (db ts k u q y).deep ≤ 12) : n6 s k w p x = some (db ts k u q y).out:=by
 unfold n6
 rw [h1,h2,h3]
 dsimp only
 rw [h4]
 dsimp only
 rw [h5]
 dsimp only
 rw [if_pos h6]
theorem wZ {s k w : ac1} {ts : List Ty} {u : V} (h1 : aO s = some ts) (h2 : aE ts k = true) (h3 : bV ts k w = some u) : dT s k w = some u:=by
 unfold dT
 rw [h1]
 dsimp only
 rw [if_pos h2,h3]
theorem z5 {ts : List Ty} (hw : SchW ts) {k : ac1} {v : V} (h : OfK ts k v) (hd : v.deep ≤ 12) : rd ts 12 k v.out = some (v,[]):=by
 have:=li hw 12 h hd [] kW
 rwa [List.append_nil] at this
theorem wP {s k w p k1 x1 : ac1} (h : fe s k w p = some (k1,x1)) : okV s k1 x1 = true ∧ n6 s k w p x1 = some w:=by
 obtain ⟨ts,u,q,v1,h1,h2,h3,h4,rfl⟩:=rK h
 obtain ⟨ts',g1,g2,g3,g4,g5⟩:=lD h2
 obtain rfl : ts = ts':=Option.some.inj (h1.symm.trans g1)
 have hw:=cp h1
 have ho:=k5 g3
 obtain ⟨a1,a2,a3⟩:=qq g3
 obtain ⟨b1,b2,b3,b4⟩:=s7 h3
 have hq0 : ∀ n ∈ q,0 ≤ n:=fun n hn=>(b3 n hn).1
 obtain ⟨c1,c2⟩:=f6 hw ho g2 hq0 h4
 obtain ⟨d1,d2⟩:=fP hw ho g2 hq0 h4 a3 (by rw [a1];exact a2)
 have hv:=hZ hw c1 d2 d1
 refine ⟨by unfold okV;rw [wZ h1 c2 hv];rfl,?_⟩
 have e:=(l7 hw (x:=v1) (y:=v1) ho g2 hq0 h4 c1).2.1
 have:=aab h1 h2 h3 h4 (z5 hw c1 d1) (by rw [e,a1];exact ⟨a2,a3⟩)
 rwa [e,a1] at this
def ee (s k b p : ac1) : Option ac1:=match cM s k b with
 | some v=>match fe s k v.out p with
  | some y=>hX s y.1 y.2
  | none=>none
 | none=>none
theorem uy {s k b p : ac1} {v : V} {ts : List Ty} {q : List Int} (h : cM s k b = some v) (hs : aO s = some ts) (hp : cJ p = some q) : ee s k b p = (bC ts k v q).map fun y=>y.2.bys:=by
 obtain ⟨ts',hs',hk,hb,h1,h2,h3,h4⟩:=iF h
 obtain rfl : ts = ts':=by rw [hs] at hs';exact Option.some.inj hs'
 have hw:=cp hs
 have hgv:=n5 hs hk h1 h2 h3
 have hq:=(iC hp).2
 unfold ee
 rw [h]
 dsimp only
 unfold fe
 rw [hs,hgv,hp]
 dsimp only
 cases hf : bC ts k v q with
 | none=>rfl
 | some y =>
  obtain ⟨k1,v1⟩:=y
  obtain ⟨g1,g2⟩:=f6 hw h1 hk (fun n hn=>(hq n hn).1) hf
  obtain ⟨g3,g4⟩:=fP hw h1 hk (fun n hn=>(hq n hn).1) hf h2 h3
  have g5:=zB hw g1 oM
  show hX s k1 v1.out = some v1.bys
  rw [nN hs g2 g1 g3 g4,if_pos oM]
theorem ux {s k b p : ac1} (h : cJ p = none) : ee s k b p = none:=by
 unfold ee
 cases cM s k b with
 | none=>rfl
 | some v =>
  dsimp only
  unfold fe
  rw [h]
  cases aO s <;> cases dT s k v.out <;> rfl
theorem sQ {s k b p : ac1} (h : s.length ≤ 1048576 ∧ k.length ≤ 1048576 ∧ b.length ≤ 1048576 ∧ p.length ≤ 1048576) : aC ac0 8 [S s,S k,S b,S p] G (· = hY (ee s k b p)):=by
 have cx_bg1:=kL (G:=G) (s:=s) (k:=k) (b:=b) oM
 have cx_bc1:=l9 (G:=G) (s:=s) (k:=k) (b:=b) oM
 unfold ee
 cases hc : cM s k b with
 | none =>
  rw [hc] at cx_bc1
  dsimp only [Option.isSome] at cx_bc1 ⊢
  unfold hY at cx_bg1 ⊢
  cases hg : ik s k b with
  | none =>
   rw [hg] at cx_bg1
   dsimp only [Option.map,Option.getD,Option.isSome] at cx_bg1 ⊢
   refine jE [(0,_),(1,_),(2,_),(3,_)] Tryz.func8 Tryz.ntmps8 fun B hB=>?_
   repeat' (first | refine jR ?_ | (refine jo ?_;first | refine aH F ?_ | refine ab F F F cx_bg1 F ?_) | refine ax F F F ?_ | refine ac F F ?_)
   all_goals refine jY (vs:=[_,_]) ?_
   all_goals rfl
  | some v =>
   rw [hg] at cx_bg1
   dsimp only [Option.map,Option.getD,Option.isSome] at cx_bg1 ⊢
   generalize v.out = vo at cx_bg1
   refine jE [(0,_),(1,_),(2,_),(3,_)] Tryz.func8 Tryz.ntmps8 fun B hB=>?_
   repeat' (first | refine jR ?_ | (refine jo ?_;first | refine aw F ?_ | refine ab F F F cx_bg1 F ?_ | refine ab F F F cx_bc1 F ?_) | refine aj F F F ?_ | refine ac F F ?_)
   all_goals refine jY (vs:=[_,_]) ?_
   all_goals rfl
 | some v =>
  obtain ⟨ts,hs,hk,hb,h1,h2,h3,h4⟩:=iF hc
  rw [hc] at cx_bc1
  rw [lP hc] at cx_bg1
  dsimp only [Option.isSome] at cx_bc1 ⊢
  unfold hY at cx_bg1 ⊢
  dsimp only [Option.map,Option.getD,Option.isSome] at cx_bg1
  have cx_pg1:=uX (G:=G) (s:=s) (k:=k) (w:=v.out) (p:=p) oM
  unfold pgR at cx_pg1
  cases hp : fe s k v.out p with
  | none =>
   rw [hp] at cx_pg1
   dsimp only [Option.map,Option.getD,Option.isSome] at cx_pg1 ⊢
   clear hp h3 h4 h1 h2 hc
   generalize v.out = vo at cx_bg1 cx_pg1
   refine jE [(0,_),(1,_),(2,_),(3,_)] Tryz.func8 Tryz.ntmps8 fun B hB=>?_
   repeat' (first | refine jR ?_ | (refine jo ?_;first | refine aw F ?_ | refine ab F F F cx_bg1 F ?_ | refine ab F F F cx_bc1 F ?_ | refine ab F F F cx_pg1 F ?_) | refine aj F F F ?_ | refine ac F F ?_ | refine ad F F ?_)
   all_goals refine jY (vs:=[_,_]) ?_
   all_goals rfl
  | some y =>
   obtain ⟨k1,x1⟩:=y
   rw [hp] at cx_pg1
   dsimp only [Option.map,Option.getD,Option.isSome] at cx_pg1
   obtain ⟨l1,l2⟩ : k1.length ≤ 1048576 ∧ x1.length ≤ 1048576:=by
    obtain ⟨ts',u,q,v1,e1,e2,e3,e4,rfl⟩:=rK hp
    have hok:=(wP hp).1
    have hw:=cp e1
    obtain rfl : ts' = ts:=by rw [hs] at e1;exact (Option.some.inj e1).symm
    have hgv:=n5 hs hk h1 h2 h3
    rw [hgv] at e2
    obtain rfl:=Option.some.inj e2
    obtain ⟨g1,g2⟩:=f6 hw h1 hk (fun n hn=>((iC e3).2 n hn).1) e4
    obtain ⟨g3,g4⟩:=fP hw h1 hk (fun n hn=>((iC e3).2 n hn).1) e4 h2 h3
    have:=(cH (cR g2)).2
    exact ⟨oM,oM⟩
   have cx_bp1:=nM (G:=G) (s:=s) (k:=k1) (w:=x1) ⟨h.1,l1,l2⟩
   clear hp h3 h4 h1 h2 hc
   generalize v.out = vo at cx_bg1 cx_pg1
   dsimp only
   generalize (hX s k1 x1).getD [] = r1 at *
   generalize (hX s k1 x1).isSome = r2 at *
   refine jE [(0,_),(1,_),(2,_),(3,_)] Tryz.func8 Tryz.ntmps8 fun B hB=>?_
   repeat' (first | refine jR ?_ | (refine jo ?_;first | refine aw F ?_ | refine ab F F F cx_bg1 F ?_ | refine ab F F F cx_bc1 F ?_ | refine ab F F F cx_pg1 F ?_ | refine ab F F F cx_bp1 F ?_) | refine aj F F F ?_ | refine ad F F ?_)
   all_goals refine jY (vs:=[_,_]) ?_
   all_goals rfl
theorem sP {s k b p : ac1} (h : s.length ≤ 1048576 ∧ k.length ≤ 1048576 ∧ b.length ≤ 1048576 ∧ p.length ≤ 1048576) : aC ac0 7 [S s,S k,S b,S p] G (· = hY (ee s k b p)):=by
 cases hg : gB s k b with
 | none =>
  have cx_l50:=qm (G:=G) (s:=s) (k:=k) (b:=b) oM hg
  have hno : ee s k b p = none:=by unfold ee;rw [p6 hg]
  rw [hno]
  cases hpo : cJ p with
  | none =>
   have cx_sp:=rx h.2.2.2 hpo
   refine jB (Post:=fun v G' L'=>G' = G ∧ L' = [] ∧ _) [(0,_),(1,_),(2,_),(3,_)] Tryz.func7 Tryz.ntmps7 fun B hok hB hW=>?_
   repeat' (first | refine jR ?_ | (refine jo ?_;first | refine aH F ?_ | (refine aK F F F cx_l50 F ?_;rintro _ G hle ⟨u5,q5,rfl⟩;skip) | (refine aK F F F (cx_sp _) F ?_;rintro _ G hle ⟨sa,sc,sn,rfl,hsp⟩;skip)) | refine ax F F F ?_ | refine ac F F ?_)
   all_goals refine Nx.base hok hB ?_
   all_goals refine jY (vs:=[_,_]) ?_
   all_goals rfl
  | some q =>
   have cx_sp:=qx h.2.2.2 hpo
   refine jB (Post:=fun v G' L'=>G' = G ∧ L' = [] ∧ _) [(0,_),(1,_),(2,_),(3,_)] Tryz.func7 Tryz.ntmps7 fun B hok hB hW=>?_
   repeat' (first | refine jR ?_ | (refine jo ?_;first | refine aH F ?_ | (refine aK F F F cx_l50 F ?_;rintro _ G hle ⟨u5,q5,rfl⟩;skip) | (refine aK F F F (cx_sp _) F ?_;rintro _ G hle ⟨sa,sc,sn,rfl,hsp⟩;skip)) | refine ax F F F ?_ | refine ac F F ?_)
   all_goals refine Nx.base hok hB ?_
   all_goals refine jY (vs:=[_,_]) ?_
   all_goals rfl
 | some v =>
  obtain ⟨hwf,htot⟩:=p5 hg
  have hl5:=ql (G:=G) (s:=s) (k:=k) (b:=b) oM hg
  cases hpo : cJ p with
  | none =>
   rw [ux hpo]
   have cx_sp:=rx h.2.2.2 hpo
   refine jB (Post:=fun v G' L'=>G' = G ∧ L' = [] ∧ _) [(0,_),(1,_),(2,_),(3,_)] Tryz.func7 Tryz.ntmps7 fun B hok hB hW=>?_
   repeat' (refine jR ?_)
   refine jo ?_
   refine aK F F F hl5 F ?_
   rintro _ G2 hle2 ⟨a5,c5,vs5,wb5,rfl,hR5,hs5,hrep5⟩
   repeat' (first | refine jR ?_ | (refine jo ?_;first | refine aH F ?_ | refine aw F ?_ | (refine aK F F F (cx_sp _) F ?_;rintro _ G hle ⟨sa,sc,sn,rfl,hsp⟩;skip)) | refine ax F F F ?_ | refine aj F F F ?_ | refine ac F F ?_)
   all_goals refine Nx.base hok hB ?_
   all_goals refine jY (vs:=[_,_]) ?_
   all_goals rfl
  | some q =>
   have hsp0:=qx h.2.2.2 hpo
   obtain ⟨hq8,hqn⟩:=iC hpo
   refine jB (Post:=fun v G' L'=>G' = G ∧ L' = [] ∧ _) [(0,_),(1,_),(2,_),(3,_)] Tryz.func7 Tryz.ntmps7 fun B hok hB hW=>?_
   repeat' (refine jR ?_)
   refine jo ?_
   refine aK F F F hl5 F ?_
   rintro _ G2 hle2 ⟨a5,c5,vs5,wb5,rfl,hR5,hs5,hrep5⟩
   repeat' (refine jR ?_)
   refine jo ?_
   refine aK F F F (hsp0 _) F ?_
   rintro _ G3 hle3 ⟨sa,sc,sn,rfl,rfl,hsp⟩
   have hw:=cp hs5
   have hrep:=hrep5.mono hle3
   have hR:=hR5.mono hle3
   have cx_bys:=sK hw hrep hwf oM
   clear hl5 hsp0
   by_cases hb : v.bys = b
   case neg =>
    have hno : ee s k b p = none:=by unfold ee;rw [iZ hg,if_neg hb]
    rw [hno]
    clear hg hwf hrep hrep5 hno
    generalize v.bys = vb at cx_bys hb
    repeat' (first | refine jR ?_ | (refine jo ?_;first | refine aw F ?_ | refine ab F F F cx_bys F ?_) | refine aj F F F ?_ | refine ac F (ar ‹_›) ?_)
    all_goals refine Nx.base hok hB ?_
    all_goals refine jY (vs:=[_,_]) ?_
    all_goals rfl
   have hc : cM s k b = some v:=by rw [iZ hg,if_pos hb]
   obtain ⟨ts,hs,hk,hbl,h1,h2,h3,h4⟩:=iF hc
   obtain rfl : af vs5 = ts:=by rw [hs5] at hs;exact Option.some.inj hs
   rw [uy hc hs5 hpo]
   rw [hb] at cx_bys
   have hwk:=yY hR hw hsp hqn oM hrep h1 hk oM
   cases hfo : bC (af vs5) k v q with
   | none =>
    have cx_wan:=ix.no hwk hfo
    clear hg hwf hrep hrep5 h1 h2 h3 h4 hb hc hwk hR hR5
    repeat' (first | refine jR ?_ | (refine jo ?_;first | refine aw F ?_ | refine ab F F F cx_bys F ?_ | (refine aK F F F cx_wan F ?_;rintro _ G hle ⟨q1,rfl⟩;skip)) | refine aj F F F ?_ | refine ac F F ?_ | (refine ad F ?_ ?_;(focus ((simp [*];done);done))))
    all_goals refine Nx.base hok hB ?_
    all_goals refine jY (vs:=[_,_]) ?_
    all_goals rfl
   | some y =>
    obtain ⟨k1,v1⟩:=y
    have cx_way:=ix.yes hwk hfo
    obtain ⟨g1,g2⟩:=f6 hw h1 hk (fun n hn=>(hqn n hn).1) hfo
    obtain ⟨g3,g4⟩:=fP hw h1 hk (fun n hn=>(hqn n hn).1) hfo h2 h3
    have g5:=kK hw h1 hk (fun n hn=>(hqn n hn).1) hfo (N:=60000) htot oM
    have hwf1:=(nQ (hZ hw g1 g4 g3)).1
    clear hg hwf hrep hrep5 h1 h2 h3 h4 hb hc hwk hR5
    repeat' (first | refine jR ?_ | (refine jo ?_;first | refine aw F ?_ | refine ab F F F cx_bys F ?_ | (refine aK F F F cx_way F ?_;rintro _ G hle ⟨b1,rfl,hrep1⟩;skip)) | refine aj F F F ?_ | (refine ad F ?_ ?_;(focus ((first | rfl | (simp [*];done));done))))
    have cx_bys:=sK hw hrep1 hwf1 oM
    simp only [Option.map_some]
    generalize v1.bys = vb at cx_bys ⊢
    repeat' (first | refine jR ?_ | (refine jo ?_;refine ab F F F cx_bys F ?_))
    all_goals refine Nx.base hok hB ?_
    all_goals refine jY (vs:=[_,_]) ?_
    all_goals rfl
theorem m1 {s k w x : ac1} (h : s.length ≤ 9223372036854775807 ∧ k.length ≤ 9223372036854775807 ∧ w.length ≤ 9223372036854775807 ∧ x.length ≤ 9223372036854775807) : aC ac0 3 [S s,S k,S w,S x] G (· = Bo true):=by
 by_cases h1 : s.length ≤ 1048576 ∧ k.length ≤ 1048576 ∧ w.length ≤ 1048576 ∧ x.length ≤ 1048576
 ·have cx_pb1:=sQ (G:=G) h1
  have cx_pb2:=sP (G:=G) h1
  unfold hY at cx_pb1 cx_pb2
  generalize (ee s k w x).getD [] = o1 at *
  generalize (ee s k w x).isSome = o3 at *
  refine jE [(0,_),(1,_),(2,_),(3,_)] Tryz.func3 Tryz.ntmps3 fun B hB=>?_
  repeat' (first | refine jR ?_ | (refine jo ?_;first | refine aw F ?_ | refine ab F F F cx_pb2 F ?_ | refine ab F F F cx_pb1 F ?_) | (refine aj F F ?_ ?_;(focus ((simp [*];done);done))) | (refine ad F ?_ ?_;(focus ((first | (refine decide_eq_false ?_;(omega)) | (simp [*];done));done))))
  all_goals refine jY (vs:=[_]) ?_
  all_goals rfl
 ·by_cases ha : s.length ≤ 1048576
  case neg =>
   refine jE [(0,_),(1,_),(2,_),(3,_)] Tryz.func3 Tryz.ntmps3 fun B hB=>?_
   repeat' (first | refine jR ?_ | refine ac F (ar oM) ?_)
   refine jY (vs:=[_]) ?_
   rfl
  by_cases hb : k.length ≤ 1048576
  case neg =>
   refine jE [(0,_),(1,_),(2,_),(3,_)] Tryz.func3 Tryz.ntmps3 fun B hB=>?_
   repeat' (first | refine jR ?_ | refine ac F (ar oM) ?_ | refine ad F (aA oM) ?_)
   refine jY (vs:=[_]) ?_
   rfl
  by_cases hc : w.length ≤ 1048576
  case neg =>
   refine jE [(0,_),(1,_),(2,_),(3,_)] Tryz.func3 Tryz.ntmps3 fun B hB=>?_
   repeat' (first | refine jR ?_ | refine ac F (ar oM) ?_ | refine ad F (aA oM) ?_)
   refine jY (vs:=[_]) ?_
   rfl
  have hd : ¬ x.length ≤ 1048576:=fun hd=>h1 ⟨ha,hb,hc,hd⟩
  refine jE [(0,_),(1,_),(2,_),(3,_)] Tryz.func3 Tryz.ntmps3 fun B hB=>?_
  repeat' (first | refine jR ?_ | refine ac F (ar oM) ?_ | refine ad F (aA oM) ?_)
  refine jY (vs:=[_]) ?_
  rfl
theorem wd {s : ac1} (hs : s ≠ []) (hs2 : s.length ≤ 9000000000000000000) : aC ac0 103 [S s] G (· = Tu [S (cD s).1,I (cD s).2.1,Bo (cD s).2.2]):=by
 have h0:=List.length_pos_iff.2 hs
 refine jE [(0,_)] Tryz.func103 Tryz.ntmps103 fun B hB=>?_
 repeat' (first | refine jX ?_ | (refine jo ?_;first | (refine ab F F F (te ?_) F ?_;(focus ((simp;omega);done))) | refine ab F F F gk F ?_) | refine er F (fun _=>?_) (fun _=>?_) | refine oc F (fun _=>?_) (fun _=>?_))
 all_goals refine jY (vs:=[_,_,_]) ?_
 all_goals rw [aF]
 ·rw [yQ aS];rfl
 ·rw [yP aS aS];rfl
 ·rw [yO aS aS aS];rfl
 ·rw [yN aS aS aS aS];rfl
 ·rw [yM aS aS aS aS aS];rfl
 ·rw [yL aS aS aS aS aS aS];rfl
 ·rw [yK aS aS aS aS aS aS];rfl
theorem mZ {s : ac1} (hs : s.length ≤ 9000000000000000000) : c8 ac0 69 [S s] G [] (fun v L'=>∃ u,v = Tu [u,I (ci s).2.1,S (ci s).2.2,Bo (decide (s.length ≤ 2000))] ∧ L' = [.acc u kB 1 (ci s).1.length (iK (ci s).1)] ∧ rh u (ci s).1.length):=by
 by_cases h : s.length ≤ 2000
 ·have e : ci s = fg s:=by rw [ci,if_pos h]
  rw [e,decide_eq_true h]
  refine jH [(0,_)] Tryz.func69 Tryz.ntmps69 fun B hB hW=>?_
  repeat' (first | refine jR ?_ | refine ad F (aA oM) ?_)
  refine Nx.addNil kB 1 ?_
  refine aR (ι:=Value × List ac1 × Nat × ac1) (fun i=>i.2.1.length + i.2.2.1 + i.2.2.2.length ≤ 2000 ∧ (i.2.1 ++ (fg i.2.2.2).1,i.2.2.1 + (fg i.2.2.2).2.1,(fg i.2.2.2).2.2) = fg s) (fun i=>[(0,S i.2.2.2),(6,i.1),(7,I i.2.2.1)]) (fun _=>G) (fun i=>[.acc i.1 kB 1 i.2.1.length (iK i.2.1)]) (fun i=>i.2.2.2.length) (aJ,[],0,s) ?_ tU F aW (fun i hI=>?_)
  ·dsimp only;refine ⟨by simp;omega,by simp⟩
  ·obtain ⟨u,xs,j,t⟩:=i
   dsimp only at hI ⊢
   have hle:=yJ t
   by_cases ht : t = []
   ·subst ht
    have e2 : fg s = (xs,j,[]):=by rw [← hI.2,pw];simp
    repeat' (first | refine jR ?_ | refine ad F F ?_)
    exact Nx.shp (.head _) fun hsh=>bh (vs:=[_,_,_,_]) F ⟨F,F,F,F,trivial⟩ F (List.Sublist.refl _) ⟨F,u,by rw [e2];rfl,by rw [e2],by rw [e2];exact hsh⟩
   ·have hpos:=List.length_pos_iff.2 ht
    repeat' (first | refine jM ?_ | (refine jo ?_;first | refine jF fun _=>?_ | refine nn F F F F F F F F oM fun _=>?_ | (refine ab F F F (wd (by (repeat (assumption));done) oM) rfl ?_)) | refine ac F (ar ‹_›) ?_ | refine er F (fun _=>?_) (fun _=>?_) | refine oc F (fun _=>?_) (fun _=>?_))
    ·rename_i hh _ _
     have e2:=px ht oM
     refine aX (_,xs ++ [(cD t).1],j,t.drop (cD t).2.1) ?_ ?_ tU F (by dsimp only;simp only [j5,List.length_append,List.length_cons,List.length_nil,Nat.zero_add];repeat (first | exact List.nil_sublist _ | apply List.Sublist.cons_cons))
     ·dsimp only
      refine ⟨by simp;omega,?_⟩
      rw [← hI.2,e2];simp
     ·dsimp only;simp;omega
    ·rename_i hh hm
     have e2 : fg s = (xs,j,t):=by rw [← hI.2,r8 ht oM hm];simp
     exact Nx.shp (.head _) fun hsh=>bh (vs:=[_,_,_,_]) F ⟨F,F,F,F,trivial⟩ F (List.Sublist.refl _) ⟨F,u,by rw [e2];rfl,by rw [e2],by rw [e2];exact hsh⟩
    ·rename_i hh hm
     have e2:=qc ht oM hm
     refine aX (u,xs,j + 1,t.drop 1) ?_ ?_ tU F aW
     ·dsimp only
      refine ⟨by simp;omega,?_⟩
      rw [← hI.2,e2];simp;omega
     ·dsimp only;simp;omega
 ·have e : ci s = ([],0,[]):=by rw [ci,if_neg h]
  rw [e,decide_eq_false h]
  refine jH [(0,_)] Tryz.func69 Tryz.ntmps69 fun B hB hW=>?_
  repeat' (first | refine jR ?_ | refine ac F (ar oM) ?_)
  refine Nx.addNil kB 1 ?_
  exact bh (vs:=[_,_,_,_]) F ⟨F,F,F,F,trivial⟩ F (List.Sublist.refl _) ⟨F,_,F,F,.inl ⟨F,F⟩⟩
theorem v7 {s : ac1} {top : Int} (hs : s.length ≤ 2) (ht : 0 ≤ top ∧ top ≤ 1000) : aC ac0 173 [S s,I top] G (fun v=>∃ gb,v = Bo gb):=by
 refine jE [(0,_),(1,_)] Tryz.func173 Tryz.ntmps173 fun B hB=>?_
 repeat' (refine jR ?_)
 refine aR (ι:=Nat × Int) (fun q=>q.1 ≤ s.length ∧ 0 ≤ q.2 ∧ q.2 < dk q.1) (fun q=>[(0,S s),(1,I top),(5,I q.2),(6,I (dk q.1)),(7,I q.1)]) (fun _=>G) (fun q=>[]) (fun q=>s.length - q.1) (0,0) ?_ tU F aW (fun q Hq=>?_)
 ·exact ⟨Nat.zero_le _,by decide,by decide⟩
 obtain ⟨i,m⟩:=q
 dsimp only at Hq ⊢
 obtain ⟨hi0,hm0,hm1⟩:=Hq
 by_cases hi : i < s.length
 ·have hbl:=ky s i
  obtain rfl | rfl : i = 0 ∨ i = 1:=oM
  ·have hm1 : m < 1:=hm1
   rw [show dk 0 = 1 from rfl]
   have hb : bt s ((0 : Nat) : Int).toNat = bt s 0:=rfl
   repeat' (first | refine jM ?_ | refine ac F (ar oM) ?_)
   refine Nx.re (d:=6) (v':=I (dk 1)) F (congrArg (Value.int .i64) (by show _ = (128 : Int);omega)) ?_
   refine Nx.re (d:=7) (v':=I ((1 : Nat) : Int)) F (congrArg (Value.int .i64) F) ?_
   exact aX (1,m + ((bt s ((0 : Nat) : Int).toNat : Nat) : Int) % 128 * 1) ⟨oM,oM,by show _ < _;simp only [dk];omega⟩ oM tU rfl aW
  ·have hm1 : m < 128:=hm1
   rw [show dk 1 = 128 from rfl]
   have hb : bt s ((1 : Nat) : Int).toNat = bt s 1:=rfl
   repeat' (first | refine jM ?_ | refine ac F (ar oM) ?_)
   refine Nx.re (d:=6) (v':=I (dk 2)) F (congrArg (Value.int .i64) (by show _ = (16384 : Int);omega)) ?_
   refine Nx.re (d:=7) (v':=I ((2 : Nat) : Int)) F (congrArg (Value.int .i64) F) ?_
   exact aX (2,m + ((bt s ((1 : Nat) : Int).toNat : Nat) : Int) % 128 * 128) ⟨oM,oM,by show _ < _;simp only [dk];omega⟩ oM tU rfl aW
 ·have hu : 1 ≤ dk i ∧ dk i ≤ 16384:=by
   obtain rfl | rfl | rfl : i = 0 ∨ i = 1 ∨ i = 2:=oM
   all_goals decide
  generalize dk i = un at *
  all_goals repeat' (first | refine jM ?_ | (refine jo ?_;first | refine aH F ?_ | refine aw F ?_) | refine eD F F (fun _=>?_) (fun _=>?_) | refine ad F (aA oM) ?_)
  all_goals refine jY (vs:=[_]) ?_
  all_goals exact ⟨_,F⟩
theorem v5 {s r : ac1} {n top : Int} (hs : s.length ≤ 100000) (h : bm s = some (n,r)) : aC ac0 138 [S s,I top] G (· = Tu [I n,S r,Bo (decide (n ≤ top)),Bo (decide (n ≤ top))]):=by
 have cx_ng0:=eZ (G:=G) (s:=s) oM
 rw [h] at cx_ng0
 have cx_ng : aC ac0 71 [S s] G (· = Tu [I n,S r,Bo true]):=cx_ng0
 refine jE [(0,_),(1,_)] Tryz.func138 Tryz.ntmps138 fun B hB=>?_
 repeat' (first | refine jR ?_ | (refine jo ?_;refine ab F F F cx_ng F ?_) | refine ac F F ?_)
 all_goals refine jY (vs:=[_,_,_,_]) ?_
 all_goals rfl
theorem v6 {s : ac1} {top : Int} (hs : s.length ≤ 100000) (ht : 0 ≤ top ∧ top ≤ 1000) (h : bm s = none) : aC ac0 138 [S s,I top] G (fun v=>∃ gb,v = Tu [I 0,S s,Bo false,Bo gb]):=by
 have cx_ng0:=eZ (G:=G) (s:=s) oM
 rw [h] at cx_ng0
 have cx_ng : aC ac0 71 [S s] G (· = Tu [I 0,S [],Bo false]):=cx_ng0
 by_cases h2 : s.length ≤ 2
 ·have cx_grw:=v7 (G:=G) h2 ht
  refine jE [(0,_),(1,_)] Tryz.func138 Tryz.ntmps138 fun B hB=>?_
  repeat' (first | refine jR ?_ | (refine jo ?_;refine ab F F F cx_ng F ?_) | (refine ad F (by first | rfl | (refine decide_eq_false ?_;(omega))) ?_))
  refine aR (ι:=Nat) (fun i=>i ≤ s.length) (fun i=>[(0,S s),(1,I top),(11,I (i : Nat))]) (fun _=>G) (fun i=>[]) (fun i=>s.length - i) 0 ?_ tU F aW (fun i Hi=>?_)
  ·exact Nat.zero_le _
  by_cases hi : i < s.length
  ·have hbl:=ky s i
   repeat' (first | refine jM ?_ | refine ac F (ar oM) ?_ | refine er F (fun _=>?_) (fun _=>?_))
   ·refine jY (vs:=[_,_,_,_]) ?_
    exact ⟨_,F⟩
   ·refine Nx.re (d:=11) (v':=I (i + 1 : Nat)) F (congrArg (Value.int .i64) oM) ?_
    exact aX (i + 1) oM oM tU F aW
  ·repeat' (first | refine jR ?_ | (refine jo ?_;(refine cZ F F F cx_grw F ?_;rintro _ ⟨gb,rfl⟩)) | refine ad F (aA oM) ?_)
   all_goals refine jY (vs:=[_,_,_,_]) ?_
   all_goals exact ⟨_,F⟩
 ·refine jE [(0,_),(1,_)] Tryz.func138 Tryz.ntmps138 fun B hB=>?_
  repeat' (first | refine jR ?_ | (refine jo ?_;refine ab F F F cx_ng F ?_) | refine ac F (ar oM) ?_ | refine ad F F ?_)
  all_goals refine jY (vs:=[_,_,_,_]) ?_
  all_goals exact ⟨_,F⟩
theorem pt {b r : ac1} (h : b.length ≤ 100) : frame b ++ r = 126 :: (a7 b.length ++ (b ++ (a7 (dy b) ++ r))):=by
 unfold frame
 simp only [List.cons_append,List.nil_append,List.append_assoc]
 rfl
def yd (s tx rest : ac1) (ok : Bool) : Prop:=(ok = true → tx.length ≤ 100 ∧ s = frame tx ++ rest) ∧ (ok = false → ∀ b r,b.length ≤ 100 → s ≠ frame b ++ r)
theorem xi {s : ac1} (h0 : s ≠ []) (hs : s.length ≤ 2000) : aC ac0 102 [S s] G (fun v=>∃ tx rest ok gr,v = Tu [S tx,S rest,Bo ok,Bo gr] ∧ yd s tx rest ok):=by
 have hnof : ∀ {gr : Bool} {v : Value},(∀ b r,b.length ≤ 100 → s ≠ frame b ++ r) → v = Tu [S [],S s,Bo false,Bo gr] → ∃ tx rest ok gr,v = Tu [S tx,S rest,Bo ok,Bo gr] ∧ yd s tx rest ok:=fun h1 h2=>⟨_,_,_,_,h2,fun h=>(by cases h),fun _=>h1⟩
 cases s with
 | nil=>exact absurd F h0
 | cons c q =>
  have hel : (c :: q).length = q.length + 1:=rfl
  have hc0 : bt (c :: q) (Int.toNat 0) = c.toNat:=a6 c q
  by_cases hc : c.toNat = 126
  case neg =>
   have hno : ∀ b r,b.length ≤ 100 → c :: q ≠ frame b ++ r:=fun b r hb e=>by
    rw [pt hb] at e
    simp only [List.cons.injEq] at e
    exact hc (by rw [e.1];rfl)
   refine jE [(0,_)] Tryz.func102 Tryz.ntmps102 fun B hB=>?_
   repeat' (first | refine jM ?_ | refine ac F (ar oM) ?_)
   all_goals refine jY (vs:=[_,_,_,_]) ?_
   all_goals exact hnof hno F
  obtain rfl:=bn hc dC
  have hdr : List.drop (Int.toNat 1) (126 :: q) = q:=rfl
  have hnum : ∀ b r,b.length ≤ 100 → (126 :: q : ac1) = frame b ++ r → bm q = some (((b.length : Nat) : Int),b ++ (a7 (dy b) ++ r)):=fun b r hb e=>vL hb e
  cases hg : bm q with
  | none =>
   have cx_pt0:=v6 (G:=G) (s:=q) (top:=100) oM oM hg
   have hno : ∀ b r,b.length ≤ 100 → (126 :: q : ac1) ≠ frame b ++ r:=fun b r hb e=>by
    have:=hnum b r hb e
    rw [hg] at this;cases this
   rw [← hdr] at cx_pt0
   refine jE [(0,_)] Tryz.func102 Tryz.ntmps102 fun B hB=>?_
   repeat' (first | refine jM ?_ | (refine jo ?_;(refine cZ F F F cx_pt0 F ?_;rintro _ ⟨gb,rfl⟩)) | refine ac F F ?_ | refine ad F F ?_)
   all_goals refine jY (vs:=[_,_,_,_]) ?_
   all_goals exact hnof hno F
  | some z =>
   obtain ⟨n,r⟩:=z
   obtain ⟨g0,g1,_⟩:=cF hg
   have hl:=bU hg
   have cx_pt1:=v5 (G:=G) (s:=q) (top:=100) oM hg
   rw [← hdr] at cx_pt1
   by_cases hn : n ≤ 100
   case neg =>
    rw [decide_eq_false hn] at cx_pt1
    have hno : ∀ b r,b.length ≤ 100 → (126 :: q : ac1) ≠ frame b ++ r:=fun b r hb e=>by
     have:=hnum b r hb e
     rw [hg] at this
     simp only [Option.some.injEq,Prod.mk.injEq] at this
     omega
    refine jE [(0,_)] Tryz.func102 Tryz.ntmps102 fun B hB=>?_
    repeat' (first | refine jM ?_ | (refine jo ?_;refine ab F F F cx_pt1 F ?_) | refine ac F F ?_ | refine ad F F ?_)
    all_goals refine jY (vs:=[_,_,_,_]) ?_
    all_goals exact hnof hno F
   rw [decide_eq_true hn] at cx_pt1
   obtain ⟨m,rfl⟩ : ∃ m : Nat,n = (m : Int):=⟨n.toNat,oM⟩
   by_cases hm : m ≤ r.length
   case neg =>
    have hno : ∀ b r,b.length ≤ 100 → (126 :: q : ac1) ≠ frame b ++ r:=fun b r' hb e=>by
     have:=hnum b r' hb e
     rw [hg] at this
     simp only [Option.some.injEq,Prod.mk.injEq] at this
     obtain ⟨e1,e2⟩:=this
     have:=congrArg List.length e2
     simp only [List.length_append] at this
     omega
    refine jE [(0,_)] Tryz.func102 Tryz.ntmps102 fun B hB=>?_
    repeat' (first | refine jM ?_ | (refine jo ?_;refine ab F F F cx_pt1 F ?_) | refine ac F (ar oM) ?_ | refine ad F F ?_)
    all_goals refine jY (vs:=[_,_,_,_]) ?_
    all_goals exact hnof hno F
   have hq : q = a7 m ++ r:=by
    obtain ⟨_,_,h⟩:=cF hg
    exact h
   have htl : (r.take m).length = m:=by rw [List.length_take];omega
   have htk : r.take ((m : Nat) : Int).toNat = r.take m:=rfl
   have hdk : r.drop ((m : Nat) : Int).toNat = r.drop m:=rfl
   have hsr:=e9 (r.take m)
   have hsl:=nY (r.take m)
   have hdl : (r.drop m).length = r.length - m:=List.length_drop
   have hall : ∀ b r',b.length ≤ 100 → (126 :: q : ac1) = frame b ++ r' → r.drop m = a7 (dy (r.take m)) ++ r':=fun b r' hb e=>by
    have:=hnum b r' hb e
    rw [hg] at this
    simp only [Option.some.injEq,Prod.mk.injEq] at this
    obtain ⟨e1,e2⟩:=this
    have e3 : m = b.length:=oM
    rw [e2,e3,List.drop_left,List.take_left]
   by_cases hsh : (r.drop m).length < (a7 (dy (r.take m))).length
   ·have hno : ∀ b r,b.length ≤ 100 → (126 :: q : ac1) ≠ frame b ++ r:=fun b r' hb e=>by
     have:=congrArg List.length (hall b r' hb e)
     simp only [List.length_append] at this
     omega
    refine jE [(0,_)] Tryz.func102 Tryz.ntmps102 fun B hB=>?_
    repeat' (first | refine jM ?_ | (refine jo ?_;first | refine ab F F F cx_pt1 F ?_ | (refine ab F F F (jh ?_) F ?_;(focus ((simp;omega);done))) | (refine ab F F F (eU ?_) F ?_;(focus ((simp;omega);done)))) | (refine ac F ?_ ?_;(focus ((simp;omega);done))) | (refine ad F (by first | rfl | (refine decide_eq_false ?_;(omega))) ?_) | (refine ai (am (id:=12) _ (fun _ h=>h) ah ?_);refine jW 0 [0,1,2,3,4,5,6,7,8,9,10] (aa 11 2047) ?_;refine jQ ?_))
    all_goals refine jY (vs:=[_,_,_,_]) ?_
    all_goals exact hnof hno F
   by_cases hpre : (r.drop m).take (a7 (dy (r.take m))).length = a7 (dy (r.take m))
   case neg =>
    have hno : ∀ b r,b.length ≤ 100 → (126 :: q : ac1) ≠ frame b ++ r:=fun b r' hb e=>by
     refine hpre ?_
     rw [hall b r' hb e,List.take_left]
    refine jE [(0,_)] Tryz.func102 Tryz.ntmps102 fun B hB=>?_
    repeat' (first | refine jX ?_ | (refine jo ?_;first | refine ab F F F cx_pt1 F ?_ | (refine ab F F F (jh ?_) F ?_;(focus ((simp;omega);done))) | (refine ab F F F (eU ?_) F ?_;(focus ((simp;omega);done)))) | refine ac F (ar ‹_›) ?_ | (refine ad F ?_ ?_;(focus ((first | rfl | (refine decide_eq_false ?_;(omega)) | (simp;omega));done))))
    all_goals refine jY (vs:=[_,_,_,_]) ?_
    all_goals exact hnof hno F
   have hyes : (126 :: q : ac1) = frame (r.take m) ++ (r.drop m).drop (a7 (dy (r.take m))).length:=by
    rw [pt oM,htl,hq]
    congr 2
    conv=>lhs;rw [← List.take_append_drop m r]
    congr 1
    conv=>lhs;rw [← List.take_append_drop (a7 (dy (r.take m))).length (r.drop m),hpre]
   refine jE [(0,_)] Tryz.func102 Tryz.ntmps102 fun B hB=>?_
   repeat' (first | refine jX ?_ | (refine jo ?_;first | refine ab F F F cx_pt1 F ?_ | (refine ab F F F (jh ?_) F ?_;(focus ((simp;omega);done))) | (refine ab F F F (eU ?_) F ?_;(focus ((simp;omega);done)))) | (refine ad F ?_ ?_;(focus ((first | rfl | (refine decide_eq_false ?_;(omega)) | (simp [*];done) | (simp;omega));done))) | (refine ai (am (id:=15) _ (fun _ h=>h) ah ?_);refine jW 0 [0,1,2,3,4,5,6,7,8] (aa 9 511) ?_;refine jQ ?_))
   all_goals refine jY (vs:=[_,_,_,_]) ?_
   all_goals exact ⟨_,_,_,_,F,fun _=>⟨by rw [htk,htl];omega,hyes⟩,fun h=>(by cases h)⟩
def JF (s : ac1) (xs : List ac1) (j : Nat) (t : ac1) : Prop:=(j = 0 → s = (xs.map frame).flatten ++ t ∧ ∀ x ∈ xs,x.length ≤ 100) ∧ (∀ b,b.length ≤ 100 → s = frame b → xs = [b] ∧ j = 0 ∧ t = [])
def JL (s : ac1) (xs : List ac1) (j : Nat) (t : ac1) : Prop:=(j = 0 → s = (xs.map frame).flatten ++ t ∧ ∀ x ∈ xs,x.length ≤ 100) ∧ (∀ b,b.length ≤ 100 → s = frame b → (xs = [] ∧ j = 0 ∧ t = s) ∨ (xs = [b] ∧ j = 0 ∧ t = []))
theorem rY {b : ac1} : frame b ≠ []:=by unfold frame;simp
theorem JL.hit {s tx rs t : ac1} {xs : List ac1} {j : Nat} (h : JL s xs j t) (hl : tx.length ≤ 100) (ht : t = frame tx ++ rs) : JL s (xs ++ [tx]) j rs:=by
 refine ⟨fun hj=>?_,fun b hb e=>?_⟩
 ·obtain ⟨h1,h2⟩:=h.1 hj
  refine ⟨?_,fun x hx=>?_⟩
  ·rw [h1,ht,List.map_append,List.flatten_append];simp
  ·rcases List.mem_append.1 hx with hx | hx
   ·exact h2 x hx
   ·simp only [List.mem_singleton] at hx;subst hx;exact hl
 ·rcases h.2 b hb e with ⟨h1,h2,h3⟩ | ⟨h1,h2,h3⟩
  ·have e2 : frame tx ++ rs = frame b ++ []:=by rw [← ht,h3,e,List.append_nil]
   obtain ⟨rfl,rfl⟩:=vM hl hb e2
   exact .inr ⟨by rw [h1];rfl,h2,rfl⟩
  ·rw [h3] at ht
   exact absurd ht.symm (by unfold frame;simp)
theorem JL.miss {s t : ac1} {xs : List ac1} {j : Nat} (h : JL s xs j t) (ht : t ≠ []) (hno : ∀ b r,b.length ≤ 100 → t ≠ frame b ++ r) : ∀ b,b.length ≤ 100 → s ≠ frame b:=fun b hb e=>by
 rcases h.2 b hb e with ⟨h1,h2,h3⟩ | ⟨h1,h2,h3⟩
 ·exact hno b [] hb (by rw [h3,e,List.append_nil])
 ·exact ht h3
theorem JL.junk {s t' : ac1} {xs : List ac1} {j : Nat} (h : ∀ b,b.length ≤ 100 → s ≠ frame b) : JL s xs (j + 1) t':=⟨fun h=>absurd h oM,fun b hb e=>absurd e (h b hb)⟩
theorem JF.of {s t : ac1} {xs : List ac1} {j : Nat} (h : JL s xs j t) (h2 : ∀ b,b.length ≤ 100 → s ≠ frame b) : JF s xs j t:=⟨h.1,fun b hb e=>absurd e (h2 b hb)⟩
theorem JF.fin {s : ac1} {xs : List ac1} {j : Nat} (h : JL s xs j []) : JF s xs j []:=⟨h.1,fun b hb e=>by
 rcases h.2 b hb e with ⟨_,_,h3⟩ | h3
 ·rw [e] at h3;exact absurd h3.symm rY
 ·exact h3⟩
theorem JF.bad {s t : ac1} {xs : List ac1} {j : Nat} (h : JF s xs j t) (hj : em s = none) : 0 < j ∨ t ≠ [] ∨ xs.length ≠ 1:=by
 by_cases h0 : 0 < j
 ·exact .inl h0
 by_cases h1 : t = []
 ·refine .inr (.inr fun hx=>?_)
  obtain ⟨b,rfl⟩:=List.length_eq_one_iff.1 hx
  obtain ⟨e,hb⟩:=h.1 oM
  have hb:=hb b (by simp)
  have : em s = some b:=lz.2 ⟨hb,by rw [e,h1];simp⟩
  rw [hj] at this;cases this
 ·exact .inr (.inl h1)
abbrev rl : TypeId:=9
theorem tY {s : ac1} (hs : s.length ≤ 2000) : c8 ac0 67 [S s] G [] (fun v L'=>∃ u j t xs,v = Tu [u,I (j : Nat),S t] ∧ L' = [.acc u rl 1 xs.length (iK xs)] ∧ rh u xs.length ∧ JF s xs j t):=by
 refine jH [(0,_)] Tryz.func67 Tryz.ntmps67 fun B hB hW=>?_
 repeat' (first | refine jR ?_ | (refine jo ?_;refine jF fun _=>?_))
 rename_i y
 refine Nx.blkAcc (m:=0) (sz:=1) .here F ?_
 refine aR (ι:=Value × List ac1 × Nat × ac1) (fun i=>i.2.1.length + i.2.2.1 + i.2.2.2.length ≤ 2000 ∧ JL s i.2.1 i.2.2.1 i.2.2.2) (fun i=>[(0,S i.2.2.2),(5,i.1),(6,I i.2.2.1)]) (fun _=>G) (fun i=>[.acc i.1 rl 1 i.2.1.length (iK i.2.1)]) (fun i=>i.2.2.2.length) (.slice (some ⟨y,0,none⟩) 0 0,[],0,s) ?_ tU F aW (fun i hI=>?_)
 ·exact ⟨by dsimp only;simp only [List.length_nil];omega,fun _=>⟨rfl,fun x hx=>by cases hx⟩,fun b hb e=>.inl ⟨rfl,rfl,rfl⟩⟩
 obtain ⟨u,xs,j,t⟩:=i
 dsimp only at hI ⊢
 obtain ⟨hle,hJ⟩:=hI
 by_cases ht : t = []
 ·subst ht
  repeat' (first | refine jR ?_ | refine ad F F ?_)
  all_goals exact Nx.shp (.head _) fun hsh=>bh (vs:=[_,_,_]) F ⟨F,F,F,trivial⟩ F (List.Sublist.refl _) ⟨F,u,j,[],xs,F,F,hsh,JF.fin hJ⟩
 ·have hpos:=List.length_pos_iff.2 ht
  have cx_hd:=xi (G:=G) ht oM
  repeat' (first | refine jM ?_ | (refine jo ?_;first | refine jF fun _=>?_ | refine nn F F F F F F F F oM fun _=>?_ | (refine cZ F F F cx_hd F ?_;rintro _ ⟨tx1,rs1,ok1,gr1,rfl,hH⟩)) | refine ac F (ar ‹_›) ?_ | refine oc F (fun _=>?_) (fun _=>?_))
  ·obtain ⟨h1,h2⟩:=hH.1 aS
   have h3:=congrArg List.length h2
   have h4:=List.length_pos_iff.2 (rY (b:=tx1))
   simp only [List.length_append] at h3
   refine aX (_,xs ++ [tx1],j,rs1) ⟨by dsimp only;simp only [List.length_append,List.length_cons,List.length_nil];omega,hJ.hit h1 h2⟩ (by dsimp only;omega) tU rfl (by dsimp only;simp only [j5,List.length_append,List.length_cons,List.length_nil,Nat.zero_add];repeat (first | exact List.nil_sublist _ | apply List.Sublist.cons_cons))
  ·have hno:=hJ.miss ht (hH.2 aS)
   exact Nx.shp (.head _) fun hsh=>bh (vs:=[_,_,_]) F ⟨F,F,F,trivial⟩ F (List.Sublist.refl _) ⟨F,u,j,t,xs,F,F,hsh,JF.of hJ hno⟩
  ·have hno:=hJ.miss ht (hH.2 aS)
   refine aX (u,xs,j + 1,t.drop 1) ⟨by dsimp only;simp only [List.length_drop];omega,JL.junk hno⟩ (by dsimp only;simp only [List.length_drop];omega) tU rfl aW
theorem abh {s : ac1} (hs : s.length ≤ 1048576) (hj : em s = none) : c8 ac0 26 [S s] G [] (fun v L'=>∃ u j t xs ok,v = Tu [u,I (j : Nat),S t,Bo ok] ∧ L' = [.acc u rl 1 xs.length (iK xs)] ∧ (ok = false ∨ 0 < j ∨ t ≠ [] ∨ xs.length ≠ 1)):=by
 by_cases h : s.length ≤ 2000
 ·have cx_lg:=tY (G:=G) h
  refine jH [(0,_)] Tryz.func26 Tryz.ntmps26 fun B hB hW=>?_
  repeat' (first | refine jR ?_ | (refine jo ?_;(refine dB F F F cx_lg F ?_;rintro _ _ ⟨ub,j1,t1,xs1,rfl,rfl,hsh1,hJ1⟩;dsimp only [zA,fA])) | refine ad F (aA oM) ?_)
  all_goals exact bh (vs:=[_,_,_,_]) F ⟨F,F,F,F,trivial⟩ F (List.Sublist.refl _) ⟨F,ub,j1,t1,xs1,true,F,F,.inr (hJ1.bad hj)⟩
 ·refine jH [(0,_)] Tryz.func26 Tryz.ntmps26 fun B hB hW=>?_
  repeat' (first | refine jR ?_ | (refine jo ?_;refine jF fun _=>?_) | refine ac F (ar oM) ?_)
  rename_i y
  refine Nx.blkAcc (m:=0) (sz:=1) .here F ?_
  exact bh (vs:=[_,_,_,_]) F ⟨F,F,F,F,trivial⟩ F (List.Sublist.refl _) ⟨F,_,0,[],[],false,F,F,.inl F⟩
theorem abj {s b : ac1} (hj : em s = some b) : c8 ac0 26 [S s] G [] (fun v L'=>∃ y cap,v = Tu [.slice (some ⟨y,0,none⟩) 1 cap,I 0,S [],Bo true] ∧ L' = [.acc (.slice (some ⟨y,0,none⟩) 1 cap) rl 1 1 [S b]]):=by
 obtain ⟨hb,rfl⟩:=lz.1 hj
 have hl:=ki b oM
 have cx_lg:=tY (G:=G) (s:=frame b) oM
 refine jH [(0,_)] Tryz.func26 Tryz.ntmps26 fun B hB hW=>?_
 repeat' (first | refine jR ?_ | (refine jo ?_;(refine dB F F F cx_lg F ?_;rintro _ _ ⟨ub,j1,t1,xs1,rfl,rfl,hsh1,hJ1⟩;dsimp only [zA,fA])) | refine ad F (aA oM) ?_)
 obtain ⟨rfl,rfl,rfl⟩:=hJ1.2 b hb rfl
 obtain ⟨y,cap,rfl⟩:=hsh1.pos (by simp)
 exact bh (vs:=[_,_,_,_]) F ⟨F,F,F,F,trivial⟩ F (List.Sublist.refl _) ⟨F,y,cap,F,F⟩
theorem abi {s : ac1} (hs : s.length ≤ 1048576) (hj : em s = none) : c8 ac0 69 [S s] G [] (fun v L'=>∃ u j t xs ok,v = Tu [u,I (j : Nat),S t,Bo ok] ∧ L' = [.acc u kB 1 xs.length (iK xs)] ∧ (ok = false ∨ 0 < j ∨ t ≠ [] ∨ xs.length ≠ 1)):=by
 refine (mZ (G:=G) (s:=s) oM).mono ?_
 rintro v G' L' ⟨h1,u,rfl,rfl,h4⟩
 refine ⟨h1,u,(ci s).2.1,(ci s).2.2,(ci s).1,decide (s.length ≤ 2000),F,F,?_⟩
 by_cases a1 : s.length ≤ 2000
 ·by_cases a2 : (ci s).2.1 = 0
  ·by_cases a3 : (ci s).2.2 = []
   ·refine .inr (.inr (.inr fun hx=>?_))
    obtain ⟨b,hb⟩:=List.length_eq_one_iff.1 hx
    unfold em at hj
    rw [if_pos ⟨a1,a2,a3⟩,hb] at hj
    cases hj
   ·exact .inr (.inr (.inl a3))
  ·exact .inr (.inl oM)
 ·exact .inl (decide_eq_false a1)
theorem abk {s b : ac1} (hj : em s = some b) : c8 ac0 69 [S s] G [] (fun v L'=>∃ y cap,v = Tu [.slice (some ⟨y,0,none⟩) 1 cap,I 0,S [],Bo true] ∧ L' = [.acc (.slice (some ⟨y,0,none⟩) 1 cap) kB 1 1 [S b]]):=by
 obtain ⟨hb,rfl⟩:=lz.1 hj
 have hl:=ki b oM
 refine (mZ (G:=G) (s:=frame b) oM).mono ?_
 rintro v G' L' ⟨h1,u,rfl,rfl,h4⟩
 rw [kh hb] at h4 ⊢
 obtain ⟨y,cap,rfl⟩:=h4.pos (by simp)
 exact ⟨h1,y,cap,by rw [decide_eq_true oM];rfl,rfl⟩
theorem td {s : ac1} (hs : s.length ≤ 1048576) : aC ac0 32 [S s] G (· = hY (em s)):=by
 cases hj : em s with
 | none =>
  have hFG:=abi (G:=G) hs hj
  refine jE [(0,_)] Tryz.func32 Tryz.ntmps32 fun B hB=>?_
  repeat' (refine jR ?_)
  refine jo ?_
  refine dB F F F hFG F ?_
  rintro _ _ ⟨ub,j1,t1,xs1,ok1,rfl,rfl,hbad⟩
  dsimp only [zA,fA]
  rcases hbad with rfl | h | h | h
  all_goals repeat' (first | refine jR ?_ | (refine jo ?_;first | refine aH F ?_ | refine aw F ?_ | refine jV (uF F) ?_) | (refine ax F F (by first | rfl | (refine decide_eq_true ?_;first | assumption | omega)) ?_) | refine eD F F (fun _=>?_) (fun _=>?_) | refine mG F F (fun _=>?_) (fun _=>?_) | (refine ac F (by first | rfl | (refine decide_eq_true ?_;(omega))) ?_))
  all_goals refine jY (vs:=[_,_]) ?_
  all_goals rfl
 | some b =>
  have cx_FramesGet:=abk (G:=G) hj
  refine jE [(0,_)] Tryz.func32 Tryz.ntmps32 fun B hB=>?_
  repeat' (first | refine jR ?_ | (refine jo ?_;first | refine aw F ?_ | refine jV (al F) ?_ | refine jV (be F F oM) ?_ | refine jV (iw F F F) ?_ | (refine dB F F F cx_FramesGet F ?_;rintro _ _ ⟨b,cap,rfl,rfl⟩;dsimp only [zA,fA])) | refine aj F F F ?_ | refine ad F F ?_)
  all_goals refine jY (vs:=[_,_]) ?_
  all_goals rfl
def cA (s k body w : ac1) (n : Nat) : Option V:=if n ≤ body.length ∧ body.drop (body.length - n) = a7 (dy (w ++ body.take (body.length - n) ++ w)) then cM s k (body.take (body.length - n)) else none
def dg (s k x w : ac1) : Option V:=match em x with
 | some body=>if 1 ≤ w.length ∧ w.length ≤ 20 then (match cA s k body w 1 with
  | some v=>some v
  | none=>cA s k body w 2) else none
 | none=>none
section
variable {s k x body w : ac1} {n : Nat} {v : V}
theorem yg (h : bm (body.drop (body.length - n)) = none) : cA s k body w n = none:=by
 unfold cA
 rw [if_neg]
 rintro ⟨_,e⟩
 have hr:=e9 (w ++ body.take (body.length - n) ++ w)
 have:=fY (n:=dy (w ++ body.take (body.length - n) ++ w)) oM oM []
 rw [List.append_nil,← e,h] at this
 cases this
theorem tq {m : Int} {r : ac1} (h : bm (body.drop (body.length - n)) = some (m,r)) (hn : r ≠ [] ∨ dy (w ++ body.take (body.length - n) ++ w) ≠ m) : cA s k body w n = none:=by
 unfold cA
 rw [if_neg]
 rintro ⟨_,e⟩
 have hr:=e9 (w ++ body.take (body.length - n) ++ w)
 have:=fY (n:=dy (w ++ body.take (body.length - n) ++ w)) oM oM []
 rw [List.append_nil,← e,h] at this
 simp only [Option.some.injEq,Prod.mk.injEq] at this
 rcases hn with h1 | h1
 ·exact h1 this.2
 ·exact h1 this.1.symm
theorem ry (h : cM s k (body.take (body.length - n)) = none) : cA s k body w n = none:=by
 unfold cA
 split
 ·exact h
 ·rfl
theorem zU {m : Int} (h : bm (body.drop (body.length - n)) = some (m,[])) (hs : dy (w ++ body.take (body.length - n) ++ w) = m) (hn : n ≤ body.length) (hc : cM s k (body.take (body.length - n)) = some v) : cA s k body w n = some v:=by
 unfold cA
 obtain ⟨_,_,e⟩:=cF h
 rw [if_pos ⟨hn,by rw [hs,e,List.append_nil]⟩,hc]
theorem oT (hj : em x = some body) (hw : 1 ≤ w.length ∧ w.length ≤ 20) (h1 : 1 ≤ n) (hi : ∀ j,1 ≤ j → j < n → cA s k body w j = none) (h : cA s k body w n = some v) : dg s k x w = some v:=by
 unfold dg
 rw [hj]
 dsimp only
 rw [if_pos hw]
 obtain rfl | rfl | h3 : n = 1 ∨ n = 2 ∨ 3 ≤ n:=oM
 ·rw [h]
 ·rw [hi 1 oM oM];exact h
 ·exfalso
  unfold cA at h
  split at h
  ·rename_i hc
   have hr:=e9 (w ++ body.take (body.length - n) ++ w)
   have h4:=pj (n:=dy (w ++ body.take (body.length - n) ++ w)) oM
   have h5:=congrArg List.length hc.2
   rw [List.length_drop] at h5
   omega
  ·cases h
theorem mj (hj : em x = some body) (hi : ∀ j,1 ≤ j → j ≤ 2 → cA s k body w j = none) : dg s k x w = none:=by
 unfold dg
 rw [hj]
 dsimp only
 split
 ·rw [hi 1 oM oM];exact hi 2 oM oM
 ·rfl
theorem vm (h : ¬ n ≤ body.length) : cA s k body w n = none:=by unfold cA;rw [if_neg fun h2=>h h2.1]
end
theorem uW {s k x w : ac1} (h : s.length ≤ 1048576 ∧ k.length ≤ 1048576 ∧ x.length ≤ 1048576 ∧ w.length ≤ 1048576) : aC ac0 10 [S s,S k,S x,S w] G (· = hY ((dg s k x w).map V.out)):=by
 have cx_jf:=td (G:=G) (s:=x) oM
 unfold hY at cx_jf ⊢
 cases hj : em x with
 | none =>
  rw [hj] at cx_jf
  dsimp only [Option.getD,Option.isSome] at cx_jf
  have hno : dg s k x w = none:=by unfold dg;rw [hj]
  rw [hno]
  by_cases hw : 1 ≤ w.length ∧ w.length ≤ 20
  all_goals
   refine jE [(0,_),(1,_),(2,_),(3,_)] Tryz.func10 Tryz.ntmps10 fun B hB=>?_
   repeat' (first | refine jR ?_ | (refine jo ?_;first | refine aH F ?_ | refine ab F F F cx_jf F ?_) | refine ax F F F ?_ | refine ac F F ?_)
  all_goals refine jY (vs:=[_,_]) ?_
  all_goals rfl
 | some body =>
  rw [hj] at cx_jf
  dsimp only [Option.getD,Option.isSome] at cx_jf
  have hbl:=rT hj
  by_cases hw : 1 ≤ w.length ∧ w.length ≤ 20
  case neg =>
   have hno : dg s k x w = none:=by unfold dg;rw [hj];dsimp only;rw [if_neg hw]
   rw [hno]
   refine jE [(0,_),(1,_),(2,_),(3,_)] Tryz.func10 Tryz.ntmps10 fun B hB=>?_
   repeat' (first | refine jR ?_ | (refine jo ?_;first | refine aw F ?_ | refine ab F F F cx_jf F ?_ | refine ab F F F (xm oM) F ?_) | refine aj F F F ?_ | refine ac F F ?_)
   all_goals refine jY (vs:=[_,_]) ?_
   all_goals rfl
  refine jE [(0,_),(1,_),(2,_),(3,_)] Tryz.func10 Tryz.ntmps10 fun B hB=>?_
  repeat' (first | refine jR ?_ | (refine jo ?_;first | refine aw F ?_ | refine ab F F F cx_jf F ?_ | refine ab F F F (xl oM) F ?_) | refine aj F F F ?_ | refine ad F F ?_)
  refine aR (ι:=Nat) (fun i=>(1 ≤ i ∧ i ≤ 4) ∧ ∀ j,1 ≤ j → j < i → cA s k body w j = none) (fun i=>[(0,S s),(1,S k),(3,S w),(10,S body),(12,I (i : Nat))]) (fun _=>G) (fun i=>[]) (fun i=>4 - i) 1 ?_ tU F aW (fun i Hi=>?_)
  ·exact ⟨oM,fun j h1 h2=>absurd h1 oM⟩
  obtain ⟨⟨hi1,hi4⟩,hI⟩:=Hi
  by_cases hi : i ≤ 3 ∧ i ≤ body.length
  case neg =>
   have hno : dg s k x w = none:=mj hj fun j h1 h2=>by
    by_cases h3 : j < i
    ·exact hI j h1 h3
    ·exact vm oM
   rw [hno]
   by_cases h3 : i ≤ 3
   ·have h4 : ¬ i ≤ body.length:=fun h=>hi ⟨h3,h⟩
    repeat' (first | refine jR ?_ | (refine jo ?_;refine aH F ?_) | refine ax F F (ar oM) ?_ | refine ad F (aA oM) ?_)
    all_goals refine jY (vs:=[_,_]) ?_
    all_goals rfl
   ·repeat' (first | refine jR ?_ | (refine jo ?_;refine aw F ?_) | refine aj F F (aA oM) ?_ | refine ad F F ?_)
    all_goals refine jY (vs:=[_,_]) ?_
    all_goals rfl
  obtain ⟨hi3,hil⟩:=hi
  have hbb : body.take ((body.length : Int) - (i : Int)).toNat = body.take (body.length - i):=by congr 1;omega
  have hb2 : (body.take (body.length - i)).length = body.length - i:=by rw [List.length_take];omega
  have htl : body.drop (body.take (body.length - i)).length = body.drop (body.length - i):=by rw [hb2]
  have hdl : (body.drop (body.length - i)).length = i:=by rw [List.length_drop];omega
  have hnext : cA s k body w i = none → ∀ j,1 ≤ j → j < i + 1 → cA s k body w j = none:=fun h0 j h1 h2=>by
   by_cases h3 : j < i
   ·exact hI j h1 h3
   ·have : j = i:=oM
    subst this;exact h0
  have cx_ng0:=mX (G:=G) (s:=body.drop (body.length - i)) oM
  have cx_bc1:=l9 (G:=G) (s:=s) (k:=k) (b:=body.take (body.length - i)) oM
  cases hg : bm (body.drop (body.length - i)) with
  | none =>
   rw [hg] at cx_ng0
   have cx_ngi : aC ac0 34 [S (body.drop (body.length - i))] G (· = Tu [I 0,S [],Bo false]):=cx_ng0
   have hn:=hnext (yg hg)
   rw [← htl] at cx_ngi
   rw [← hbb] at cx_ngi cx_bc1 hb2
   clear hg cx_ng0 htl
   repeat' (first | refine jM ?_ | (refine jo ?_;first | refine aH F ?_ | refine ab F F F cx_ngi F ?_) | (refine ax F F (by first | rfl | (refine decide_eq_true ?_;(omega))) ?_) | (refine ac F (by first | rfl | (refine decide_eq_true ?_;(omega))) ?_))
   all_goals
    refine Nx.re (d:=12) (v':=I (i + 1 : Nat)) F (congrArg (Value.int .i64) oM) ?_
    exact aX (i + 1) ⟨oM,hn⟩ oM tU F aW
  | some z =>
   obtain ⟨m,r⟩:=z
   obtain ⟨hm0,hm1,_⟩:=cF hg
   rw [hg] at cx_ng0
   have cx_ngi : aC ac0 34 [S (body.drop (body.length - i))] G (· = Tu [I m,S r,Bo true]):=cx_ng0
   clear cx_ng0
   by_cases hr : r = []
   case neg =>
    have hn:=hnext (tq hg (.inl hr))
    rw [← htl] at cx_ngi
    rw [← hbb] at cx_ngi cx_bc1 hb2
    clear hg htl
    repeat' (first | refine jM ?_ | (refine jo ?_;first | refine aH F ?_ | refine aw F ?_ | refine ab F F F cx_ngi F ?_) | (refine ax F F (by first | rfl | (refine decide_eq_true ?_;first | assumption | omega)) ?_) | refine aj F F F ?_ | (refine ac F (by first | rfl | (refine decide_eq_true ?_;(omega))) ?_))
    all_goals
     refine Nx.re (d:=12) (v':=I (i + 1 : Nat)) F (congrArg (Value.int .i64) oM) ?_
     exact aX (i + 1) ⟨oM,hn⟩ oM tU F aW
   subst hr
   cases hc : cM s k (body.take (body.length - i)) with
   | none =>
    have hn:=hnext (ry hc)
    rw [hc] at cx_bc1
    dsimp only [Option.isSome] at cx_bc1
    rw [← htl] at cx_ngi
    rw [← hbb] at cx_ngi cx_bc1 hb2
    clear hg htl hc
    repeat' (first | refine jM ?_ | (refine jo ?_;first | refine aH F ?_ | refine aw F ?_ | refine ab F F F cx_ngi F ?_ | refine ab F F F cx_bc1 F ?_) | (refine ax F F (by first | rfl | (refine decide_eq_true ?_;(omega))) ?_) | refine aj F F F ?_ | (refine ac F (by first | rfl | (refine decide_eq_true ?_;(omega))) ?_))
    all_goals
     refine Nx.re (d:=12) (v':=I (i + 1 : Nat)) F (congrArg (Value.int .i64) oM) ?_
     exact aX (i + 1) ⟨oM,hn⟩ oM tU F aW
   | some v =>
    rw [hc] at cx_bc1
    dsimp only [Option.isSome] at cx_bc1
    have hwl : (w ++ body.take (body.length - i) ++ w).length ≤ 1000:=by simp only [List.length_append];omega
    by_cases hs : dy (w ++ body.take (body.length - i) ++ w) = m
    case neg =>
     have hn:=hnext (tq hg (.inr hs))
     rw [← htl] at cx_ngi
     rw [← hbb] at cx_ngi cx_bc1 hb2 hwl hs
     clear hg htl hc
     repeat' (first | refine jX ?_ | (refine jo ?_;first | refine aH F ?_ | refine aw F ?_ | refine ab F F F cx_ngi F ?_ | refine ab F F F cx_bc1 F ?_ | refine ab F F F (uP oM) F ?_) | refine ax F F (ar oM) ?_ | refine aj F F F ?_ | (refine ac F (by refine decide_eq_true ?_;first | assumption | omega) ?_))
     all_goals
      refine Nx.re (d:=12) (v':=I (i + 1 : Nat)) F (congrArg (Value.int .i64) oM) ?_
      exact aX (i + 1) ⟨oM,hn⟩ oM tU F aW
    have cx_bg1:=kL (G:=G) (s:=s) (k:=k) (b:=body.take (body.length - i)) oM
    rw [lP hc] at cx_bg1
    unfold hY at cx_bg1
    dsimp only [Option.map,Option.getD,Option.isSome] at cx_bg1
    rw [oT hj hw hi1 hI (zU hg hs hil hc)]
    dsimp only [Option.map,Option.getD,Option.isSome]
    rw [← htl] at cx_ngi
    rw [← hbb] at cx_ngi cx_bc1 hb2 hwl hs cx_bg1
    clear hg htl hc hI hnext
    generalize v.out = vo at *
    repeat' (first | refine jX ?_ | (refine jo ?_;first | refine aH F ?_ | refine aw F ?_ | refine ab F F F cx_ngi F ?_ | refine ab F F F cx_bc1 F ?_ | refine ab F F F (uP oM) F ?_ | refine ab F F F cx_bg1 F ?_) | refine ax F F (ar oM) ?_ | refine aj F F F ?_ | refine ac F (ar oM) ?_ | refine ad F (aA oM) ?_)
    all_goals refine jY (vs:=[_,_]) ?_
    all_goals rfl
theorem uV {s k x w : ac1} (h : s.length ≤ 1048576 ∧ k.length ≤ 1048576 ∧ x.length ≤ 1048576 ∧ w.length ≤ 1048576) : aC ac0 9 [S s,S k,S x,S w] G (· = hY ((dg s k x w).map V.out)):=by
 unfold hY
 cases hj : em x with
 | none =>
  have hFG:=abh (G:=G) (s:=x) oM hj
  have hno : dg s k x w = none:=by unfold dg;rw [hj]
  rw [hno]
  by_cases hw : 1 ≤ w.length ∧ w.length ≤ 20
  ·refine jE [(0,_),(1,_),(2,_),(3,_)] Tryz.func9 Tryz.ntmps9 fun B hB=>?_
   repeat' (refine jR ?_)
   refine jo ?_
   refine dB F F F hFG F ?_
   rintro _ _ ⟨ub,j1,t1,xs1,ok1,rfl,rfl,hbad⟩
   dsimp only [zA,fA]
   rcases hbad with rfl | h | h | h
   all_goals repeat' (first | refine jR ?_ | (refine jo ?_;first | refine aH F ?_ | refine aw F ?_ | refine jV (uF F) ?_) | (refine ax F F (by first | rfl | (refine decide_eq_true ?_;first | assumption | omega)) ?_) | refine eD F F (fun _=>?_) (fun _=>?_) | refine mG F F (fun _=>?_) (fun _=>?_) | refine ac F F ?_)
   all_goals refine jY (vs:=[_,_]) ?_
   all_goals rfl
  ·refine jE [(0,_),(1,_),(2,_),(3,_)] Tryz.func9 Tryz.ntmps9 fun B hB=>?_
   repeat' (refine jR ?_)
   refine jo ?_
   refine dB F F F hFG F ?_
   rintro _ _ ⟨ub,j1,t1,xs1,ok1,rfl,rfl,hbad⟩
   dsimp only [zA,fA]
   rcases hbad with rfl | h | h | h
   all_goals repeat' (first | refine jR ?_ | (refine jo ?_;first | refine aH F ?_ | refine aw F ?_ | refine jV (uF F) ?_) | (refine ax F F (by first | rfl | (refine decide_eq_true ?_;first | assumption | omega)) ?_) | refine eD F F (fun _=>?_) (fun _=>?_) | refine mG F F (fun _=>?_) (fun _=>?_) | refine ac F F ?_)
   all_goals refine jY (vs:=[_,_]) ?_
   all_goals rfl
 | some body =>
  have cx_FramesGet:=abj (G:=G) hj
  have hbl:=rT hj
  by_cases hw : 1 ≤ w.length ∧ w.length ≤ 20
  case neg =>
   have hno : dg s k x w = none:=by unfold dg;rw [hj];dsimp only;rw [if_neg hw]
   rw [hno]
   refine jE [(0,_),(1,_),(2,_),(3,_)] Tryz.func9 Tryz.ntmps9 fun B hB=>?_
   repeat' (first | refine jR ?_ | (refine jo ?_;first | refine aw F ?_ | refine jV (al F) ?_ | (refine dB F F F cx_FramesGet F ?_;rintro _ _ ⟨b,cap,rfl,rfl⟩;dsimp only [zA,fA]) | refine ab F F F (wa oM) F ?_) | refine aj F F F ?_ | refine ac F F ?_)
   all_goals refine jY (vs:=[_,_]) ?_
   all_goals rfl
  refine jE [(0,_),(1,_),(2,_),(3,_)] Tryz.func9 Tryz.ntmps9 fun B hB=>?_
  repeat' (first | refine jR ?_ | (refine jo ?_;first | refine aw F ?_ | refine jV (al F) ?_ | refine jV (be F F oM) ?_ | refine jV (iw F F F) ?_ | (refine dB F F F cx_FramesGet F ?_;rintro _ _ ⟨b,cap,rfl,rfl⟩;dsimp only [zA,fA]) | refine ab F F F (v9 oM) F ?_) | refine aj F F F ?_ | refine ad F F ?_)
  refine aR (ι:=Nat) (fun i=>(1 ≤ i ∧ i ≤ 3) ∧ ∀ j,1 ≤ j → j < i → cA s k body w j = none) (fun i=>[(0,S s),(1,S k),(3,S w),(14,S body),(15,I (i : Nat))]) (fun _=>G) (fun i=>[]) (fun i=>3 - i) 1 ?_ tU F (by repeat (exact List.nil_sublist _)) (fun i Hi=>?_)
  ·exact ⟨oM,fun j h1 h2=>absurd h1 oM⟩
  obtain ⟨⟨hi1,hi4⟩,hI⟩:=Hi
  by_cases hi : i ≤ 2 ∧ i ≤ body.length
  case neg =>
   have hno : dg s k x w = none:=mj hj fun j h1 h2=>by
    by_cases h3 : j < i
    ·exact hI j h1 h3
    ·exact vm oM
   rw [hno]
   by_cases h3 : i ≤ 2
   ·have h4 : ¬ i ≤ body.length:=fun h=>hi ⟨h3,h⟩
    repeat' (first | refine jR ?_ | (refine jo ?_;refine aH F ?_) | refine ax F F (ar oM) ?_ | refine ad F (aA oM) ?_)
    all_goals refine jY (vs:=[_,_]) ?_
    all_goals rfl
   ·repeat' (first | refine jR ?_ | (refine jo ?_;refine aw F ?_) | refine aj F F (aA oM) ?_ | refine ad F F ?_)
    all_goals refine jY (vs:=[_,_]) ?_
    all_goals rfl
  obtain ⟨hi3,hil⟩:=hi
  have hbb : body.take ((body.length : Int) - (i : Int)).toNat = body.take (body.length - i):=by congr 1;omega
  have hbd : body.drop ((body.length : Int) - (i : Int)).toNat = body.drop (body.length - i):=by congr 1;omega
  have hb2 : (body.take (body.length - i)).length = body.length - i:=by rw [List.length_take];omega
  have hnext : cA s k body w i = none → ∀ j,1 ≤ j → j < i + 1 → cA s k body w j = none:=fun h0 j h1 h2=>by
   by_cases h3 : j < i
   ·exact hI j h1 h3
   ·have : j = i:=oM
    subst this;exact h0
  have cx_bc1:=rk (G:=G) (s:=s) (k:=k) (b:=body.take (body.length - i)) oM
  have hwl : (w ++ body.take (body.length - i) ++ w).length ≤ 1000:=by simp only [List.length_append];omega
  have hsr:=e9 (w ++ body.take (body.length - i) ++ w)
  by_cases hd : body.drop (body.length - i) = a7 (dy (w ++ body.take (body.length - i) ++ w))
  case neg =>
   have hn:=hnext (by unfold cA;rw [if_neg fun h=>hd h.2])
   rw [← hbb] at hb2 hd hsr hwl cx_bc1
   rw [← hbd] at hd
   repeat' (first | refine jM ?_ | (refine jo ?_;refine aH F ?_) | refine ax F F (ar oM) ?_ | refine ac F (ar oM) ?_ | refine ad F F ?_ | (refine ai (am (id:=9) _ (fun _ h=>h) ah ?_);refine jW 9 [0,1,2,3,4,5,6,7,8,9,10] (aa 20 2047) ?_;refine jA 11 F ?_;(refine ab F F F (jh oM) F ?_);refine jS (aa 20 4095) ?_;refine jA 12 F ?_;(refine ab F F F (eU oM) F ?_);refine jS (aa 20 8191) ?_;refine jT 5 [13,14] (aa 20 32767) ?_;(try (refine Nx.re (d:=77) (v':=Bo false) F (congrArg Value.bool (aA ‹_›)) ?_));refine jT 2 [15,16,17] (aa 20 262143) ?_;(refine jN (aa 20 524287) 18 F ?_);(refine jG (aa 20 1048575) 19 F (bc F F F) ?_);refine jQ ?_))
   all_goals
    refine Nx.re (d:=15) (v':=I (i + 1 : Nat)) F (congrArg (Value.int .i64) oM) ?_
    exact aX (i + 1) ⟨oM,hn⟩ oM tU F aW
  cases hc : cM s k (body.take (body.length - i)) with
  | none =>
   have hn:=hnext (ry hc)
   rw [hc] at cx_bc1
   dsimp only [Option.isSome] at cx_bc1
   clear hc
   rw [← hbb] at hb2 hd hsr hwl cx_bc1
   rw [← hbd] at hd
   repeat' (first | refine jM ?_ | (refine jo ?_;refine aH F ?_) | refine ax F F (ar oM) ?_ | refine ac F (ar oM) ?_ | refine ad F F ?_ | (refine ai (am (id:=9) _ (fun _ h=>h) ah ?_);refine jW 9 [0,1,2,3,4,5,6,7,8,9,10] (aa 20 2047) ?_;refine jA 11 F ?_;(refine ab F F F (jh oM) F ?_);refine jS (aa 20 4095) ?_;refine jA 12 F ?_;(refine ab F F F (eU oM) F ?_);refine jS (aa 20 8191) ?_;refine jT 5 [13,14] (aa 20 32767) ?_;(try (refine Nx.re (d:=77) (v':=Bo true) F (congrArg Value.bool (ar ‹_›)) ?_));refine jT 2 [15,16,17] (aa 20 262143) ?_;(refine jA 18 F ?_;(refine ab F F F cx_bc1 F ?_);refine jS (aa 20 524287) ?_);(refine jG (aa 20 1048575) 19 F (bD F F F) ?_);refine jQ ?_))
   all_goals
    refine Nx.re (d:=15) (v':=I (i + 1 : Nat)) F (congrArg (Value.int .i64) oM) ?_
    exact aX (i + 1) ⟨oM,hn⟩ oM tU F aW
  | some v =>
   rw [hc] at cx_bc1
   dsimp only [Option.isSome] at cx_bc1
   have hyes : cA s k body w i = some v:=by unfold cA;rw [if_pos ⟨hil,hd⟩,hc]
   rw [oT hj hw hi1 hI hyes]
   have cx_bg1:=th (G:=G) (s:=s) (k:=k) (b:=body.take (body.length - i)) oM
   rw [uO hc] at cx_bg1
   unfold hY at cx_bg1
   dsimp only [Option.map,Option.getD,Option.isSome] at cx_bg1 ⊢
   clear hc hyes hI hnext
   rw [← hbb] at hb2 hd hsr hwl cx_bc1 cx_bg1
   rw [← hbd] at hd
   generalize v.out = vo at *
   repeat' (first | refine jM ?_ | (refine jo ?_;first | refine aH F ?_ | refine ab F F F cx_bg1 F ?_) | refine ax F F (ar oM) ?_ | (refine ac F (by first | rfl | (refine decide_eq_true ?_;(omega))) ?_) | (refine ai (am (id:=9) _ (fun _ h=>h) ah ?_);refine jW 9 [0,1,2,3,4,5,6,7,8,9,10] (aa 20 2047) ?_;refine jA 11 F ?_;(refine ab F F F (jh oM) F ?_);refine jS (aa 20 4095) ?_;refine jA 12 F ?_;(refine ab F F F (eU oM) F ?_);refine jS (aa 20 8191) ?_;refine jT 5 [13,14] (aa 20 32767) ?_;(try (refine Nx.re (d:=77) (v':=Bo true) F (congrArg Value.bool (ar ‹_›)) ?_));refine jT 2 [15,16,17] (aa 20 262143) ?_;(refine jA 18 F ?_;(refine ab F F F cx_bc1 F ?_);refine jS (aa 20 524287) ?_);(refine jG (aa 20 1048575) 19 F (bD F F F) ?_);refine jQ ?_))
   all_goals refine jY (vs:=[_,_]) ?_
   all_goals rfl
theorem oI {s k w x : ac1} (h : s.length ≤ 9223372036854775807 ∧ k.length ≤ 9223372036854775807 ∧ w.length ≤ 9223372036854775807 ∧ x.length ≤ 9223372036854775807) : aC ac0 4 [S s,S k,S w,S x] G (· = Bo true):=by
 by_cases h1 : s.length ≤ 1048576 ∧ k.length ≤ 1048576 ∧ w.length ≤ 1048576 ∧ x.length ≤ 1048576
 ·have cx_sg1:=uW (G:=G) h1
  have cx_sg2:=uV (G:=G) h1
  unfold hY at cx_sg1 cx_sg2
  generalize ((dg s k w x).map V.out).getD [] = o1 at *
  generalize ((dg s k w x).map V.out).isSome = o3 at *
  refine jE [(0,_),(1,_),(2,_),(3,_)] Tryz.func4 Tryz.ntmps4 fun B hB=>?_
  repeat' (first | refine jR ?_ | (refine jo ?_;first | refine aw F ?_ | refine ab F F F cx_sg2 F ?_ | refine ab F F F cx_sg1 F ?_) | (refine aj F F ?_ ?_;(focus ((simp [*];done);done))) | (refine ad F ?_ ?_;(focus ((first | (refine decide_eq_false ?_;(omega)) | (simp [*];done));done))))
  all_goals refine jY (vs:=[_]) ?_
  all_goals rfl
 ·by_cases ha : s.length ≤ 1048576
  case neg =>
   refine jE [(0,_),(1,_),(2,_),(3,_)] Tryz.func4 Tryz.ntmps4 fun B hB=>?_
   repeat' (first | refine jR ?_ | refine ac F (ar oM) ?_)
   refine jY (vs:=[_]) ?_
   rfl
  by_cases hb : k.length ≤ 1048576
  case neg =>
   refine jE [(0,_),(1,_),(2,_),(3,_)] Tryz.func4 Tryz.ntmps4 fun B hB=>?_
   repeat' (first | refine jR ?_ | refine ac F (ar oM) ?_ | refine ad F (aA oM) ?_)
   refine jY (vs:=[_]) ?_
   rfl
  by_cases hc : w.length ≤ 1048576
  case neg =>
   refine jE [(0,_),(1,_),(2,_),(3,_)] Tryz.func4 Tryz.ntmps4 fun B hB=>?_
   repeat' (first | refine jR ?_ | refine ac F (ar oM) ?_ | refine ad F (aA oM) ?_)
   refine jY (vs:=[_]) ?_
   rfl
  have hd : ¬ x.length ≤ 1048576:=fun hd=>h1 ⟨ha,hb,hc,hd⟩
  refine jE [(0,_),(1,_),(2,_),(3,_)] Tryz.func4 Tryz.ntmps4 fun B hB=>?_
  repeat' (first | refine jR ?_ | refine ac F (ar oM) ?_ | refine ad F (aA oM) ?_)
  refine jY (vs:=[_]) ?_
  rfl
end Go.E
