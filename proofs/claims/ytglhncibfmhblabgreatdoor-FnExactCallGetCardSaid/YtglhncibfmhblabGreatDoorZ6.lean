/- Contracts and plain laws that the statement rests on, part 6. Conditions: as each says. -/
import Derived.Test.YtglhncibfmhblabGreatDoorZ5
set_option linter.unusedVariables false
set_option linter.unusedSimpArgs false
namespace Go.E
set_option maxRecDepth 20000
set_option maxHeartbeats 2000000
open Go.Proofs
variable {G : Gh}
theorem uX {n r sc p : Nat} {qs : List cx} {t : Ty} {x s q : abL} {m : Int} {d : Int} (hd : d = 12 - (n : Int)) (hn : n ≤ 12) (hS : ScI G sc qs) (hkv : lk (ge qs) x = some (Pt p 0)) (hT : gY G p t) (hw : TyW t) (hso : t.sort = 85) (hs : s.length ≤ 1000) (hg : bc s = some (m,q)) (ht : bL q = none) (hrd : bP (ak qs) (rb (ak qs) n) t s = none) :
  dh abK 93 [Pt r 0,Ag [S [],S [64],S x]] G [bD r sc s false none 0 0 d] (jt (bP (ak qs) (rb (ak qs) n) t) r sc s false d):=by
 obtain ⟨u,m2,g1,g2,g3⟩:=hS.at'
 have hso' : (t.sort : Int) = 85:=oM
 have cx_sign:=@dn G [64] x
 obtain ⟨hm0,hm1,_⟩:=cm hg
 have hl:=bx hg
 have cx_nb:=dZ (G:=G) (r:=r) (sc:=sc) (m:=0) (c:=0) (b:=false) (a:=none) (d:=d + 1) hg hs
 have cx_fldg:=lb hT hw ⟨hm0,hm1⟩
 obtain ⟨fv,ln,h1,h2⟩:=hT
 rcases e7 (s:=q) with ⟨hg2,ht2⟩ | ⟨m3,q2,hg2,hm,⟨hl3,ht2⟩ | ⟨hl3,ht2⟩⟩
 ·have cx_nb2:=fy (G:=G) (r:=r) (sc:=sc) (m:=0) (c:=0) (b:=false) (a:=none) (d:=d + 1) hg2 oM
  have cx_tkb:=fe (G:=G) (r:=r) (sc:=sc) (m:=0) (n:=0) (c:=0) (s:=[]) (b:=true) (a:=none) (d:=d + 1) (.inl rfl) ⟨by simp,oM⟩
  have cx_tkb : bQ abK 45 [Pt r 0,I 0] G [bD r sc [] true none 0 0 (d + 1)] (fun v L'=>v = S [] ∧ L' = [bD r sc [] true none 0 0 (d + 1)]):=cx_tkb
  refine ch [(0,_),(1,_)] Tryz.func93 kR Tryz.ntmps93 F F tU fun B hok hB hW=>?_
  repeat' (first | refine jM ?_ | (refine jo ?_;first | refine jO fun _=>?_ | refine jL fun _=>?_ | refine aj F ?_ | refine jD F F F ?_ | refine jV (c6 F F) ?_))
  rename_i x2 x3 x4
  refine jo ?_
  refine ci (fi:=[]) (ca:=[Pt x2 0]) (az:=[]) F F ?_
  repeat' (first | refine jR ?_ | (refine jo ?_;first | refine aj F ?_ | refine aG F ?_ | refine ab F F F cx_sign F ?_) | (refine ad F (by first | rfl | (refine decide_eq_false ?_;(omega))) ?_))
  (refine ai (an (id:=34) _ (fun _ h=>h) ah ?_);refine jT 10 [7] (aa 11 128) ?_;(refine jG (aa 11 129) 0 F (aq F F F) ?_);refine jT 7 [1,2] (aa 11 135) ?_;(refine jG (aa 11 143) 3 F (aq F F F) ?_);refine jT 4 [4,5] (aa 11 191) ?_;(refine jG (aa 11 255) 6 F (aI F F aS F F) ?_);(refine jG (aa 11 511) 8 F (aq F F F) ?_);((refine jG (aa 11 1023) 9 F (cz F F (em aS) aS F) ?_));refine jT 0 [10] (aa 11 2047) ?_;refine jQ ?_)
  all_goals repeat' (first | refine jR ?_ | (refine jo ?_;first | refine aj F ?_ | refine jV (aI F F aS F F) ?_ | (refine af F F F cx_nb F ?_;rintro _ _ ⟨rfl,rfl⟩;dsimp only [zA,fA])) | refine ac F (ay ‹_›) ?_ | refine ad F (aC oM) ?_)
  (refine ai (an (id:=43) [.blk x2 (.cells (List.toArray [Pt r 0]) eY (0,0))] (by intro y hy;simp only [List.mem_cons,List.not_mem_nil,or_false] at hy ⊢;simp [hy]) ah ?_);(refine jG (aa 5 1) 0 F (aq F F F) ?_);(refine jG (aa 5 3) 1 F (aq F F F) ?_);refine jA 2 F ?_;(refine af F F F cx_nb2 F ?_;rintro _ _ ⟨rfl,rfl⟩;dsimp only [zA,fA]);refine jK (aa 5 7) ?_;refine jA 3 F ?_;(refine af F F F cx_tkb F ?_;rintro _ _ ⟨rfl,rfl⟩;dsimp only [zA,fA]);refine jK (aa 5 15) ?_;refine jW 0 [4] (aa 5 31) ?_;refine jQ ?_)
  repeat' (refine jR ?_)
  refine jo ?_
  refine cn F F F cx_fldg F ?_
  rintro _ ⟨q9,rfl⟩
  cases q9
  all_goals repeat' (first | refine jR ?_ | (refine jo ?_;first | refine aj F ?_ | refine jD F F F ?_ | refine jC F F F ?_ | refine jV (ao F F) ?_ | refine aL F ?_ | refine av F ?_ | refine jV (cp F F) ?_) | refine aD F F F ?_ | refine al F F F ?_ | refine ac F F ?_)
  all_goals
   refine cV (.inl F) F (cC (x0:=x2) (r:=r) (sc:=sc) (s:=[]) (b:=true) (a:=none) (n:=0) (c:=0) (d:=d + 1) oM) F ?_
   rintro v G' L' ⟨rfl,rfl⟩
   dsimp only [zA,fA]
   exact ⟨[_],[bD r sc [] true none 0 0 (d + 1 - 1)],⟨aE F F F F,trivial⟩,sB,Gh.le.refl _,cA (c:=⟨0,[],0,none,0,0⟩) eZ oM (fun _=>⟨F,F,F⟩) ⟨by simp,fun h=>(by cases h),fun _=>.inr hrd⟩⟩
 ·have hl4:=bx hg2
  have cx_nb2:=dZ (G:=G) (r:=r) (sc:=sc) (m:=0) (c:=0) (b:=false) (a:=none) (d:=d + 1) hg2 oM
  have cx_tkb:=fe (G:=G) (r:=r) (sc:=sc) (m:=m3) (n:=0) (c:=0) (s:=q2) (b:=false) (a:=none) (d:=d + 1) (.inr hl3) ⟨oM,oM⟩
  refine ch [(0,_),(1,_)] Tryz.func93 kR Tryz.ntmps93 F F tU fun B hok hB hW=>?_
  repeat' (first | refine jM ?_ | (refine jo ?_;first | refine jO fun _=>?_ | refine jL fun _=>?_ | refine aj F ?_ | refine jD F F F ?_ | refine jV (c6 F F) ?_))
  rename_i x2 x3 x4
  refine jo ?_
  refine ci (fi:=[]) (ca:=[Pt x2 0]) (az:=[]) F F ?_
  repeat' (first | refine jR ?_ | (refine jo ?_;first | refine aj F ?_ | refine aG F ?_ | refine ab F F F cx_sign F ?_) | (refine ad F (by first | rfl | (refine decide_eq_false ?_;(omega))) ?_))
  (refine ai (an (id:=34) _ (fun _ h=>h) ah ?_);refine jT 10 [7] (aa 11 128) ?_;(refine jG (aa 11 129) 0 F (aq F F F) ?_);refine jT 7 [1,2] (aa 11 135) ?_;(refine jG (aa 11 143) 3 F (aq F F F) ?_);refine jT 4 [4,5] (aa 11 191) ?_;(refine jG (aa 11 255) 6 F (aI F F aS F F) ?_);(refine jG (aa 11 511) 8 F (aq F F F) ?_);((refine jG (aa 11 1023) 9 F (cz F F (em aS) aS F) ?_));refine jT 0 [10] (aa 11 2047) ?_;refine jQ ?_)
  all_goals repeat' (first | refine jR ?_ | (refine jo ?_;first | refine aj F ?_ | refine jV (aI F F aS F F) ?_ | (refine af F F F cx_nb F ?_;rintro _ _ ⟨rfl,rfl⟩;dsimp only [zA,fA])) | refine ac F (ay ‹_›) ?_ | refine ad F (aC oM) ?_)
  (refine ai (an (id:=43) [.blk x2 (.cells (List.toArray [Pt r 0]) eY (0,0))] (by intro y hy;simp only [List.mem_cons,List.not_mem_nil,or_false] at hy ⊢;simp [hy]) ah ?_);(refine jG (aa 5 1) 0 F (aq F F F) ?_);(refine jG (aa 5 3) 1 F (aq F F F) ?_);refine jA 2 F ?_;(refine af F F F cx_nb2 F ?_;rintro _ _ ⟨rfl,rfl⟩;dsimp only [zA,fA]);refine jK (aa 5 7) ?_;refine jA 3 F ?_;(refine af F F F cx_tkb F ?_;rintro _ _ ⟨rfl,rfl⟩;dsimp only [zA,fA]);refine jK (aa 5 15) ?_;refine jW 0 [4] (aa 5 31) ?_;refine jQ ?_)
  repeat' (refine jR ?_)
  refine jo ?_
  refine cn F F F cx_fldg F ?_
  rintro _ ⟨q9,rfl⟩
  cases q9
  all_goals repeat' (first | refine jR ?_ | (refine jo ?_;first | refine aj F ?_ | refine jD F F F ?_ | refine jC F F F ?_ | refine jV (ao F F) ?_ | refine aL F ?_ | refine av F ?_ | refine jV (cp F F) ?_) | refine aD F F F ?_ | refine al F F F ?_ | refine ac F F ?_)
  all_goals
   refine cV (.inl F) F (cC (x0:=x2) (r:=r) (sc:=sc) (s:=q2) (b:=true) (a:=none) (n:=0) (c:=0) (d:=d + 1) oM) F ?_
   rintro v G' L' ⟨rfl,rfl⟩
   dsimp only [zA,fA]
   exact ⟨[_],[bD r sc q2 true none 0 0 (d + 1 - 1)],⟨aE F F F F,trivial⟩,sB,Gh.le.refl _,cA (c:=⟨0,[],0,none,0,0⟩) eZ oM (fun _=>⟨F,F,F⟩) ⟨oM,fun h=>(by cases h),fun _=>.inr hrd⟩⟩
 ·rw [ht] at ht2;cases ht2
theorem aaE {n r sc p : Nat} {qs : List cx} {t : Ty} {x s : abL} {d : Int} (hd : d = 12 - (n : Int)) (hn : n ≤ 12) (hU : p6 n sc qs) (hS : ScI G sc qs) (hkv : lk (ge qs) x = some (Pt p 0)) (hT : gY G p t) (hw : TyW t) (hkf : ∀ d ∈ t.fields,aP (ak qs) d.kind = true) (hso : t.sort = 85) (hs : s.length ≤ 1000) :
  dh abK 93 [Pt r 0,Ag [S [],S [64],S x]] G [bD r sc s false none 0 0 d] (jt (bP (ak qs) (rb (ak qs) n) t) r sc s false d):=by
 obtain ⟨u,m2,g1,g2,g3⟩:=hS.at'
 have hT2:=hT
 obtain ⟨fv,ln,h1,h2⟩:=hT
 have hfl:=hw.len
 have hso' : (t.sort : Int) = 85:=oM
 have cx_sign:=@dn G [64] x
 have hrd : bP (ak qs) (rb (ak qs) n) t s = match bc s with
   | none=>none
   | some (m,r)=>match bJ t.fields m with
    | none=>none
    | some d=>match bL r with
     | none=>none
     | some (p,r')=>(cG (rb (ak qs) n) d.kind p).map fun v=>(.nd 85 [] d.tag [v],r'):=by
  unfold bP
  rw [if_neg oM]
  rcases bc s with _ | ⟨m,r⟩
  ·rfl
  ·dsimp only
   rcases bJ t.fields m with _ | d
   ·rfl
   ·dsimp only;rw [if_neg oM]
    all_goals (rcases bL r with _ | ⟨p,r'⟩ <;> rfl)
 cases hg : bc s with
 | none =>
  rw [hg] at hrd
  have cx_nb:=fy (G:=G) (r:=r) (sc:=sc) (m:=0) (c:=0) (b:=false) (a:=none) (d:=d + 1) hg hs
  have cx_nb2:=fy (G:=G) (r:=r) (sc:=sc) (m:=0) (c:=0) (s:=[]) (b:=true) (a:=none) (d:=d + 1) rfl (by simp)
  have cx_tkb:=fe (G:=G) (r:=r) (sc:=sc) (m:=0) (n:=0) (c:=0) (s:=[]) (b:=true) (a:=none) (d:=d + 1) (.inl rfl) ⟨by simp,oM⟩
  have cx_tkb : bQ abK 45 [Pt r 0,I 0] G [bD r sc [] true none 0 0 (d + 1)] (fun v L'=>v = S [] ∧ L' = [bD r sc [] true none 0 0 (d + 1)]):=cx_tkb
  have cx_fld:=dQ h1 h2 oM (jg hw)
  refine ch [(0,_),(1,_)] Tryz.func93 kR Tryz.ntmps93 F F tU fun B hok hB hW=>?_
  repeat' (first | refine jM ?_ | (refine jo ?_;first | refine jO fun _=>?_ | refine jL fun _=>?_ | refine aj F ?_ | refine jD F F F ?_ | refine jV (c6 F F) ?_))
  rename_i x2 x3 x4
  refine jo ?_
  refine ci (fi:=[]) (ca:=[Pt x2 0]) (az:=[]) F F ?_
  repeat' (first | refine jR ?_ | (refine jo ?_;first | refine aj F ?_ | refine aG F ?_ | refine ab F F F cx_sign F ?_) | (refine ad F (by first | rfl | (refine decide_eq_false ?_;(omega))) ?_))
  (refine ai (an (id:=34) _ (fun _ h=>h) ah ?_);refine jT 10 [7] (aa 11 128) ?_;(refine jG (aa 11 129) 0 F (aq F F F) ?_);refine jT 7 [1,2] (aa 11 135) ?_;(refine jG (aa 11 143) 3 F (aq F F F) ?_);refine jT 4 [4,5] (aa 11 191) ?_;(refine jG (aa 11 255) 6 F (aI F F aS F F) ?_);(refine jG (aa 11 511) 8 F (aq F F F) ?_);((refine jG (aa 11 1023) 9 F (cz F F (em aS) aS F) ?_));refine jT 0 [10] (aa 11 2047) ?_;refine jQ ?_)
  all_goals repeat' (first | refine jR ?_ | (refine jo ?_;first | refine aj F ?_ | refine jV (aI F F aS F F) ?_ | (refine af F F F cx_nb F ?_;rintro _ _ ⟨rfl,rfl⟩;dsimp only [zA,fA])) | refine ac F (ay ‹_›) ?_ | refine ad F (aC oM) ?_)
  (refine ai (an (id:=43) [.blk x2 (.cells (List.toArray [Pt r 0]) eY (0,0))] (by intro y hy;simp only [List.mem_cons,List.not_mem_nil,or_false] at hy ⊢;simp [hy]) ah ?_);(refine jG (aa 5 1) 0 F (aq F F F) ?_);(refine jG (aa 5 3) 1 F (aq F F F) ?_);refine jA 2 F ?_;(refine af F F F cx_nb2 F ?_;rintro _ _ ⟨rfl,rfl⟩;dsimp only [zA,fA]);refine jK (aa 5 7) ?_;refine jA 3 F ?_;(refine af F F F cx_tkb F ?_;rintro _ _ ⟨rfl,rfl⟩;dsimp only [zA,fA]);refine jK (aa 5 15) ?_;refine jW 0 [4] (aa 5 31) ?_;refine jQ ?_)
  all_goals repeat' (first | refine jR ?_ | (refine jo ?_;first | refine aj F ?_ | refine jD F F F ?_ | refine jC F F F ?_ | refine jV (ao F F) ?_ | refine aL F ?_ | refine jV (cp F F) ?_ | refine ab F F F cx_fld F ?_) | refine aD F F F ?_ | refine ac F F ?_)
  all_goals
   refine cV (.inl F) F (cC (x0:=x2) (r:=r) (sc:=sc) (s:=[]) (b:=true) (a:=none) (n:=0) (c:=0) (d:=d + 1) oM) F ?_
   rintro v G' L' ⟨rfl,rfl⟩
   dsimp only [zA,fA]
   exact ⟨[_],[bD r sc [] true none 0 0 (d + 1 - 1)],⟨aE F F F F,trivial⟩,sB,Gh.le.refl _,cA (c:=⟨0,[],0,none,0,0⟩) eZ oM (fun _=>⟨F,F,F⟩) ⟨by simp,fun h=>(by cases h),fun _=>.inr hrd⟩⟩
 | some z =>
  obtain ⟨m,q⟩:=z
  obtain ⟨hm0,hm1,_⟩:=cm hg
  have hl:=bx hg
  rw [hg] at hrd
  dsimp only at hrd
  rcases e7 (s:=q) with ⟨hg2,ht⟩ | ⟨m3,q2,hg2,hm,⟨hl3,ht⟩ | ⟨hl3,ht⟩⟩
  ·refine uX hd hn hS hkv hT2 hw hso hs hg ht ?_
   rw [hrd,ht]
   cases bJ t.fields m <;> rfl
  ·refine uX hd hn hS hkv hT2 hw hso hs hg ht ?_
   rw [hrd,ht]
   cases bJ t.fields m <;> rfl
  have hl4:=bx hg2
  have hdl : (q2.drop m3).length = q2.length - m3:=List.length_drop
  have htl : (q2.take m3).length ≤ 1000:=by rw [List.length_take];omega
  have cx_nb:=dZ (G:=G) (r:=r) (sc:=sc) (m:=0) (c:=0) (b:=false) (a:=none) (d:=d + 1) hg hs
  have cx_nb2:=dZ (G:=G) (r:=r) (sc:=sc) (m:=0) (c:=0) (b:=false) (a:=none) (d:=d + 1) hg2 oM
  have cx_tkb:=iT (G:=G) (r:=r) (sc:=sc) (m:=m3) (n:=0) (c:=0) (s:=q2) (a:=none) (d:=d + 1) ⟨hl3,oM⟩
  cases hft : bJ t.fields m with
  | none =>
   rw [hft] at hrd
   have cx_fld:=dQ h1 h2 oM hft
   refine ch [(0,_),(1,_)] Tryz.func93 kR Tryz.ntmps93 F F tU fun B hok hB hW=>?_
   repeat' (first | refine jM ?_ | (refine jo ?_;first | refine jO fun _=>?_ | refine jL fun _=>?_ | refine aj F ?_ | refine jD F F F ?_ | refine jV (c6 F F) ?_))
   rename_i x2 x3 x4
   refine jo ?_
   refine ci (fi:=[]) (ca:=[Pt x2 0]) (az:=[]) F F ?_
   repeat' (first | refine jR ?_ | (refine jo ?_;first | refine aj F ?_ | refine aG F ?_ | refine ab F F F cx_sign F ?_) | (refine ad F (by first | rfl | (refine decide_eq_false ?_;(omega))) ?_))
   (refine ai (an (id:=34) _ (fun _ h=>h) ah ?_);refine jT 10 [7] (aa 11 128) ?_;(refine jG (aa 11 129) 0 F (aq F F F) ?_);refine jT 7 [1,2] (aa 11 135) ?_;(refine jG (aa 11 143) 3 F (aq F F F) ?_);refine jT 4 [4,5] (aa 11 191) ?_;(refine jG (aa 11 255) 6 F (aI F F aS F F) ?_);(refine jG (aa 11 511) 8 F (aq F F F) ?_);((refine jG (aa 11 1023) 9 F (cz F F (em aS) aS F) ?_));refine jT 0 [10] (aa 11 2047) ?_;refine jQ ?_)
   all_goals repeat' (first | refine jR ?_ | (refine jo ?_;first | refine aj F ?_ | refine jV (aI F F aS F F) ?_ | (refine af F F F cx_nb F ?_;rintro _ _ ⟨rfl,rfl⟩;dsimp only [zA,fA])) | refine ac F (ay ‹_›) ?_ | refine ad F (aC oM) ?_)
   (refine ai (an (id:=43) [.blk x2 (.cells (List.toArray [Pt r 0]) eY (0,0))] (by intro y hy;simp only [List.mem_cons,List.not_mem_nil,or_false] at hy ⊢;simp [hy]) ah ?_);(refine jG (aa 5 1) 0 F (aq F F F) ?_);(refine jG (aa 5 3) 1 F (aq F F F) ?_);refine jA 2 F ?_;(refine af F F F cx_nb2 F ?_;rintro _ _ ⟨rfl,rfl⟩;dsimp only [zA,fA]);refine jK (aa 5 7) ?_;refine jA 3 F ?_;(refine af F F F cx_tkb F ?_;rintro _ _ ⟨rfl,rfl⟩;dsimp only [zA,fA]);refine jK (aa 5 15) ?_;refine jW 0 [4] (aa 5 31) ?_;refine jQ ?_)
   all_goals repeat' (first | refine jR ?_ | (refine jo ?_;first | refine aj F ?_ | refine jD F F F ?_ | refine jC F F F ?_ | refine jV (ao F F) ?_ | refine aL F ?_ | refine jV (cp F F) ?_ | refine ab F F F cx_fld F ?_) | refine aD F F F ?_ | refine ac F F ?_)
   all_goals
    refine cV (.inl F) F (cC (x0:=x2) (r:=r) (sc:=sc) (s:=(q2.drop m3)) (b:=true) (a:=none) (n:=0) (c:=0) (d:=d + 1) oM) F ?_
    rintro v G' L' ⟨rfl,rfl⟩
    dsimp only [zA,fA]
    exact ⟨[_],[bD r sc (q2.drop m3) true none 0 0 (d + 1 - 1)],⟨aE F F F F,trivial⟩,sB,Gh.le.refl _,cA (c:=⟨0,[],0,none,0,0⟩) eZ oM (fun _=>⟨F,F,F⟩) ⟨oM,fun h=>(by cases h),fun _=>.inr hrd⟩⟩
  | some f =>
   rw [hft] at hrd
   obtain ⟨j,hj,hjn,hjt,hjd⟩:=d6 hft
   obtain ⟨bf,of,cf,rfl,hsf⟩:=h2.expl oM
   have cx_fld:=eF h1 hsf oM hj hjn hjt
   have hft2 : f.tag = m:=by rw [← hjd];exact hjt
   dsimp only at hrd
   rw [ht,hft2] at hrd
   dsimp only at hrd
   subst hjd
   have cx_prt:=sS (G:=G) (r:=r) (sc:=sc) (m:=0) (c:=0) (a:=none) (s:=q2.drop m3) (k:=(ae t.fields j).kind) (p:=q2.take m3) (d:=d + 1) oM oM hU hS (hkf _ (bT hj)) htl
   refine ch [(0,_),(1,_)] Tryz.func93 kR Tryz.ntmps93 F F tU fun B hok hB hW=>?_
   repeat' (first | refine jM ?_ | (refine jo ?_;first | refine jO fun _=>?_ | refine jL fun _=>?_ | refine aj F ?_ | refine jD F F F ?_ | refine jV (c6 F F) ?_))
   rename_i x2 x3 x4
   refine jo ?_
   refine ci (fi:=[]) (ca:=[Pt x2 0]) (az:=[]) F F ?_
   repeat' (first | refine jR ?_ | (refine jo ?_;first | refine aj F ?_ | refine aG F ?_ | refine ab F F F cx_sign F ?_) | (refine ad F (by first | rfl | (refine decide_eq_false ?_;(omega))) ?_))
   (refine ai (an (id:=34) _ (fun _ h=>h) ah ?_);refine jT 10 [7] (aa 11 128) ?_;(refine jG (aa 11 129) 0 F (aq F F F) ?_);refine jT 7 [1,2] (aa 11 135) ?_;(refine jG (aa 11 143) 3 F (aq F F F) ?_);refine jT 4 [4,5] (aa 11 191) ?_;(refine jG (aa 11 255) 6 F (aI F F aS F F) ?_);(refine jG (aa 11 511) 8 F (aq F F F) ?_);((refine jG (aa 11 1023) 9 F (cz F F (em aS) aS F) ?_));refine jT 0 [10] (aa 11 2047) ?_;refine jQ ?_)
   all_goals repeat' (first | refine jR ?_ | (refine jo ?_;first | refine aj F ?_ | refine jV (aI F F aS F F) ?_ | (refine af F F F cx_nb F ?_;rintro _ _ ⟨rfl,rfl⟩;dsimp only [zA,fA])) | refine ac F (ay ‹_›) ?_ | refine ad F (aC oM) ?_)
   (refine ai (an (id:=43) [.blk x2 (.cells (List.toArray [Pt r 0]) eY (0,0))] (by intro y hy;simp only [List.mem_cons,List.not_mem_nil,or_false] at hy ⊢;simp [hy]) ah ?_);(refine jG (aa 5 1) 0 F (aq F F F) ?_);(refine jG (aa 5 3) 1 F (aq F F F) ?_);refine jA 2 F ?_;(refine af F F F cx_nb2 F ?_;rintro _ _ ⟨rfl,rfl⟩;dsimp only [zA,fA]);refine jK (aa 5 7) ?_;refine jA 3 F ?_;(refine af F F F cx_tkb F ?_;rintro _ _ ⟨rfl,rfl⟩;dsimp only [zA,fA]);refine jK (aa 5 15) ?_;refine jW 0 [4] (aa 5 31) ?_;refine jQ ?_)
   all_goals repeat' (first | refine jR ?_ | (refine jo ?_;first | refine aj F ?_ | refine av F ?_ | refine jV (cp F F) ?_ | refine ab F F F cx_fld F ?_) | refine al F F F ?_ | refine ad F F ?_)
   (refine ai (an (id:=48) [.blk x2 (.cells (List.toArray [Pt r 0]) eY (0,0))] (by intro y hy;simp only [List.mem_cons,List.not_mem_nil,or_false] at hy ⊢;simp [hy]) ah ?_);refine jW 11 [0,2,3,4,6] (aa 16 93) ?_;(refine jG (aa 16 95) 1 F (aq F F F) ?_);((refine jG (aa 16 127) 5 F (gT F F aS ?_ F F) ?_;focus omega));refine jA 7 F ?_;(refine dI F F F cx_prt F ?_;rintro _ G1 _ hle ⟨u1,c1,b1,rfl,hrep,rfl,hQ2,hQ3⟩;dsimp only [zA,fA];skip);refine jK (aa 16 255) ?_;refine dy [8,9] kR dC ⟨?_,?_,trivial⟩;(focus (refine bY F F ?_;(refine jF fun _=>?_);refine jK (aa 16 511) ?_;refine jA 9 F ?_;(refine jC F F F ?_);refine jK (aa 16 1023) ?_;refine jW 5 [10] (aa 16 2047) ?_;refine jA 11 F ?_;(refine jD F F F ?_);refine jK (aa 16 4095) ?_;refine jW 3 [12] (aa 16 8191) ?_;refine jA 13 F ?_;(refine jD F F F ?_);refine jK (aa 16 16383) ?_;refine jW 1 [14] (aa 16 32767) ?_;refine jA 15 F ?_;(refine jD F F F ?_);refine jK (aa 16 65535) ?_;refine jQ ?_));rotate_left 1;(focus (refine bY F F ?_;(refine jC F F F ?_);refine jK (aa 16 767) ?_;refine jW 6 [10] (aa 16 1791) ?_;refine dy [8,11] kR dC ⟨?_,?_,trivial⟩;(focus (refine bY F F ?_;(refine jF fun _=>?_);refine jK (aa 16 2047) ?_;refine jA 11 F ?_;(refine jD F F F ?_);refine jK (aa 16 4095) ?_;refine jW 3 [12] (aa 16 8191) ?_;refine jA 13 F ?_;(refine jD F F F ?_);refine jK (aa 16 16383) ?_;refine jW 1 [14] (aa 16 32767) ?_;refine jA 15 F ?_;(refine jD F F F ?_);refine jK (aa 16 65535) ?_;refine jQ ?_));rotate_left 1;(focus (refine bY F F ?_;(refine jD F F F ?_);refine jK (aa 16 3839) ?_;refine jW 4 [12] (aa 16 7935) ?_;refine dy [8,13] kR dC ⟨?_,?_,trivial⟩;(focus (refine bY F F ?_;(refine jF fun _=>?_);refine jK (aa 16 8191) ?_;refine jA 13 F ?_;(refine jD F F F ?_);refine jK (aa 16 16383) ?_;refine jW 1 [14] (aa 16 32767) ?_;refine jA 15 F ?_;(refine jD F F F ?_);refine jK (aa 16 65535) ?_;refine jQ ?_));rotate_left 1;(focus (refine bY F F ?_;(refine jD F F F ?_);refine jK (aa 16 16127) ?_;refine jA 8 F ?_;(refine jF fun _=>?_);refine jK (aa 16 16383) ?_;refine jW 1 [14] (aa 16 32767) ?_;refine jA 15 F ?_;(refine jD F F F ?_);refine jK (aa 16 65535) ?_;refine jQ ?_));rotate_left 1));rotate_left 2));rotate_left 3)
   all_goals repeat' (refine jR ?_)
   all_goals
    rename_i y
    refine Nx.sealC (b:=y) fun G2 hG2 hsy=>?_
    have hsl : bh G2 (.slice (some ⟨y,0,none⟩) 1 1) 4 ([c1] : List VC).length (aA b6 [c1]):=⟨rfl,.inr ⟨y,0,1,rfl,Nat.le_refl _,hsy⟩⟩
    refine cV (.inl F) F (cC (x0:=x2) (r:=r) (sc:=sc) (s:=(q2.drop m3)) (b:=b1) (a:=none) (n:=0) (c:=0) (d:=d + 1) oM) F ?_
    rintro v G' L' ⟨rfl,rfl⟩
    dsimp only [zA,fA]
    exact ⟨[_],[bD r sc (q2.drop m3) b1 none 0 0 (d + 1 - 1)],⟨aE F F F F,trivial⟩,sB,(hle.trans hG2),cA (c:=⟨85,[],m,some ⟨y,0,none⟩,1,1⟩) (cM (ks:=[u1]) dC oM (fun _=>rfl) F hsl ⟨_,[],F,fP hG2 hrep,F⟩) oM (fun _=>⟨F,F,F⟩) ⟨oM,fun h=>⟨F,by rw [hrd,(hQ2 h).1];rfl⟩,fun h=>.inr (by rw [hrd,hQ3 h];rfl)⟩⟩
abbrev th : TypeId:=104
abbrev wB : TypeId:=3
theorem zv {n r sc p : Nat} {qs : List cx} {t : Ty} {s : abL} {d : Int} (hd : d = 13 - (n : Int)) (hn : n ≤ 12) (hU : p6 n sc qs) (hS : ScI G sc qs) (hW0 : SchW (ak qs)) (hT : gY G p t) (hw : TyW t) (hkf : ∀ d ∈ t.fields,aP (ak qs) d.kind = true) (hs : s.length ≤ 1000) :
  dh abK 128 [Pt r 0,Pt p 0] G [bD r sc s false none 0 0 d] (fun v G' L'=>∃ u c s' b' a m k,v = Ag (b6 c) ∧ V.rep G' u c ∧ L' = [bD r sc s' b' a m k d] ∧ (d ≠ 1 → a = none ∧ m = 0 ∧ k = 0) ∧ rJ (fun s=>(bI (ak qs) (rb (ak qs) n) t (s.length + 1) 0 s []).map fun x=>(.nd 82 [] 0 x.1,x.2)) s false u s' b'):=by
 have hT2:=hT
 obtain ⟨fv,ln,h1',h2⟩:=hT
 have hfl:=hw.len
 refine cr [(0,_),(1,_)] Tryz.func128 kR Tryz.ntmps128 F F tU fun B hB hW=>?_
 repeat' (first | refine jR ?_ | (refine jo ?_;first | refine jL fun _=>?_ | refine jV (ao F F) ?_ | refine jC F F F ?_))
 rename_i x4 x5
 refine Nx.addNil th 4 (Nx.addNil wB 1 (Nx.perm (List.perm_append_comm (l₁:=[_,_,_,_]) (l₂:=[_])) ?_))
 dsimp only [zA,fA]
 refine aR (ι:=List V × List VC × Option Addr × Nat × List Int × Option Addr × Nat × abL × Bool × Nat × Int × Gh) (fun y=>(V.reps y.2.2.2.2.2.2.2.2.2.2.2 y.1 y.2.1 ∧ Gh.le G y.2.2.2.2.2.2.2.2.2.2.2) ∧ (y.2.2.2.2.2.2.2.2.1 = false → bI (ak qs) (rb (ak qs) n) t (s.length + 1) 0 s [] = bI (ak qs) (rb (ak qs) n) t y.2.2.2.2.2.2.2.2.2.1 y.2.2.2.2.2.2.2.2.2.2.1 y.2.2.2.2.2.2.2.1 y.1 ∧ y.2.2.2.2.2.2.2.1.length < y.2.2.2.2.2.2.2.2.2.1) ∧ (y.2.2.2.2.2.2.2.2.1 = true → bI (ak qs) (rb (ak qs) n) t (s.length + 1) 0 s [] = none) ∧ (y.1.length + y.2.2.2.2.1.length + y.2.2.2.2.2.2.2.1.length ≤ s.length ∧ 0 ≤ y.2.2.2.2.2.2.2.2.2.2.1 ∧ y.2.2.2.2.2.2.2.2.2.2.1 ≤ 999999) ∧ (d ≠ 1 → y.2.2.2.2.1 = [] ∧ y.2.2.2.2.2.1 = none ∧ y.2.2.2.2.2.2.1 = 0)) (fun y=>[(0,Pt r 0),(1,Pt p 0),(4,Pt x4 0),(5,Pt x5 0),(6,I y.2.2.2.2.2.2.2.2.2.2.1)]) (fun y=>y.2.2.2.2.2.2.2.2.2.2.2) (fun y=>[bD r sc y.2.2.2.2.2.2.2.1 y.2.2.2.2.2.2.2.2.1 y.2.2.2.2.2.1 y.2.2.2.2.1.length y.2.2.2.2.2.2.1 d,.acc (.slice y.2.2.2.2.2.1 y.2.2.2.2.1.length y.2.2.2.2.2.2.1) wB 1 y.2.2.2.2.1.length (aA hY y.2.2.2.2.1),.acc (.slice y.2.2.1 y.1.length y.2.2.2.1) th 4 y.1.length (aA b6 y.2.1),.blk x5 (.cells (List.toArray [U8 82,S [],I 0,.slice y.2.2.1 y.1.length y.2.2.2.1]) th (0,0)),.blk x4 (.cells (List.toArray [U8 (0 : Nat),S [],I 0,aK]) th (0,0))]) (fun y=>y.2.2.2.2.2.2.2.1.length) ([],[],none,0,[],none,0,s,false,s.length + 1,0,G) ?_ tU F aX (fun y Hy=>?_)
 ·exact ⟨⟨F,Gh.le.refl _⟩,fun _=>⟨F,Nat.lt_succ_self _⟩,fun h=>(by cases h),⟨by simp,Int.le_refl 0,by show (0 : Int) ≤ 999999;omega⟩,fun _=>⟨rfl,rfl,rfl⟩⟩
 obtain ⟨vs,cs,a,cap,sk,sa,scap,t',b,m',last,Gq⟩:=y
 dsimp only at Hy ⊢
 obtain ⟨⟨hreps,hgq⟩,hI0,hI1,⟨hlen,hla0,hla1⟩,hsk⟩:=Hy
 have hcl:=gu hreps
 have hskF : d ≠ 1 → sa = none ∧ sk.length = 0 ∧ scap = 0:=fun h=>by obtain ⟨h1,h2,h3⟩:=hsk h;subst h1;exact ⟨h2,F,h3⟩
 cases b with
 | true =>
  have hno:=hI1 rfl
  repeat' (first | refine jR ?_ | (refine jo ?_;first | refine jC F F F ?_ | refine aj F ?_ | refine aG F ?_) | refine ad F F ?_)
  all_goals
   refine Nx.sealS (v:=.slice a vs.length cap) fun G2 hG2 hsl=>?_
   refine aZ (vs:=[_]) F ⟨aE F F F F,trivial⟩ F sB ⟨hgq.trans hG2,.nd 82 [] 0 vs,⟨82,[],0,a,vs.length,cap⟩,t',true,sa,sk.length,scap,F,cM dC dC (fun h=>absurd h dC) F (by rw [hcl];exact hsl) (bU hG2 hreps),F,hskF,⟨oM,fun h=>(by cases h),fun _=>.inr (by dsimp only;rw [hno];rfl)⟩⟩
 | false =>
  obtain ⟨hit,htm⟩:=hI0 rfl
  clear hI0 hI1
  obtain ⟨m',rfl⟩ : ∃ j,m' = j + 1:=⟨m' - 1,oM⟩
  cases hg : bc t' with
  | none =>
   rw [n8 hg] at hit
   have cx_nb:=fy (G:=Gq) (r:=r) (sc:=sc) (m:=sk.length) (c:=scap) (b:=false) (a:=sa) (d:=d) hg oM
   repeat' (first | refine jR ?_ | (refine jo ?_;first | refine jC F F F ?_ | refine aj F ?_ | refine aG F ?_ | (refine af F F F cx_nb F ?_;rintro _ _ ⟨rfl,rfl⟩;dsimp only [zA,fA])) | refine ac F F ?_)
   all_goals
    refine Nx.sealS (v:=.slice a vs.length cap) fun G2 hG2 hsl=>?_
    refine aZ (vs:=[_]) F ⟨aE F F F F,trivial⟩ F sB ⟨hgq.trans hG2,.nd 82 [] 0 vs,⟨82,[],0,a,vs.length,cap⟩,[],true,sa,sk.length,scap,F,cM dC dC (fun h=>absurd h dC) F (by rw [hcl];exact hsl) (bU hG2 hreps),F,hskF,⟨by simp,fun h=>(by cases h),fun _=>.inr (by dsimp only;rw [hit];rfl)⟩⟩
  | some z =>
   obtain ⟨tg,q⟩:=z
   obtain ⟨h0,h1,_⟩:=cm hg
   have hl:=bx hg
   have cx_nb:=dZ (G:=Gq) (r:=r) (sc:=sc) (m:=sk.length) (c:=scap) (b:=false) (a:=sa) (d:=d) hg oM
   by_cases htz : tg = 0
   ·subst htz
    rw [qu hg] at hit
    repeat' (first | refine jR ?_ | (refine jo ?_;first | refine jC F F F ?_ | refine aj F ?_ | refine aG F ?_ | (refine af F F F cx_nb F ?_;rintro _ _ ⟨rfl,rfl⟩;dsimp only [zA,fA])) | refine ac F F ?_)
    all_goals
     refine Nx.sealS (v:=.slice a vs.length cap) fun G2 hG2 hsl=>?_
     refine aZ (vs:=[_]) F ⟨aE F F F F,trivial⟩ F sB ⟨hgq.trans hG2,.nd 82 [] 0 vs,⟨82,[],0,a,vs.length,cap⟩,q,false,sa,sk.length,scap,F,cM dC dC (fun h=>absurd h dC) F (by rw [hcl];exact hsl) (bU hG2 hreps),F,hskF,⟨oM,fun _=>⟨F,by dsimp only;rw [hit];rfl⟩,fun h=>(by cases h)⟩⟩
   rcases e7 (s:=q) with ⟨hg2,ht⟩ | ⟨m3,q2,hg2,hm3,⟨hl3,ht⟩ | ⟨hl3,ht⟩⟩
   ·rw [kA hg htz ht] at hit
    have cx_nb2:=fy (G:=Gq) (r:=r) (sc:=sc) (m:=sk.length) (c:=scap) (b:=false) (a:=sa) (d:=d) hg2 oM
    have cx_tkb:=fe (G:=Gq) (r:=r) (sc:=sc) (m:=0) (n:=sk.length) (c:=scap) (s:=[]) (b:=true) (a:=sa) (d:=d) (.inl rfl) ⟨by simp,oM⟩
    have cx_tkb : bQ abK 45 [Pt r 0,I 0] Gq [bD r sc [] true sa sk.length scap d] (fun v L'=>v = S [] ∧ L' = [bD r sc [] true sa sk.length scap d]):=cx_tkb
    have cx_fldg:=lb (hT2.mono hgq) hw ⟨h0,h1⟩
    repeat' (first | refine jR ?_ | (refine jo ?_;first | refine jD F F F ?_ | refine aj F ?_ | (refine af F F F cx_nb F ?_;rintro _ _ ⟨rfl,rfl⟩;dsimp only [zA,fA]) | (refine af F F F cx_nb2 F ?_;rintro _ _ ⟨rfl,rfl⟩;dsimp only [zA,fA]) | (refine af F F F cx_tkb F ?_;rintro _ _ ⟨rfl,rfl⟩;dsimp only [zA,fA])) | refine ac F F ?_ | refine ad F (aC ‹_›) ?_ | refine cT F (fun _=>?_) (fun _=>?_))
    all_goals
     refine jo ?_
     refine cn F F F cx_fldg F ?_
     rintro _ ⟨q9,rfl⟩
     repeat' (first | refine jR ?_ | (refine jo ?_;refine aj F ?_) | refine ac F F ?_)
     exact aW (vs,cs,a,cap,sk,sa,scap,[],true,m',tg,Gq) ⟨⟨hreps,hgq⟩,fun h=>(by cases h),fun _=>hit,⟨by dsimp only;simp only [List.length_nil];omega,h0,h1⟩,hsk⟩ (by dsimp only;simp only [List.length_nil];omega) tU rfl aX
   ·have hl4:=bx hg2
    rw [kA hg htz ht] at hit
    have cx_nb2:=dZ (G:=Gq) (r:=r) (sc:=sc) (m:=sk.length) (c:=scap) (b:=false) (a:=sa) (d:=d) hg2 oM
    have cx_tkb:=fe (G:=Gq) (r:=r) (sc:=sc) (m:=m3) (n:=sk.length) (c:=scap) (s:=q2) (b:=false) (a:=sa) (d:=d) (.inr hl3) ⟨oM,oM⟩
    have cx_fldg:=lb (hT2.mono hgq) hw ⟨h0,h1⟩
    repeat' (first | refine jR ?_ | (refine jo ?_;first | refine jD F F F ?_ | refine aj F ?_ | (refine af F F F cx_nb F ?_;rintro _ _ ⟨rfl,rfl⟩;dsimp only [zA,fA]) | (refine af F F F cx_nb2 F ?_;rintro _ _ ⟨rfl,rfl⟩;dsimp only [zA,fA]) | (refine af F F F cx_tkb F ?_;rintro _ _ ⟨rfl,rfl⟩;dsimp only [zA,fA])) | refine ac F F ?_ | refine ad F (aC ‹_›) ?_ | refine cT F (fun _=>?_) (fun _=>?_))
    all_goals
     refine jo ?_
     refine cn F F F cx_fldg F ?_
     rintro _ ⟨q9,rfl⟩
     repeat' (first | refine jR ?_ | (refine jo ?_;refine aj F ?_) | refine ac F F ?_)
     exact aW (vs,cs,a,cap,sk,sa,scap,q2,true,m',tg,Gq) ⟨⟨hreps,hgq⟩,fun h=>(by cases h),fun _=>hit,⟨by dsimp only;omega,h0,h1⟩,hsk⟩ (by dsimp only;omega) tU rfl aX
   have hl4:=bx hg2
   have hdl : (q2.drop m3).length = q2.length - m3:=List.length_drop
   have htl : (q2.take m3).length ≤ 1000:=by rw [List.length_take];omega
   have cx_nb2:=dZ (G:=Gq) (r:=r) (sc:=sc) (m:=sk.length) (c:=scap) (b:=false) (a:=sa) (d:=d) hg2 oM
   have cx_tkb:=iT (G:=Gq) (r:=r) (sc:=sc) (m:=m3) (n:=sk.length) (c:=scap) (s:=q2) (a:=sa) (d:=d) ⟨hl3,oM⟩
   by_cases hlast : tg ≤ last
   ·rw [n7 hg htz ht hlast] at hit
    have cx_fldg:=lb (hT2.mono hgq) hw ⟨h0,h1⟩
    repeat' (first | refine jR ?_ | (refine jo ?_;first | refine jD F F F ?_ | refine aj F ?_ | (refine af F F F cx_nb F ?_;rintro _ _ ⟨rfl,rfl⟩;dsimp only [zA,fA]) | (refine af F F F cx_nb2 F ?_;rintro _ _ ⟨rfl,rfl⟩;dsimp only [zA,fA]) | (refine af F F F cx_tkb F ?_;rintro _ _ ⟨rfl,rfl⟩;dsimp only [zA,fA])) | (refine ac F (by first | rfl | (refine decide_eq_true ?_;(assumption))) ?_) | refine ad F (aC ‹_›) ?_)
    all_goals
     refine jo ?_
     refine cn F F F cx_fldg F ?_
     rintro _ ⟨q9,rfl⟩
     repeat' (first | refine jR ?_ | (refine jo ?_;refine aj F ?_) | refine ac F F ?_)
     exact aW (vs,cs,a,cap,sk,sa,scap,(q2.drop m3),true,m',tg,Gq) ⟨⟨hreps,hgq⟩,fun h=>(by cases h),fun _=>hit,⟨by dsimp only;omega,h0,h1⟩,hsk⟩ (by dsimp only;omega) tU rfl aX
   cases hft : bJ t.fields tg with
   | none =>
    rw [mQ hg htz ht hlast hft] at hit
    have cx_fld:=dQ (h1'.mono hgq) (h2.mono hgq) oM hft
    by_cases hd1 : d = 1
    ·have hskl : (sk ++ [tg]).length = sk.length + 1:=by simp
     have hrs : aA hY sk ++ [I tg] = aA hY (sk ++ [tg]):=(cy hY sk tg).symm
     repeat' (first | refine jR ?_ | (refine jo ?_;first | refine jD F F F ?_ | refine aj F ?_ | refine jV (cp F F) ?_ | refine jF fun _=>?_ | refine cQ F F F F F F F F F oM fun _ _=>?_ | (refine af F F F cx_nb F ?_;rintro _ _ ⟨rfl,rfl⟩;dsimp only [zA,fA]) | (refine af F F F cx_nb2 F ?_;rintro _ _ ⟨rfl,rfl⟩;dsimp only [zA,fA]) | (refine af F F F cx_tkb F ?_;rintro _ _ ⟨rfl,rfl⟩;dsimp only [zA,fA]) | refine ab F F F cx_fld F ?_) | (refine ac F (by first | rfl | (refine decide_eq_true ?_;(assumption))) ?_) | (refine ad F (by first | rfl | (refine decide_eq_false ?_;(assumption))) ?_))
     rename_i _ y1 yc
     rw [hrs]
     refine Nx.perm (List.Perm.append_right _ (List.perm_append_comm (l₁:=[_,_]) (l₂:=[_]))) ?_
     dsimp only [zA,fA]
     exact aW (vs,cs,a,cap,sk ++ [tg],some ⟨y1,0,none⟩,yc,q2.drop m3,false,m',tg,Gq) ⟨⟨hreps,hgq⟩,fun _=>⟨hit,by dsimp only;omega⟩,fun h=>(by cases h),⟨by dsimp only;omega,h0,h1⟩,fun h=>absurd hd1 h⟩ (by dsimp only;omega) tU rfl (by rw [hskl];repeat (first | exact List.Sublist.refl _ | apply List.Sublist.cons_cons | apply List.Sublist.cons))
    ·repeat' (first | refine jR ?_ | (refine jo ?_;first | refine aj F ?_ | refine jV (cp F F) ?_ | (refine af F F F cx_nb F ?_;rintro _ _ ⟨rfl,rfl⟩;dsimp only [zA,fA]) | (refine af F F F cx_nb2 F ?_;rintro _ _ ⟨rfl,rfl⟩;dsimp only [zA,fA]) | (refine af F F F cx_tkb F ?_;rintro _ _ ⟨rfl,rfl⟩;dsimp only [zA,fA]) | refine ab F F F cx_fld F ?_) | refine ac F F ?_ | (refine ad F (by first | rfl | (refine decide_eq_false ?_;(assumption))) ?_))
     all_goals
      exact aW (vs,cs,a,cap,sk,sa,scap,q2.drop m3,false,m',tg,Gq) ⟨⟨hreps,hgq⟩,fun _=>⟨hit,by dsimp only;omega⟩,fun h=>(by cases h),⟨by dsimp only;omega,h0,h1⟩,hsk⟩ (by dsimp only;omega) tU rfl aX
   | some f =>
    obtain ⟨j,hj,hjn,hjt,hjd⟩:=d6 hft
    obtain ⟨bf,of,cf,rfl,hsf⟩:=h2.expl oM
    subst hjd
    have hsf:=hsf.mono hgq
    have cx_fld:=eF (h1'.mono hgq) hsf oM hj hjn hjt
    have cx_prt:=sS (G:=Gq) (r:=r) (sc:=sc) (m:=sk.length) (c:=scap) (a:=sa) (s:=q2.drop m3) (k:=(ae t.fields j).kind) (p:=q2.take m3) (d:=d) hd hn hU (hS.mono hgq) (hkf _ (bT hj)) htl
    repeat' (first | refine jR ?_ | (refine jo ?_;first | refine jL fun _=>?_ | refine jC F F F ?_ | refine aj F ?_ | (refine jV (gT F F aS ?_ F F) ?_;focus omega) | refine jV (cp F F) ?_ | (refine af F F F cx_nb F ?_;rintro _ _ ⟨rfl,rfl⟩;dsimp only [zA,fA]) | (refine af F F F cx_nb2 F ?_;rintro _ _ ⟨rfl,rfl⟩;dsimp only [zA,fA]) | (refine af F F F cx_tkb F ?_;rintro _ _ ⟨rfl,rfl⟩;dsimp only [zA,fA]) | refine ab F F F cx_fld F ?_ | (refine dI F F F cx_prt F ?_;rintro _ G1 _ hle ⟨u1,c1,b1,rfl,hrep,rfl,hQ2,hQ3⟩;dsimp only [zA,fA];skip)) | refine ac F F ?_ | (refine ad F (by first | rfl | (refine decide_eq_false ?_;(assumption))) ?_))
    rename_i x10
    have hgl:=hgq.trans hle
    have hS1:=hS.mono hgl
    have hsf1:=hsf.mono hle
    have cx_of:=wV hS1 hW0 hsf1 hj (hkf _ (bT hj))
    obtain ⟨u',m2',g1',g2',g3'⟩:=hS1.at'
    cases b1 with
    | true =>
     rw [n6 hg htz ht hlast hft (hQ3 rfl)] at hit
     repeat' (first | refine jR ?_ | refine ad F F ?_ | (refine ai (an (id:=12) _ (fun _ h=>h) ah ?_);refine jT 13 [0,1,2] (aa 16 7) ?_;(refine jG (aa 16 15) 3 F (aq F F F) ?_);refine jT 10 [4,5] (aa 16 63) ?_;(try (refine Nx.re (d:=47) (v':=Bo false) F (congrArg Value.bool F) ?_));refine jT 6 [8,9,10,12] (aa 16 5951) ?_;(refine jN (aa 16 6015) 6 F ?_);(refine jN (aa 16 8063) 11 F ?_);(refine jN (aa 16 8191) 7 F ?_);(refine jN (aa 16 16383) 13 F ?_);refine jT 1 [14] (aa 16 32767) ?_;(refine jG (aa 16 65535) 15 F (aH F F F) ?_);refine jQ ?_))
     all_goals exact aW (vs,cs,a,cap,sk,sa,scap,q2.drop m3,true,m',tg,G1) ⟨⟨bU hle hreps,hgl⟩,fun h=>(by cases h),fun _=>hit,⟨by dsimp only;omega,h0,h1⟩,hsk⟩ (by dsimp only;omega) tU rfl sB
    | false =>
     obtain ⟨hra,htot⟩:=hQ2 rfl
     rw [n5 hg htz ht hlast hft hra] at hit
     have cx_pr:=mv (G:=G1) u1.tot (Nat.le_refl _) oM hrep
     have hotl:=o4 hrep
     by_cases heq : u1.out = cL (ak qs) (ae t.fields j)
     ·rw [if_pos heq] at hit
      repeat' (first | refine jR ?_ | (refine ad F ?_ ?_;(focus ((simp [*];done);done))) | (refine ai (an (id:=12) _ (fun _ h=>h) ah ?_);refine jT 13 [0,1,2] (aa 16 7) ?_;(refine jG (aa 16 15) 3 F (aq F F F) ?_);refine jT 10 [4,5] (aa 16 63) ?_;(try (refine Nx.re (d:=47) (v':=Bo true) F (congrArg Value.bool F) ?_));refine jT 6 [8,9,10,12] (aa 16 5951) ?_;(refine jG (aa 16 6015) 6 F (bq F F F F) ?_);(refine jG (aa 16 8063) 11 F (aq F F F) ?_);(refine jA 7 F ?_;(refine ab F F F cx_pr F ?_);refine jS (aa 16 8191) ?_);(refine jA 13 F ?_;(refine ab F F F cx_of F ?_);refine jS (aa 16 16383) ?_);refine jT 1 [14] (aa 16 32767) ?_;(refine jG (aa 16 65535) 15 F (aT F F F) ?_);refine jQ ?_))
      all_goals exact aW (vs,cs,a,cap,sk,sa,scap,q2.drop m3,false,m',tg,G1) ⟨⟨bU hle hreps,hgl⟩,fun _=>⟨hit,by dsimp only;omega⟩,fun h=>(by cases h),⟨by dsimp only;omega,h0,h1⟩,hsk⟩ (by dsimp only;omega) tU rfl sB
     ·rw [if_neg heq] at hit
      repeat' (first | refine jR ?_ | (refine jo ?_;first | refine jV (ao F F) ?_ | refine jD F F F ?_ | refine aj F ?_ | refine aG F ?_ | refine jF fun _=>?_ | refine cQ F F F F F F F F F oM fun _ _=>?_) | refine ac F (ay ‹_›) ?_ | (refine ai (an (id:=12) _ (fun _ h=>h) ah ?_);refine jT 13 [0,1,2] (aa 16 7) ?_;(refine jG (aa 16 15) 3 F (aq F F F) ?_);refine jT 10 [4,5] (aa 16 63) ?_;(try (refine Nx.re (d:=47) (v':=Bo true) F (congrArg Value.bool F) ?_));refine jT 6 [8,9,10,12] (aa 16 5951) ?_;(refine jG (aa 16 6015) 6 F (bq F F F F) ?_);(refine jG (aa 16 8063) 11 F (aq F F F) ?_);(refine jA 7 F ?_;(refine ab F F F cx_pr F ?_);refine jS (aa 16 8191) ?_);(refine jA 13 F ?_;(refine ab F F F cx_of F ?_);refine jS (aa 16 16383) ?_);refine jT 1 [14] (aa 16 32767) ?_;(refine jG (aa 16 65535) 15 F (aT F F F) ?_);refine jQ ?_))
      rename_i y z y1 yc
      rw [hjt] at hit
      refine Nx.sealC (b:=y) fun G2 hG2 hsy=>?_
      have hsl : bh G2 (.slice (some ⟨y,0,none⟩) 1 1) 4 ([c1] : List VC).length (aA b6 [c1]):=⟨rfl,.inr ⟨y,0,1,rfl,Nat.le_refl _,hsy⟩⟩
      have hrow : aA b6 cs ++ [U8 61,S [],I tg,.slice (some ⟨y,0,none⟩) 1 1] = aA b6 (cs ++ [⟨61,[],tg,some ⟨y,0,none⟩,1,1⟩]):=(cy b6 cs (⟨61,[],tg,some ⟨y,0,none⟩,1,1⟩ : VC)).symm
      have hr1 : V.rep G2 (.nd 61 [] tg [u1]) (⟨61,[],tg,some ⟨y,0,none⟩,1,1⟩ : VC):=cM (ks:=[u1]) dC oM (fun _=>rfl) rfl hsl ⟨c1,[],rfl,fP hG2 hrep,rfl⟩
      have hr2 : V.reps G2 (vs ++ [.nd 61 [] tg [u1]]) (cs ++ [⟨61,[],tg,some ⟨y,0,none⟩,1,1⟩]):=gQ hr1 (bU (hle.trans hG2) hreps)
      have hvl : (vs ++ [V.nd 61 [] tg [u1]]).length = vs.length + 1:=by simp
      refine Nx.perm (List.Perm.append_right _ (List.perm_append_comm (l₁:=[_,_,_]) (l₂:=[_,_]))) ?_
      dsimp only [zA,fA]
      rw [hrow]
      exact aW (vs ++ [.nd 61 [] tg [u1]],cs ++ [⟨61,[],tg,some ⟨y,0,none⟩,1,1⟩],some ⟨y1,0,none⟩,yc,sk,sa,scap,q2.drop m3,false,m',tg,G2) ⟨⟨hr2,hgl.trans hG2⟩,fun _=>⟨hit,by dsimp only;omega⟩,fun h=>(by cases h),⟨by dsimp only;omega,h0,h1⟩,hsk⟩ (by dsimp only;omega) tU rfl (by rw [hvl];repeat (first | exact List.Sublist.refl _ | apply List.Sublist.cons_cons | apply List.Sublist.cons))
theorem aaJ {n r sc : Nat} {qs : List cx} {k s : abL} {d : Int} (hd : d = 12 - (n : Int)) (hn : n ≤ 12) (hU : p6 n sc qs) (hS : ScI G sc qs) (hk : aP (ak qs) (91 :: k) = true) (hs : s.length ≤ 1000) :
  dh abK 93 [Pt r 0,Ag (d4 (91 :: k))] G [bD r sc s false none 0 0 d] (jt (rb (ak qs) (n + 1) (91 :: k)) r sc s false d):=by
 have hk2:=dP (.inl rfl) hk
 obtain ⟨e1,e2,e3,_⟩:=iK (c:=91) (k:=k) (.inl rfl)
 have hrd:=uu (ts:=ak qs) (n:=n) (k:=k) (s:=s)
 unfold d4
 rw [e1,e2,e3]
 have cx_sign:=@iw G 91 (sg k) (bs k) (nm k)
 have cx_ptA : ∀ G,am abK 124 [Ag [S (91 :: sg k),S (bs k),S (nm k)]] G (· = Ag [S (sg k),S (bs k),S (nm k)]):=fun G=>@oH G 91 (sg k) (bs k) (nm k)
 cases hg : bc s with
 | none =>
  rw [hg] at hrd
  have cx_nb:=fy (G:=G) (r:=r) (sc:=sc) (m:=0) (c:=0) (b:=false) (a:=none) (d:=d + 1) hg hs
  refine ch [(0,_),(1,_)] Tryz.func93 kR Tryz.ntmps93 F F tU fun B hok hB hW=>?_
  repeat' (first | refine jM ?_ | (refine jo ?_;first | refine jO fun _=>?_ | refine jL fun _=>?_ | refine aj F ?_ | refine jD F F F ?_ | refine jV (c6 F F) ?_))
  rename_i x2 x3 x4
  refine jo ?_
  refine ci (fi:=[]) (ca:=[Pt x2 0]) (az:=[]) F F ?_
  repeat' (first | refine jR ?_ | (refine jo ?_;first | refine jL fun _=>?_ | refine aj F ?_ | refine aG F ?_ | refine jC F F F ?_ | refine jV (ao F F) ?_ | refine ab F F F cx_sign F ?_ | (refine af F F F cx_nb F ?_;rintro _ _ ⟨rfl,rfl⟩;dsimp only [zA,fA])) | refine ac F F ?_ | (refine ad F (by first | rfl | (refine decide_eq_false ?_;(omega))) ?_))
  rename_i x5
  refine aR (ι:=Unit) (fun j=>True) (fun j=>[(2,Pt x2 0),(3,Pt x3 0),(4,Pt x4 0),(5,I 0),(6,Pt x5 0),(7,I 0)]) (fun _=>G) (fun j=>[.blk x5 (.cells (List.toArray [U8 91,S [],I 0,aK]) lr (0,0)),bD r sc [] true none 0 0 (d + 1),.blk x4 (.cells (List.toArray [U8 (0 : Nat),S [],I 0,aK]) lr (0,0)),.blk x3 (.cells (List.toArray [S (91 :: sg k),S (bs k),S (nm k)]) qn (0,0)),.blk x2 (.cells (List.toArray [Pt r 0]) eY (0,0))]) (fun j=>0) () ?_ tU F aX (fun j Hj=>?_)
  ·trivial
  repeat' (first | refine jR ?_ | (refine jo ?_;first | refine aG F ?_ | refine jC F F F ?_ | refine av F ?_) | refine al F F F ?_ | refine ad F F ?_)
  all_goals
   refine cV (.inl F) F (cC (x0:=x2) (r:=r) (sc:=sc) (s:=[]) (b:=true) (a:=none) (n:=0) (c:=0) (d:=d + 1) oM) F ?_
   rintro v G' L' ⟨rfl,rfl⟩
   dsimp only [zA,fA]
   exact ⟨[_],[bD r sc [] true none 0 0 (d + 1 - 1)],⟨aE F F F F,trivial⟩,sB,Gh.le.refl _,cA (c:=⟨91,[],0,none,0,0⟩) (bj dC dC) oM (fun _=>⟨F,F,F⟩) ⟨by simp,fun h=>(by cases h),fun _=>.inr hrd⟩⟩
 | some z =>
  obtain ⟨m,q⟩:=z
  obtain ⟨h1,h2,_⟩:=cm hg
  have hl:=bx hg
  rw [hg] at hrd
  dsimp only at hrd
  have cx_nb:=dZ (G:=G) (r:=r) (sc:=sc) (m:=0) (c:=0) (b:=false) (a:=none) (d:=d + 1) hg hs
  by_cases h20 : m ≤ 20
  case neg =>
   rw [if_neg h20] at hrd
   refine ch [(0,_),(1,_)] Tryz.func93 kR Tryz.ntmps93 F F tU fun B hok hB hW=>?_
   repeat' (first | refine jM ?_ | (refine jo ?_;first | refine jO fun _=>?_ | refine jL fun _=>?_ | refine aj F ?_ | refine jD F F F ?_ | refine jV (c6 F F) ?_))
   rename_i x2 x3 x4
   refine jo ?_
   refine ci (fi:=[]) (ca:=[Pt x2 0]) (az:=[]) F F ?_
   repeat' (first | refine jR ?_ | (refine jo ?_;first | refine jL fun _=>?_ | refine aj F ?_ | refine aG F ?_ | refine jD F F F ?_ | refine jC F F F ?_ | refine jV (ao F F) ?_ | refine ab F F F cx_sign F ?_ | (refine af F F F cx_nb F ?_;rintro _ _ ⟨rfl,rfl⟩;dsimp only [zA,fA])) | (refine ac F (by first | rfl | (refine decide_eq_true ?_;(omega))) ?_) | (refine ad F (by first | rfl | (refine decide_eq_false ?_;(omega))) ?_))
   rename_i x5
   refine aR (ι:=Unit) (fun j=>True) (fun j=>[(2,Pt x2 0),(3,Pt x3 0),(4,Pt x4 0),(5,I m),(6,Pt x5 0),(7,I 0)]) (fun _=>G) (fun j=>[.blk x5 (.cells (List.toArray [U8 91,S [],I 0,aK]) lr (0,0)),bD r sc q true none 0 0 (d + 1),.blk x4 (.cells (List.toArray [U8 (0 : Nat),S [],I 0,aK]) lr (0,0)),.blk x3 (.cells (List.toArray [S (91 :: sg k),S (bs k),S (nm k)]) qn (0,0)),.blk x2 (.cells (List.toArray [Pt r 0]) eY (0,0))]) (fun j=>0) () ?_ tU F aX (fun j Hj=>?_)
   ·trivial
   repeat' (first | refine jR ?_ | (refine jo ?_;first | refine aj F ?_ | refine aG F ?_ | refine jC F F F ?_ | refine aL F ?_) | refine aD F F (ay oM) ?_ | refine ad F F ?_)
   all_goals
    refine cV (.inl F) F (cC (x0:=x2) (r:=r) (sc:=sc) (s:=q) (b:=true) (a:=none) (n:=0) (c:=0) (d:=d + 1) oM) F ?_
    rintro v G' L' ⟨rfl,rfl⟩
    dsimp only [zA,fA]
    exact ⟨[_],[bD r sc q true none 0 0 (d + 1 - 1)],⟨aE F F F F,trivial⟩,sB,Gh.le.refl _,cA (c:=⟨91,[],0,none,0,0⟩) (bj dC dC) oM (fun _=>⟨F,F,F⟩) ⟨oM,fun h=>(by cases h),fun _=>.inr hrd⟩⟩
  rw [if_pos h20] at hrd
  obtain ⟨m,rfl⟩ : ∃ m' : Nat,m = (m' : Int):=⟨m.toNat,oM⟩
  rw [Int.toNat_natCast] at hrd
  refine ch [(0,_),(1,_)] Tryz.func93 kR Tryz.ntmps93 F F tU fun B hok hB hW=>?_
  repeat' (first | refine jM ?_ | (refine jo ?_;first | refine jO fun _=>?_ | refine jL fun _=>?_ | refine aj F ?_ | refine jD F F F ?_ | refine jV (c6 F F) ?_))
  rename_i x2 x3 x4
  refine jo ?_
  refine ci (fi:=[]) (ca:=[Pt x2 0]) (az:=[]) F F ?_
  repeat' (first | refine jR ?_ | (refine jo ?_;first | refine jL fun _=>?_ | refine aj F ?_ | refine aG F ?_ | refine jC F F F ?_ | refine jV (ao F F) ?_ | refine ab F F F cx_sign F ?_ | (refine af F F F cx_nb F ?_;rintro _ _ ⟨rfl,rfl⟩;dsimp only [zA,fA])) | refine ac F F ?_ | (refine ad F (by first | rfl | (refine decide_eq_false ?_;(omega))) ?_))
  rename_i x5
  refine Nx.addNil lr 4 (Nx.perm (List.Perm.cons _ (List.Perm.swap _ _ _)) ?_)
  refine aR (ι:=List V × List VC × Option Addr × Nat × abL × Bool × Gh) (fun y=>(V.reps y.2.2.2.2.2.2 y.1 y.2.1 ∧ Gh.le G y.2.2.2.2.2.2) ∧ (y.2.2.2.2.2.1 = false → bB (rb (ak qs) n k) m q [] = bB (rb (ak qs) n k) (m - y.1.length) y.2.2.2.2.1 y.1) ∧ (y.2.2.2.2.2.1 = true → bB (rb (ak qs) n k) m q [] = none) ∧ (y.1.length ≤ m ∧ y.2.2.2.2.1.length ≤ q.length)) (fun y=>[(2,Pt x2 0),(3,Pt x3 0),(4,Pt x4 0),(5,I (m : Nat)),(6,Pt x5 0),(7,I (y.1.length : Nat))]) (fun y=>y.2.2.2.2.2.2) (fun y=>[.acc (.slice y.2.2.1 y.1.length y.2.2.2.1) lr 4 y.1.length (aA b6 y.2.1),bD r sc y.2.2.2.2.1 y.2.2.2.2.2.1 none 0 0 (d + 1),.blk x5 (.cells (List.toArray [U8 91,S [],I 0,.slice y.2.2.1 y.1.length y.2.2.2.1]) lr (0,0)),.blk x4 (.cells (List.toArray [U8 (0 : Nat),S [],I 0,aK]) lr (0,0)),.blk x3 (.cells (List.toArray [S (91 :: sg k),S (bs k),S (nm k)]) qn (0,0)),.blk x2 (.cells (List.toArray [Pt r 0]) eY (0,0))]) (fun y=>m - y.1.length) ([],[],none,0,q,false,G) ?_ tU F aX (fun y Hy=>?_)
  ·exact ⟨⟨F,Gh.le.refl _⟩,fun _=>rfl,fun h=>(by cases h),Nat.zero_le _,Nat.le_refl _⟩
  obtain ⟨vs,cs,a,cap,t,b,Gq⟩:=y
  dsimp only at Hy ⊢
  obtain ⟨⟨hreps,hgq⟩,hI0,hI1,hlm,htl'⟩:=Hy
  have hcl:=gu hreps
  by_cases hi : b = false ∧ vs.length < m
  case neg =>
   have hres : rJ (rb (ak qs) (n + 1) (91 :: k)) s false (.nd 91 [] 0 vs) t b:=by
    refine ⟨oM,fun h=>⟨F,?_⟩,fun h=>.inr ?_⟩
    ·have h2:=hI0 h
     have h9 : ¬ vs.length < m:=fun h3=>hi ⟨h,h3⟩
     have e0 : m - vs.length = 0:=oM
     rw [e0,bB] at h2
     rw [hrd,h2];rfl
    ·rw [hrd,hI1 h];rfl
   cases b with
   | true =>
    repeat' (first | refine jR ?_ | (refine jo ?_;first | refine aj F ?_ | refine aG F ?_ | refine jC F F F ?_ | refine aL F ?_ | refine av F ?_) | refine d5 F F (fun _=>?_) (fun _=>?_) | refine ad F F ?_)
    all_goals
     refine Nx.sealS (v:=.slice a vs.length cap) fun G2 hG2 hsl=>?_
     refine cV (.inl F) F (cC (x0:=x2) (r:=r) (sc:=sc) (s:=t) (b:=true) (a:=none) (n:=0) (c:=0) (d:=d + 1) oM) F ?_
     rintro v G' L' ⟨rfl,rfl⟩
     dsimp only [zA,fA]
     exact ⟨[_],[bD r sc t true none 0 0 (d + 1 - 1)],⟨aE F F F F,trivial⟩,sB,(hgq.trans hG2),cA (c:=⟨91,[],0,a,vs.length,cap⟩) (cM dC dC (fun h=>absurd h dC) F (by rw [hcl];exact hsl) (bU hG2 hreps)) oM (fun _=>⟨F,F,F⟩) hres⟩
   | false =>
    have hi2 : ¬ vs.length < m:=fun h=>hi ⟨rfl,h⟩
    repeat' (first | refine jR ?_ | (refine jo ?_;first | refine aG F ?_ | refine jC F F F ?_ | refine av F ?_) | refine al F F (aC oM) ?_ | refine ad F F ?_)
    all_goals
     refine Nx.sealS (v:=.slice a vs.length cap) fun G2 hG2 hsl=>?_
     refine cV (.inl F) F (cC (x0:=x2) (r:=r) (sc:=sc) (s:=t) (b:=false) (a:=none) (n:=0) (c:=0) (d:=d + 1) oM) F ?_
     rintro v G' L' ⟨rfl,rfl⟩
     dsimp only [zA,fA]
     exact ⟨[_],[bD r sc t false none 0 0 (d + 1 - 1)],⟨aE F F F F,trivial⟩,sB,(hgq.trans hG2),cA (c:=⟨91,[],0,a,vs.length,cap⟩) (cM dC dC (fun h=>absurd h dC) F (by rw [hcl];exact hsl) (bU hG2 hreps)) oM (fun _=>⟨F,F,F⟩) hres⟩
  obtain ⟨rfl,hi2⟩:=hi
  have hit:=hI0 rfl
  clear hI0 hI1
  obtain ⟨m',hm'⟩ : ∃ m',m - vs.length = m' + 1:=⟨m - vs.length - 1,oM⟩
  rw [hm'] at hit
  have cx_vl:=vE (r:=r) (d:=d + 1) oM oM (hU Gq r k t false (hS.mono hgq) hk2 oM)
  have cx_pt:=cx_ptA Gq
  repeat' (first | refine jR ?_ | (refine jo ?_;first | refine aj F ?_ | refine aL F ?_) | refine aD F F (ay oM) ?_ | refine ac F F ?_)
  (refine ai (an (id:=16) [.blk x3 (.cells (List.toArray [S (91 :: sg k),S (bs k),S (nm k)]) qn (0,0)),.blk x2 (.cells (List.toArray [Pt r 0]) eY (0,0))] (by intro y hy;simp only [List.mem_cons,List.not_mem_nil,or_false] at hy ⊢;rcases hy with hy | hy <;> simp [hy]) ah ?_);refine jW 9 [0] (aa 10 1) ?_;(refine jG (aa 10 5) 2 F (aq F F F) ?_);(refine jG (aa 10 13) 3 F (bq F F F F) ?_);refine dy [1,4] kR dC ⟨?_,?_,trivial⟩;(focus (refine bY F F ?_;(refine aj F ?_);refine jK (aa 10 15) ?_;refine jA 4 F ?_;(refine ab F F F cx_pt F ?_);refine jK (aa 10 31) ?_;refine jA 5 F ?_;(refine dI F F F cx_vl F ?_;rintro _ G1 _ hle ⟨u1,c1,t1,b1,rfl,hrep,rfl,hP⟩;dsimp only [zA,fA];skip);refine jK (aa 10 63) ?_;refine jA 6 F ?_;(refine jF fun _=>?_);refine jK (aa 10 127) ?_;refine jA 7 F ?_;((refine cQ F F F F F F F F F ?_ fun _ _=>?_;focus omega));refine jK (aa 10 255) ?_;refine jW 1 [8] (aa 10 511) ?_;refine jA 9 F ?_;(refine jD F F F ?_);refine jK (aa 10 1023) ?_;refine jQ ?_));rotate_left 1;(focus (refine bY F F ?_;(refine ab F F F cx_pt F ?_);refine jK (aa 10 29) ?_;refine dy [1,5] kR dC ⟨?_,?_,trivial⟩;(focus (refine bY F F ?_;(refine aj F ?_);refine jK (aa 10 31) ?_;refine jA 5 F ?_;(refine dI F F F cx_vl F ?_;rintro _ G1 _ hle ⟨u1,c1,t1,b1,rfl,hrep,rfl,hP⟩;dsimp only [zA,fA];skip);refine jK (aa 10 63) ?_;refine jA 6 F ?_;(refine jF fun _=>?_);refine jK (aa 10 127) ?_;refine jA 7 F ?_;((refine cQ F F F F F F F F F ?_ fun _ _=>?_;focus omega));refine jK (aa 10 255) ?_;refine jW 1 [8] (aa 10 511) ?_;refine jA 9 F ?_;(refine jD F F F ?_);refine jK (aa 10 1023) ?_;refine jQ ?_));rotate_left 1;(focus (refine bY F F ?_;(refine dI F F F cx_vl F ?_;rintro _ G1 _ hle ⟨u1,c1,t1,b1,rfl,hrep,rfl,hP⟩;dsimp only [zA,fA];skip);refine jK (aa 10 61) ?_;refine dy [1,6] kR dC ⟨?_,?_,trivial⟩;(focus (refine bY F F ?_;(refine aj F ?_);refine jK (aa 10 63) ?_;refine jA 6 F ?_;(refine jF fun _=>?_);refine jK (aa 10 127) ?_;refine jA 7 F ?_;((refine cQ F F F F F F F F F ?_ fun _ _=>?_;focus omega));refine jK (aa 10 255) ?_;refine jW 1 [8] (aa 10 511) ?_;refine jA 9 F ?_;(refine jD F F F ?_);refine jK (aa 10 1023) ?_;refine jQ ?_));rotate_left 1;(focus (refine bY F F ?_;(refine jF fun _=>?_);refine jK (aa 10 125) ?_;refine jA 1 F ?_;(refine aj F ?_);refine jK (aa 10 127) ?_;refine jA 7 F ?_;((refine cQ F F F F F F F F F ?_ fun _ _=>?_;focus omega));refine jK (aa 10 255) ?_;refine jW 1 [8] (aa 10 511) ?_;refine jA 9 F ?_;(refine jD F F F ?_);refine jK (aa 10 1023) ?_;refine jQ ?_));rotate_left 1));rotate_left 2));rotate_left 3)
  all_goals
   rename_i y1 yc
   have hrow : aA b6 cs ++ [U8 (c1.what : Nat),S c1.text,I c1.tag,c1.sl] = aA b6 (cs ++ [c1]):=(cy b6 cs c1).symm
   have hr2 : V.reps G1 (vs ++ [u1]) (cs ++ [c1]):=gQ hrep (bU hle hreps)
   have hvl : (vs ++ [u1]).length = vs.length + 1:=by simp
   have hgl:=hgq.trans hle
   obtain ⟨hQ1,hQ2,hQ3⟩:=j5 hP
   rw [hrow]
   have hm2 : m - (vs ++ [u1]).length = m':=by rw [hvl];omega
   have hno1 : b1 = true → bB (rb (ak qs) n k) m q [] = none:=fun h=>by rw [hit,nZ (hQ3 h)]
   have hyes1 : b1 = false → bB (rb (ak qs) n k) m q [] = bB (rb (ak qs) n k) (m - (vs ++ [u1]).length) t1 (vs ++ [u1]):=fun h2=>by rw [hit,lF (hQ2 h2).1,hm2]
   repeat' (refine jM ?_)
   refine Nx.re (d:=7) (v':=I ((vs ++ [u1]).length : Nat)) F (congrArg (Value.int .i64) (by rw [hvl];omega)) ?_
   exact aW (vs ++ [u1],cs ++ [c1],some ⟨y1,0,none⟩,yc,t1,b1,G1) ⟨⟨hr2,hgl⟩,hyes1,hno1,by dsimp only;omega,by dsimp only;omega⟩ (by dsimp only;omega) tU rfl (by rw [hvl];repeat (first | exact List.Sublist.refl _ | apply List.Sublist.cons_cons | apply List.Sublist.cons))
theorem aaH {n r sc : Nat} {qs : List cx} {k s : abL} {d : Int} (hd : d = 12 - (n : Int)) (hn : n ≤ 12) (hU : p6 n sc qs) (hS : ScI G sc qs) (hk : aP (ak qs) (63 :: k) = true) (hs : s.length ≤ 1000) :
  dh abK 93 [Pt r 0,Ag (d4 (63 :: k))] G [bD r sc s false none 0 0 d] (jt (rb (ak qs) (n + 1) (63 :: k)) r sc s false d):=by
 have hk2:=dP (.inr rfl) hk
 obtain ⟨e1,e2,e3,_⟩:=iK (c:=63) (k:=k) (.inr rfl)
 have hrd:=ut (ts:=ak qs) (n:=n) (k:=k) (s:=s)
 unfold d4
 rw [e1,e2,e3]
 have cx_sign:=@iw G 63 (sg k) (bs k) (nm k)
 have cx_pt:=@oH G 63 (sg k) (bs k) (nm k)
 cases hf : bM s with
 | none =>
  rw [hf] at hrd
  have cx_fl:=rq (G:=G) (r:=r) (sc:=sc) (n:=0) (c:=0) (s:=s) (b:=false) (a:=none) (d:=d + 1) (.inr hf) oM
  refine ch [(0,_),(1,_)] Tryz.func93 kR Tryz.ntmps93 F F tU fun B hok hB hW=>?_
  repeat' (first | refine jM ?_ | (refine jo ?_;first | refine jO fun _=>?_ | refine jL fun _=>?_ | refine aj F ?_ | refine jD F F F ?_ | refine jV (c6 F F) ?_))
  rename_i x2 x3 x4
  refine jo ?_
  refine ci (fi:=[]) (ca:=[Pt x2 0]) (az:=[]) F F ?_
  repeat' (first | refine jR ?_ | (refine jo ?_;first | refine aj F ?_ | refine aG F ?_ | refine jC F F F ?_ | refine jV (ao F F) ?_ | refine ab F F F cx_sign F ?_ | (refine af F F F cx_fl F ?_;rintro _ _ ⟨q1,⟨rfl,hql⟩,rfl⟩;dsimp only [zA,fA])) | refine ac F F ?_ | (refine ad F (by first | rfl | (refine decide_eq_false ?_;(omega))) ?_))
  all_goals
   refine cV (.inl F) F (cC (x0:=x2) (r:=r) (sc:=sc) (s:=q1) (b:=true) (a:=none) (n:=0) (c:=0) (d:=d + 1) oM) F ?_
   rintro v G' L' ⟨rfl,rfl⟩
   dsimp only [zA,fA]
   exact ⟨[_],[bD r sc q1 true none 0 0 (d + 1 - 1)],⟨aE F F F F,trivial⟩,sB,Gh.le.refl _,cA (c:=⟨63,[],0,none,0,0⟩) (bj dC dC) oM (fun _=>⟨F,F,F⟩) ⟨hql,fun h=>(by cases h),fun _=>.inr hrd⟩⟩
 | some y =>
  obtain ⟨x,q⟩:=y
  rw [hf] at hrd
  have hin:=dO hf
  have hl : s.length = q.length + 1:=by rw [hin];rfl
  have cx_fl:=rp (G:=G) (r:=r) (sc:=sc) (n:=0) (c:=0) (s:=s) (q:=q) (x:=x) (a:=none) (d:=d + 1) hf oM
  cases x with
  | false =>
   refine ch [(0,_),(1,_)] Tryz.func93 kR Tryz.ntmps93 F F tU fun B hok hB hW=>?_
   repeat' (first | refine jM ?_ | (refine jo ?_;first | refine jO fun _=>?_ | refine jL fun _=>?_ | refine aj F ?_ | refine jD F F F ?_ | refine jV (c6 F F) ?_))
   rename_i x2 x3 x4
   refine jo ?_
   refine ci (fi:=[]) (ca:=[Pt x2 0]) (az:=[]) F F ?_
   repeat' (first | refine jR ?_ | (refine jo ?_;first | refine aj F ?_ | refine aG F ?_ | refine jC F F F ?_ | refine jV (ao F F) ?_ | refine ab F F F cx_sign F ?_ | (refine af F F F cx_fl F ?_;rintro _ _ ⟨rfl,rfl⟩;dsimp only [zA,fA])) | refine ac F F ?_ | (refine ad F (by first | rfl | (refine decide_eq_false ?_;(omega))) ?_))
   all_goals
    refine cV (.inl F) F (cC (x0:=x2) (r:=r) (sc:=sc) (s:=q) (b:=false) (a:=none) (n:=0) (c:=0) (d:=d + 1) oM) F ?_
    rintro v G' L' ⟨rfl,rfl⟩
    dsimp only [zA,fA]
    exact ⟨[_],[bD r sc q false none 0 0 (d + 1 - 1)],⟨aE F F F F,trivial⟩,sB,Gh.le.refl _,cA (c:=⟨63,[],0,none,0,0⟩) (bj dC dC) oM (fun _=>⟨F,F,F⟩) ⟨oM,fun _=>⟨F,hrd⟩,fun h=>(by cases h)⟩⟩
  | true =>
   dsimp only at hrd
   have cx_vl:=vE (r:=r) (d:=d + 1) oM oM (hU G r k q false hS hk2 oM)
   refine ch [(0,_),(1,_)] Tryz.func93 kR Tryz.ntmps93 F F tU fun B hok hB hW=>?_
   repeat' (first | refine jM ?_ | (refine jo ?_;first | refine jO fun _=>?_ | refine jL fun _=>?_ | refine aj F ?_ | refine jD F F F ?_ | refine jV (c6 F F) ?_))
   rename_i x2 x3 x4
   refine jo ?_
   refine ci (fi:=[]) (ca:=[Pt x2 0]) (az:=[]) F F ?_
   repeat' (first | refine jR ?_ | (refine jo ?_;first | refine aj F ?_ | refine aG F ?_ | refine ab F F F cx_sign F ?_ | (refine af F F F cx_fl F ?_;rintro _ _ ⟨rfl,rfl⟩;dsimp only [zA,fA])) | refine ac F F ?_ | (refine ad F (by first | rfl | (refine decide_eq_false ?_;(omega))) ?_))
   (refine ai (an (id:=21) [.blk x3 (.cells (List.toArray [S (63 :: sg k),S (bs k),S (nm k)]) qn (0,0)),.blk x2 (.cells (List.toArray [Pt r 0]) eY (0,0))] (by intro y hy;simp only [List.mem_cons,List.not_mem_nil,or_false] at hy ⊢;rcases hy with hy | hy <;> simp [hy]) ah ?_);(refine jG (aa 7 1) 0 F (aq F F F) ?_);(refine jG (aa 7 3) 1 F (bq F F F F) ?_);refine jA 2 F ?_;(refine ab F F F cx_pt F ?_);refine jK (aa 7 7) ?_;refine jA 3 F ?_;(refine dI F F F cx_vl F ?_;rintro _ G1 _ hle ⟨u1,c1,t1,b1,rfl,hrep,rfl,hP⟩;dsimp only [zA,fA];skip);refine jK (aa 7 15) ?_;refine jA 4 F ?_;(refine jF fun _=>?_);refine jK (aa 7 31) ?_;(refine jG (aa 7 63) 5 F (ao F F) ?_);refine jA 6 F ?_;(refine jC F F F ?_);refine jK (aa 7 127) ?_;refine jQ ?_)
   all_goals repeat' (refine jR ?_)
   rename_i y
   refine Nx.sealC (b:=y) fun G2 hG2 hsy=>?_
   have hsl : bh G2 (.slice (some ⟨y,0,none⟩) 1 1) 4 ([c1] : List VC).length (aA b6 [c1]):=⟨rfl,.inr ⟨y,0,1,rfl,Nat.le_refl _,hsy⟩⟩
   obtain ⟨hQ1,hQ2,hQ3⟩:=j5 hP
   refine cV (.inl F) F (cC (x0:=x2) (r:=r) (sc:=sc) (s:=t1) (b:=b1) (a:=none) (n:=0) (c:=0) (d:=d + 1) oM) F ?_
   rintro v G' L' ⟨rfl,rfl⟩
   dsimp only [zA,fA]
   exact ⟨[_],[bD r sc t1 b1 none 0 0 (d + 1 - 1)],⟨aE F F F F,trivial⟩,sB,(hle.trans hG2),cA (c:=⟨63,[],0,some ⟨y,0,none⟩,1,1⟩) (cM (ks:=[u1]) dC dC (fun h=>absurd h dC) F hsl ⟨_,[],F,fP hG2 hrep,F⟩) oM (fun _=>⟨F,F,F⟩) ⟨oM,fun h=>⟨F,by rw [hrd,(hQ2 h).1];rfl⟩,fun h=>.inr (by rw [hrd,hQ3 h];rfl)⟩⟩
theorem aaG {n r sc p : Nat} {qs : List cx} {t : Ty} {x s : abL} {d : Int} (hd : d = 12 - (n : Int)) (hn : n ≤ 12) (hU : p6 n sc qs) (hS : ScI G sc qs) (hW0 : SchW (ak qs)) (hkv : lk (ge qs) x = some (Pt p 0)) (hT : gY G p t) (hw : TyW t) (hkf : ∀ d ∈ t.fields,aP (ak qs) d.kind = true) (hso : t.sort = 82) (hs : s.length ≤ 1000) :
  dh abK 93 [Pt r 0,Ag [S [],S [64],S x]] G [bD r sc s false none 0 0 d] (jt (bP (ak qs) (rb (ak qs) n) t) r sc s false d):=by
 obtain ⟨u,m2,g1,g2,g3⟩:=hS.at'
 have hso' : (t.sort : Int) = 82:=oM
 have cx_sign:=@dn G [64] x
 have cx_rcd:=zv (G:=G) (r:=r) (s:=s) (d:=d + 1) oM hn hU hS hW0 hT hw hkf hs
 have hrd : bP (ak qs) (rb (ak qs) n) t = fun s=>(bI (ak qs) (rb (ak qs) n) t (s.length + 1) 0 s []).map fun x=>(.nd 82 [] 0 x.1,x.2):=by
  funext s
  unfold bP;rw [if_pos hso]
 rw [hrd]
 obtain ⟨fv,ln,h1,h2⟩:=hT
 refine ch [(0,_),(1,_)] Tryz.func93 kR Tryz.ntmps93 F F tU fun B hok hB hW=>?_
 repeat' (first | refine jM ?_ | (refine jo ?_;first | refine jO fun _=>?_ | refine jL fun _=>?_ | refine aj F ?_ | refine jD F F F ?_ | refine jV (c6 F F) ?_))
 rename_i x2 x3 x4
 refine jo ?_
 refine ci (fi:=[]) (ca:=[Pt x2 0]) (az:=[]) F F ?_
 repeat' (first | refine jR ?_ | (refine jo ?_;first | refine aj F ?_ | refine aG F ?_ | refine ab F F F cx_sign F ?_) | (refine ad F (by first | rfl | (refine decide_eq_false ?_;(omega))) ?_))
 (refine ai (an (id:=34) _ (fun _ h=>h) ah ?_);refine jT 10 [7] (aa 11 128) ?_;(refine jG (aa 11 129) 0 F (aq F F F) ?_);refine jT 7 [1,2] (aa 11 135) ?_;(refine jG (aa 11 143) 3 F (aq F F F) ?_);refine jT 4 [4,5] (aa 11 191) ?_;(refine jG (aa 11 255) 6 F (aI F F aS F F) ?_);(refine jG (aa 11 511) 8 F (aq F F F) ?_);((refine jG (aa 11 1023) 9 F (cz F F (em aS) aS F) ?_));refine jT 0 [10] (aa 11 2047) ?_;refine jQ ?_)
 all_goals repeat' (first | refine jR ?_ | (refine jo ?_;first | refine aj F ?_ | refine jV (aI F F aS F F) ?_ | refine jC F F F ?_ | (refine dI F F F cx_rcd F ?_;rintro _ G1 _ hle ⟨u1,c1,t1,b1,a1,n1,k1,rfl,hrep,rfl,hsk,hP⟩;dsimp only [zA,fA];skip)) | refine ad F (aC oM) ?_)
 all_goals
  refine cV (.inl F) F (cC (x0:=x2) (r:=r) (sc:=sc) (s:=t1) (b:=b1) (a:=a1) (n:=n1) (c:=k1) (d:=d + 1) oM) F ?_
  rintro v G' L' ⟨rfl,rfl⟩
  dsimp only [zA,fA]
  exact ⟨[_],[bD r sc t1 b1 a1 n1 k1 (d + 1 - 1)],⟨aE F F F F,trivial⟩,sB,hle,cA (c:=c1) hrep oM (fun h=>hsk oM) hP⟩
theorem aaM {n r sc : Nat} {qs : List cx} {c : UInt8} {k s : abL} {t : Ty} {d : Int} (h91 : ¬ (c.toNat = 91 ∨ c.toNat = 63)) (hd : d = 12 - (n : Int)) (hn : n ≤ 12) (hU : p6 n sc qs) (hS : ScI G sc qs) (hw : SchW (ak qs)) (hk : aP (ak qs) (c :: k) = true) (hrf : aV (ak qs) (c :: k) = some t) (hs : s.length ≤ 1000) :
  dh abK 93 [Pt r 0,Ag (d4 (c :: k))] G [bD r sc s false none 0 0 d] (jt (rb (ak qs) (n + 1) (c :: k)) r sc s false d):=by
 have hko:=dp hk
 have hsg:=mg (r:=k) h91
 have hcs:=fa (r:=k) h91
 have hrn : (bE (bm (c :: k))).isSome = true:=by
  rw [hcs];unfold aV at hrf
  cases hx : bE (c :: k) with
  | none=>rw [hx] at hrf;cases hrf
  | some x=>rfl
 have hbs : bs (c :: k) = [64]:=(mA hko).2 hrn
 have hnm : bE (c :: k) = some (nm (c :: k)):=by
  unfold nm;rw [hcs] at hrn ⊢
  cases hx : bE (c :: k) with
  | none=>rw [hx] at hrn;cases hrn
  | some x=>rfl
 have hft : gj (ak qs) (nm (c :: k)) = some t:=by unfold aV at hrf;rw [hnm] at hrf;exact hrf
 have hkv:=gz qs (nm (c :: k))
 rw [← gC] at hft
 rcases hfq : eo qs (nm (c :: k)) with _ | ⟨p,t'⟩
 ·rw [hfq] at hft;cases hft
 rw [hfq] at hft hkv
 dsimp only [Option.map_some] at hft hkv
 have htt : t' = t:=Option.some.inj hft
 subst htt
 have hqm:=gV hfq
 have htm:=cS hrf
 have hW:=hw.ty t' htm
 have hT : gY G p t':=hS.ty _ hqm
 have hrd : rb (ak qs) (n + 1) (c :: k) = bP (ak qs) (rb (ak qs) n) t':=by
  funext s
  rw [rb];unfold eV
  dsimp only
  rw [if_neg (fun h=>h91 (.inl h)),if_neg (fun h=>h91 (.inr h)),hrf]
 unfold d4
 rw [hsg,hbs,hrd]
 rcases hW.sort with h | h | h
 ·exact aaG hd hn hU hS hw hkv hT hW (fun d hd=>eS hw htm oM hd) h hs
 ·exact aaE hd hn hU hS hkv hT hW (fun d hd=>eS hw htm oM hd) h hs
 ·exact aaL hd hn hS hkv hT hW h hs
theorem oT {sc : Nat} {qs : List cx} (hw : SchW (ak qs)) : ∀ n,n ≤ 13 → p6 n sc qs
 | 0,_=>fun G r k s b _ _ hs=>sN (.inr rfl) hs oM
 | n + 1,hn=>fun G r k s b hS hk hs=>by
  have hU:=oT (sc:=sc) hw n oM
  have ed : (13 : Int) - ((n + 1 : Nat) : Int) = 12 - (n : Int):=oM
  cases b with
  | true=>exact sN (.inl F) hs hn
  | false =>
   match k,hk with
   | [],hk=>cases hk
   | c :: k,hk =>
    by_cases h1 : c.toNat = 91
    ·obtain rfl:=bo h1 dC
     exact aaJ ed oM hU hS hk hs
    by_cases h2 : c.toNat = 63
    ·obtain rfl:=bo h2 dC
     exact aaH ed oM hU hS hk hs
    have h91 : ¬ (c.toNat = 91 ∨ c.toNat = 63):=fun h=>by rcases h with h | h <;> omega
    cases hr : aV (ak qs) (c :: k) with
    | some t=>exact aaM h91 ed oM hU hS hw hk hr hs
    | none =>
     rcases gL hk h91 hr with e | e | e
     ·rw [e] at hr ⊢;exact aaI ed oM hr hs
     ·rw [e] at hr ⊢;exact aaF ed oM hr hs
     ·rw [e] at hr ⊢;exact aaK ed oM hr hs
def cq (s : abL) : abL × Nat × Bool :=
 if bt s 0 ≠ 126 then ([],0,false)
 else if s.length = 1 then ([],0,true)
 else if 100 < bt s 1 then ([],0,false)
 else if s.length < 2 + bt s 1 then ([],0,true)
 else
  let body:=(s.take (2 + bt s 1)).drop 2
  if (frame body).isPrefixOf s then (body,(frame body).length,false)
  else if s.isPrefixOf (frame body) then ([],0,true)
  else ([],0,false)
def fg (s : abL) : List abL × Nat × abL :=
 if h : s = [] then ([],0,[])
 else if 0 < (cq s).2.1 then
  let r:=fg (s.drop (cq s).2.1)
  ((cq s).1 :: r.1,r.2.1,r.2.2)
 else if (cq s).2.2 then ([],0,s)
 else
  let r:=fg (s.drop 1)
  (r.1,r.2.1 + 1,r.2.2)
termination_by s.length
decreasing_by
 all_goals simp only [List.length_drop]
 all_goals have:=List.length_pos_iff.2 h
 all_goals omega
theorem ox : fg [] = ([],0,[]):=by rw [fg];simp
theorem oy {s : abL} (h : s ≠ []) (h1 : 0 < (cq s).2.1) : fg s = ((cq s).1 :: (fg (s.drop (cq s).2.1)).1,(fg (s.drop (cq s).2.1)).2.1,(fg (s.drop (cq s).2.1)).2.2):=by
 rw [fg];simp [h,h1]
theorem qW {s : abL} (h : s ≠ []) (h1 : ¬ 0 < (cq s).2.1) (h2 : (cq s).2.2 = true) : fg s = ([],0,s):=by
 rw [fg];simp [h,h1,h2]
theorem pe {s : abL} (h : s ≠ []) (h1 : ¬ 0 < (cq s).2.1) (h2 : (cq s).2.2 = false) : fg s = ((fg (s.drop 1)).1,(fg (s.drop 1)).2.1 + 1,(fg (s.drop 1)).2.2):=by
 rw [fg];simp [h,h1,h2]
def ce (s : abL) : List abL × Nat × abL:=if s.length ≤ 2000 then fg s else ([],0,[])
theorem xw (s : abL) : (cq s).2.1 ≤ s.length:=by
 unfold cq
 split;· simp
 split;· simp
 split;· simp
 split;· simp
 simp only
 split
 ·rename_i h
  exact (List.isPrefixOf_iff_prefix.1 h).length_le
 split <;> simp
theorem qS {b : abL} (h : b.length ≤ 100) : frame b = u8 126 :: u8 b.length :: (b ++ bi (d8 b)):=by
 simp [frame,eR (n:=b.length) oM oM]
theorem wu (c : UInt8) (l : abL) : bt (c :: l) 0 = c.toNat:=by simp [bt,List.getD]
theorem wt (c d : UInt8) (l : abL) : bt (c :: d :: l) 1 = d.toNat:=by simp [bt,List.getD]
theorem lq {k : Nat} (h : k < 256) : (u8 (k : Int)).toNat = k:=by have:=ep (a:=(k : Int)) oM;omega
theorem kO {b r : abL} (h : b.length ≤ 100) : cq (frame b ++ r) = (b,(frame b).length,false):=by
 have e:=qS h
 have e1 : bt (frame b ++ r) 0 = 126:=by rw [e,List.cons_append,wu];exact lq dC
 have e2 : bt (frame b ++ r) 1 = b.length:=by rw [e,List.cons_append,List.cons_append,wt];exact lq oM
 have e3 : (frame b ++ r).length = b.length + 2 + (bi (d8 b)).length + r.length:=by rw [e];simp;omega
 have e4 : ((frame b ++ r).take (2 + b.length)).drop 2 = b:=by
  rw [e];simp [Nat.add_comm 2,List.take_append]
 unfold cq
 rw [e1,if_neg (by simp),if_neg (by rw [e3];have : (bi (d8 b)).length ≠ 0:=by { unfold bi;rw [num];split <;> simp };omega),e2,if_neg oM,if_neg oM,e4]
 simp
theorem jc {b : abL} (h : b.length ≤ 100) : ce (frame b) = ([b],0,[]):=by
 have h1:=je b oM
 have h2:=kO (b:=b) (r:=[]) h
 simp only [List.append_nil] at h2
 have h3 : frame b ≠ []:=by rw [qS h];simp
 have h4 : 0 < (frame b).length:=List.length_pos_iff.2 h3
 rw [ce,if_pos oM,oy h3 (by rw [h2];exact h4),h2]
 simp [ox]
theorem xE {s : abL} (h : ((bt s 0 : Nat) : Int) ≠ 126) : cq s = ([],0,false):=by unfold cq;rw [if_pos oM]
theorem xD {s : abL} (h : ¬ ((bt s 0 : Nat) : Int) ≠ 126) (h2 : (s.length : Int) = 1) : cq s = ([],0,true):=by unfold cq;rw [if_neg oM,if_pos oM]
theorem xC {s : abL} (h : ¬ ((bt s 0 : Nat) : Int) ≠ 126) (h2 : ¬ (s.length : Int) = 1) (h3 : 100 < ((bt s 1 : Nat) : Int)) : cq s = ([],0,false):=by unfold cq;rw [if_neg oM,if_neg oM,if_pos oM]
theorem xB {s : abL} (h : ¬ ((bt s 0 : Nat) : Int) ≠ 126) (h2 : ¬ (s.length : Int) = 1) (h3 : ¬ 100 < ((bt s 1 : Nat) : Int)) (h4 : (s.length : Int) < 2 + ((bt s 1 : Nat) : Int)) : cq s = ([],0,true):=by
 unfold cq;rw [if_neg oM,if_neg oM,if_neg oM,if_pos oM]
theorem qT {s : abL} (h : ¬ ((bt s 0 : Nat) : Int) ≠ 126) (h2 : ¬ (s.length : Int) = 1) (h3 : ¬ 100 < ((bt s 1 : Nat) : Int)) (h4 : ¬ (s.length : Int) < 2 + ((bt s 1 : Nat) : Int)) :
  cq s = if (frame ((s.take (2 + (bt s 1 : Int)).toNat).drop 2)).isPrefixOf s then ((s.take (2 + (bt s 1 : Int)).toNat).drop 2,(frame ((s.take (2 + (bt s 1 : Int)).toNat).drop 2)).length,false)
   else if s.isPrefixOf (frame ((s.take (2 + (bt s 1 : Int)).toNat).drop 2)) then ([],0,true) else ([],0,false):=by
 unfold cq;rw [if_neg oM,if_neg oM,if_neg oM,if_neg oM]
 rw [show (2 + (bt s 1 : Int)).toNat = 2 + bt s 1 by omega]
theorem nk {s : abL} (h3 : ¬ 100 < ((bt s 1 : Nat) : Int)) : kd ((s.take (2 + (bt s 1 : Int)).toNat).drop 2) = frame ((s.take (2 + (bt s 1 : Int)).toNat).drop 2):=by
 rw [kd,if_pos (by simp;omega)]
theorem xz {s : abL} (h : ¬ ((bt s 0 : Nat) : Int) ≠ 126) (h2 : ¬ (s.length : Int) = 1) (h3 : ¬ 100 < ((bt s 1 : Nat) : Int)) (h4 : ¬ (s.length : Int) < 2 + ((bt s 1 : Nat) : Int))
  (hp : (kd ((s.take (2 + (bt s 1 : Int)).toNat).drop 2)).isPrefixOf s = true) : cq s = ((s.take (2 + (bt s 1 : Int)).toNat).drop 2,(kd ((s.take (2 + (bt s 1 : Int)).toNat).drop 2)).length,false):=by
 rw [qT h h2 h3 h4,← nk h3,if_pos hp]
theorem xy {s : abL} (h : ¬ ((bt s 0 : Nat) : Int) ≠ 126) (h2 : ¬ (s.length : Int) = 1) (h3 : ¬ 100 < ((bt s 1 : Nat) : Int)) (h4 : ¬ (s.length : Int) < 2 + ((bt s 1 : Nat) : Int))
  (hp : (kd ((s.take (2 + (bt s 1 : Int)).toNat).drop 2)).isPrefixOf s = false) (hq : s.isPrefixOf (kd ((s.take (2 + (bt s 1 : Int)).toNat).drop 2)) = true) : cq s = ([],0,true):=by
 rw [qT h h2 h3 h4,← nk h3,if_neg (by rw [hp];decide),if_pos hq]
theorem xx {s : abL} (h : ¬ ((bt s 0 : Nat) : Int) ≠ 126) (h2 : ¬ (s.length : Int) = 1) (h3 : ¬ 100 < ((bt s 1 : Nat) : Int)) (h4 : ¬ (s.length : Int) < 2 + ((bt s 1 : Nat) : Int))
  (hp : (kd ((s.take (2 + (bt s 1 : Int)).toNat).drop 2)).isPrefixOf s = false) (hq : s.isPrefixOf (kd ((s.take (2 + (bt s 1 : Int)).toNat).drop 2)) = false) : cq s = ([],0,false):=by
 rw [qT h h2 h3 h4,← nk h3,if_neg (by rw [hp];decide),if_neg (by rw [hq];decide)]
def dX (s : abL) : Option abL:=if s.length ≤ 2000 ∧ (ce s).2.1 = 0 ∧ (ce s).2.2 = [] then (match (ce s).1 with
 | [b]=>some b
 | _=>none) else none
theorem v7 {s : abL} (h : 0 < (cq s).2.1) : (cq s).1.length ≤ 100 ∧ ∃ r,s = frame (cq s).1 ++ r ∧ s.drop (cq s).2.1 = r:=by
 unfold cq at h ⊢
 split at h
 ·exact absurd h (by simp)
 rw [if_neg aS]
 split at h
 ·exact absurd h (by simp)
 rw [if_neg aS]
 split at h
 ·exact absurd h (by simp)
 rw [if_neg aS]
 split at h
 ·exact absurd h (by simp)
 rw [if_neg aS]
 dsimp only at h ⊢
 split at h
 ·rename_i h1 h2 h3 h4 h5
  rw [if_pos h5]
  dsimp only
  obtain ⟨r,hr⟩:=List.isPrefixOf_iff_prefix.1 h5
  refine ⟨by simp;omega,r,hr.symm,?_⟩
  have e : ∀ bd : abL,bd ++ r = s → s.drop bd.length = r:=fun bd h=>by rw [← h,List.drop_left]
  exact e _ hr
 ·split at h
  ·exact absurd h (by simp)
  ·exact absurd h (by simp)
theorem kJ {s b : abL} : dX s = some b ↔ b.length ≤ 100 ∧ s = frame b:=by
 constructor
 ·intro h
  unfold dX at h
  split at h
  ·rename_i hc
   obtain ⟨h1,h2,h3⟩:=hc
   have e : ce s = fg s:=by rw [ce,if_pos h1]
   rw [e] at h h2 h3
   by_cases hs : s = []
   ·subst hs;rw [ox] at h;cases h
   by_cases hh : 0 < (cq s).2.1
   ·obtain ⟨g1,r,g2,g3⟩:=v7 hh
    rw [oy hs hh,g3] at h h2 h3
    dsimp only at h h2 h3
    by_cases hr : r = []
    ·subst hr
     rw [ox] at h
     dsimp only at h
     simp only [Option.some.injEq] at h;subst h
     exact ⟨g1,by rw [List.append_nil] at g2;exact g2⟩
    ·exfalso
     by_cases hh2 : 0 < (cq r).2.1
     ·rw [oy hr hh2] at h
      simp at h
     ·by_cases hm : (cq r).2.2 = true
      ·rw [qW hr hh2 hm] at h3;exact hr h3
      ·rw [pe hr hh2 (by simpa using hm)] at h2
       simp at h2
   ·exfalso
    by_cases hm : (cq s).2.2 = true
    ·rw [qW hs hh hm] at h3;exact hs h3
    ·rw [pe hs hh (by simpa using hm)] at h2
     simp at h2
  ·cases h
 ·rintro ⟨h,rfl⟩
  have h1:=je b oM
  unfold dX
  rw [jc h,if_pos ⟨oM,rfl,rfl⟩]
theorem kI {s b : abL} (h : dX s = some b) : b.length ≤ 100:=(kJ.1 h).1
theorem uN {a b r q : abL} (ha : a.length ≤ 100) (hb : b.length ≤ 100) (h : frame a ++ r = frame b ++ q) : a = b ∧ r = q:=by
 have h1:=kO (b:=a) (r:=r) ha
 have h2:=kO (b:=b) (r:=q) hb
 rw [h,h2] at h1
 simp only [Prod.mk.injEq] at h1
 obtain ⟨rfl,_⟩:=h1
 exact ⟨F,List.append_cancel_left h⟩
theorem uM {s : abL} {b r : abL} (hb : b.length ≤ 100) (h : 126 :: s = frame b ++ r) : bc s = some (((b.length : Nat) : Int),b ++ (bi (d8 b) ++ r)):=by
 have e : s = bi b.length ++ (b ++ (bi (d8 b) ++ r)):=by
  unfold frame at h
  simp only [List.cons_append,List.nil_append,List.cons.injEq,List.append_assoc] at h
  exact h.2
 rw [e]
 exact gx oM oM _
theorem sM {b : Nat} {l : abL} (hm : 0 < l.length ∧ l.length ≤ 1000000000) : bQ abK 131 [Pt b 0,S l] G [.blk b (.cells (List.toArray [.pointer none,aK]) dU (0,0))]
  (fun r L'=>∃ b2 c2,r = Tu [I l.length,.nilIface] ∧ L' = [.acc (.slice (some ⟨b2,0,none⟩) l.length (c2 + 1)) gc 1 l.length (co l),.blk b (.cells (List.toArray [Pt b 0,.slice (some ⟨b2,0,none⟩) l.length (c2 + 1)]) dU (0,0))]):=by
 refine jH [(0,_),(1,_)] Tryz.func131 Tryz.ntmps131 fun B hB hW=>?_
 repeat' (first | refine jR ?_ | (refine jo ?_;first | refine aj F ?_ | refine zV F F F oM fun _ _=>?_ | refine jD F F F ?_ | (refine af F F F wW F ?_;rintro _ _ rfl;dsimp only [zA,fA])))
 exact aZ (vs:=[_,_]) F ⟨F,F,trivial⟩ F (List.Sublist.refl _) ⟨F,_,_,F,F⟩
theorem ya {b : Nat} : bQ abK 132 [Pt b 0] G [.blk b (.cells (List.toArray [.pointer none,aK]) dU (0,0))] (fun r L'=>r = S [] ∧ L' = []):=by
 refine jH [(0,_)] Tryz.func132 Tryz.ntmps132 fun B hB hW=>?_
 repeat' (first | refine jR ?_ | (refine ai (an (id:=1) _ (fun _ h=>h) ah ?_);refine jT 6 [0,1,2,5,6,7] (aa 12 231) ?_;(refine jG (aa 12 239) 3 F (aq F F F) ?_);(refine jG (aa 12 255) 4 F (xk F) ?_);(refine jG (aa 12 511) 8 F (aq F F F) ?_);(refine jG (aa 12 1023) 9 F (aw F) ?_);(refine jG (aa 12 2047) 10 F (xg F F) ?_);refine jT 0 [11] (aa 12 4095) ?_;refine jQ ?_))
 refine jZ (vs:=[_]) F ⟨F,trivial⟩ F ⟨F,F,?_⟩
 rfl
def l9 (b : Nat) (q : Option (Nat × Nat)) (l : abL) : List Own:=match q with
 | none=>[.blk b (.cells (List.toArray [.pointer none,aK]) dU (0,0))]
 | some (b2,c2)=>[.acc (.slice (some ⟨b2,0,none⟩) l.length (c2 + 1)) gc 1 l.length (co l),.blk b (.cells (List.toArray [Pt b 0,.slice (some ⟨b2,0,none⟩) l.length (c2 + 1)]) dU (0,0))]
theorem s7 {b b2 c2 : Nat} {l m : abL} {L : List Own} : (Own.acc (.slice (some ⟨b2,0,none⟩) (l.length + m.length) (c2 + 1)) gc 1 (l.length + m.length) (co l ++ co m) :: .blk b (.cells (List.toArray [Pt b 0,.slice (some ⟨b2,0,none⟩) (l.length + m.length) (c2 + 1)]) dU (0,0)) :: L) =
  Own.acc (.slice (some ⟨b2,0,none⟩) (l ++ m).length (c2 + 1)) gc 1 (l ++ m).length (co (l ++ m)) :: .blk b (.cells (List.toArray [Pt b 0,.slice (some ⟨b2,0,none⟩) (l ++ m).length (c2 + 1)]) dU (0,0)) :: L:=by
 simp [co]
theorem ik {w : Nat} {x : abL} {t : Int} {a : Option Addr} {k : Nat} (hw : r9 w x t []) (h : w = 110 ∨ w = 116 ∨ w = 102 ∨ w = 69) (hx : x.length ≤ 100000) : am abK 101 [Ag [U8 (w : Nat),S x,I t,.slice a ([] : List V).length k]] G (· = S (V.nd w x t []).bys):=by
 have hty:=oS hw
 unfold r9 at hw
 rcases h with rfl | rfl | rfl | rfl
 ·simp only [Nat.reduceEqDiff,false_and,or_false,true_and] at hw
  obtain ⟨rfl,m,hm0,hm1,hx1,hnum0⟩:=hw
  have cx_pnB:=gE (G:=G) (s:=x) (top:=999999) oM
  refine jE [(0,_)] Tryz.func101 Tryz.ntmps101 fun B hB=>?_
  repeat' (first | refine jR ?_ | (refine jo ?_;first | refine jO fun _=>?_ | refine aj F ?_ | (refine cn F F F (eN oM) F ?_;rintro _ ⟨n,rfl,hnum⟩)) | refine ac F F ?_)
  obtain rfl:=hnum _ hnum0
  repeat' (first | refine jR ?_ | (refine jo ?_;refine ab F F F (f4 oM) F ?_))
  refine jY (vs:=[_]) ?_
  rw [ar,V.bys];simp [fT,hnum0]
 ·refine jE [(0,_)] Tryz.func101 Tryz.ntmps101 fun B hB=>?_
  repeat' (first | refine jR ?_ | (refine jo ?_;first | refine jO fun _=>?_ | refine aj F ?_ | refine ab F F F (pj oM) F ?_) | refine ac F F ?_ | refine ad F F ?_)
  refine jY (vs:=[_]) ?_
  rw [ar,V.bys];rfl
 ·simp only [Nat.reduceEqDiff,false_and,or_false,true_and,false_or] at hw
  obtain ⟨rfl,rfl | rfl⟩:=hw
  all_goals
   refine jE [(0,_)] Tryz.func101 Tryz.ntmps101 fun B hB=>?_
   repeat' (first | refine jR ?_ | (refine jo ?_;first | refine jO fun _=>?_ | refine aj F ?_) | refine ac F F ?_ | refine ad F F ?_)
   refine jY (vs:=[_]) ?_
   rw [ar,V.bys];rfl
 ·have h7 : (bi t).length ≤ 3:=cd oM
  refine jE [(0,_)] Tryz.func101 Tryz.ntmps101 fun B hB=>?_
  repeat' (first | refine jR ?_ | (refine jo ?_;first | refine jO fun _=>?_ | refine aj F ?_ | refine ab F F F (f4 oM) F ?_) | refine ac F F ?_ | refine ad F F ?_)
  refine jY (vs:=[_]) ?_
  rw [ar,V.bys];rfl
theorem tZ {a : Option Addr} {k : Nat} : am abK 101 [Ag [U8 (63 : Nat),S [],I 0,.slice a ([] : List V).length k]] G (· = S (V.nd 63 [] 0 []).bys):=by
 refine jE [(0,_)] Tryz.func101 Tryz.ntmps101 fun B hB=>?_
 repeat' (first | refine jR ?_ | (refine jo ?_;first | refine jO fun _=>?_ | refine aj F ?_ | refine jV (aw F) ?_) | refine ac F F ?_ | refine ad F F ?_)
 refine jY (vs:=[_]) ?_
 rw [ar,V.bys];rfl
theorem vt {w : Nat} {t : Int} {u : V} {b o k : Nat} {d : VC} (h : w = 63 ∨ w = 85 ∨ w = 61) (ht : 0 ≤ t ∧ t ≤ 200) (cx_bys : am abK 101 [Ag (b6 d)] G (· = S u.bys)) (hbl : u.bys.length ≤ 100000) (hs : bW G b o (b6 d)) :
  am abK 101 [Ag [U8 (w : Nat),S [],I t,.slice (some ⟨b,o,none⟩) 1 k]] G (· = S (V.nd w [] t [u]).bys):=by
 have hn3:=cd (n:=t) oM
 have hn4:=cd (n:=(u.bys.length : Nat)) oM
 have e1 : (V.nd w [] t [u]).bys = fT w [] t 1 u.bys:=by rw [V.bys];simp [V.byss]
 rw [e1]
 rcases h with rfl | rfl | rfl
 all_goals
  refine jE [(0,_)] Tryz.func101 Tryz.ntmps101 fun B hB=>?_
  repeat' (first | refine jX ?_ | (refine jo ?_;first | refine jO fun _=>?_ | refine aj F ?_ | refine jV (uI F F aS F F F) ?_ | refine jV (aw F) ?_ | refine jV (a9 F F oM) ?_ | refine ab F F F cx_bys F ?_) | refine ac F F ?_ | refine ad F F ?_ | (refine ai (an (id:=28) _ (fun _ h=>h) ah ?_);refine jT 9 [0,3] (aa 11 9) ?_;(refine jG (aa 11 11) 1 F (aq F F F) ?_);(refine jG (aa 11 27) 4 F (aq F F F) ?_);(refine jG (aa 11 59) 5 F (a9 F F oM) ?_);(refine jG (aa 11 123) 6 F (uI F F aS F F F) ?_);refine jA 2 F ?_;(refine ab F F F (f4 oM) F ?_);refine jS (aa 11 127) ?_;refine jA 7 F ?_;(refine ab F F F cx_bys F ?_);refine jS (aa 11 255) ?_;refine jA 8 F ?_;(refine ab F F F (pj oM) F ?_);refine jS (aa 11 511) ?_;refine jW 0 [9,10] (aa 11 2047) ?_;refine jQ ?_))
  refine jY (vs:=[_]) ?_
  rw [ar];rfl
theorem vu {ks : List V} {cs : List VC} {a : Option Addr} {k : Nat} (hk : ks.length ≤ 100000) (hcl : cs.length = ks.length) (hsl : bh G (.slice a ks.length k) 4 cs.length (aA b6 cs)) (hfl : (V.byss ks).flatten.length ≤ 100000)
  (ih : ∀ i,i < ks.length → am abK 101 [Ag (b6 (ae cs i))] G (· = S (ae ks i).bys) ∧ (ae ks i).bys.length ≤ 100000) :
  am abK 101 [Ag [U8 (91 : Nat),S [],I 0,.slice a ks.length k]] G (· = S (V.nd 91 [] 0 ks).bys):=by
 have hkp:=e8 ks.length
 have hk3:=cd (n:=ks.length) oM
 have hnp : 0 < (bi ks.length).length ∧ (bi ks.length).length ≤ 1000000000:=oM
 refine jE [(0,_)] Tryz.func101 Tryz.ntmps101 fun B hB=>?_
 repeat' (first | refine jR ?_ | (refine jo ?_;first | refine jO fun _=>?_ | refine aj F ?_ | refine jL fun _=>?_ | refine jV (aw F) ?_ | refine ab F F F (f4 oM) F ?_ | (refine af F F F (sM oM) F ?_;rintro _ _ ⟨b3,c3,rfl,rfl⟩;dsimp only [zA,fA])) | refine ac F F ?_ | refine ad F F ?_)
 rename_i bv bb
 refine aR (ι:=Nat × Nat × Nat × abL) (fun q=>q.1 ≤ ks.length ∧ q.2.2.2 = bi (ks.length : Nat) ++ ((V.byss ks).take q.1).flatten) (fun q=>[(5,Pt bb 0),(41,.slice a ks.length k),(42,I ks.length),(43,I q.1)]) (fun _=>G) (fun q=>[.acc (.slice (some ⟨q.2.1,0,none⟩) q.2.2.2.length (q.2.2.1 + 1)) gc 1 q.2.2.2.length (co q.2.2.2),.blk bb (.cells (List.toArray [Pt bb 0,.slice (some ⟨q.2.1,0,none⟩) q.2.2.2.length (q.2.2.1 + 1)]) dU (0,0)),.blk bv (.cells (List.toArray [U8 (91 : Nat),S [],I 0,.slice a ks.length k]) g5 (0,0))]) (fun q=>ks.length - q.1) (0,b3,c3,bi (ks.length : Nat)) ?_ tU F aX (fun q Hq=>?_)
 ·exact ⟨Nat.zero_le _,by simp⟩
 obtain ⟨i,b2,c2,l⟩:=q
 dsimp only at Hq ⊢
 obtain ⟨hi0,hl⟩:=Hq
 have hj1:=jh ks i
 have hll : l.length ≤ 200000:=by rw [hl,List.length_append];omega
 by_cases hi : i < ks.length
 ·obtain ⟨cx_bys,hbl⟩:=ih i hi
  obtain ⟨bf,of,cf,e,hs⟩:=hsl.expl oM
  simp only [Value.slice.injEq] at e
  obtain ⟨rfl,-,rfl⟩:=e
  have hm9 : l.length + (ae ks i).bys.length ≤ 1000000000:=oM
  repeat' (first | refine jM ?_ | (refine jo ?_;first | (refine jV (cD F F aS ?_) ?_;focus omega) | refine aG F ?_ | refine jL fun _=>?_ | refine jV (ax F F oM) ?_ | refine jC F F F ?_ | (refine k8 F F F (oE (by (repeat (assumption));done)) rfl ?_;rintro _ _ ⟨b3,c3,rfl,rfl⟩;dsimp only [zA,fA]) | refine ab F F F cx_bys F ?_) | refine ac F (ay oM) ?_)
  rw [s7]
  exact aW (i + 1,_,_,l ++ (ae ks i).bys) ⟨by dsimp only;omega,by dsimp only;rw [hl,ji hi,List.append_assoc]⟩ (by dsimp only;omega) tU rfl sB
 ·have hin : i = ks.length:=oM
  subst hin
  rw [← gH,List.take_length] at hl
  repeat' (first | refine jR ?_ | (refine jo ?_;(refine k8 F F F (rx oM) F ?_;rintro _ _ ⟨rfl,rfl⟩;dsimp only [zA,fA])) | refine ad F (aC oM) ?_)
  refine jY (vs:=[_]) ?_
  rw [ar,V.bys,hl,gH];rfl
theorem vr {ks : List V} {cs : List VC} {a : Option Addr} {k : Nat} (hk : ks.length ≤ 100000) (hcl : cs.length = ks.length) (hsl : bh G (.slice a ks.length k) 4 cs.length (aA b6 cs)) (hfl : (V.byss ks).flatten.length ≤ 100000)
  (ih : ∀ i,i < ks.length → am abK 101 [Ag (b6 (ae cs i))] G (· = S (ae ks i).bys) ∧ 0 < (ae ks i).bys.length ∧ (ae ks i).bys.length ≤ 100000) :
  am abK 101 [Ag [U8 (82 : Nat),S [],I 0,.slice a ks.length k]] G (· = S (V.nd 82 [] 0 ks).bys):=by
 refine jE [(0,_)] Tryz.func101 Tryz.ntmps101 fun B hB=>?_
 repeat' (first | refine jR ?_ | (refine jo ?_;first | refine jO fun _=>?_ | refine aj F ?_ | refine jL fun _=>?_ | refine jV (aw F) ?_) | refine ad F F ?_)
 rename_i bv bb
 refine aR (ι:=Nat × Option (Nat × Nat) × abL) (fun q=>q.1 ≤ ks.length ∧ q.2.2 = ((V.byss ks).take q.1).flatten ∧ (q.2.1 = none → q.2.2 = [])) (fun q=>[(8,Pt bb 0),(83,.slice a ks.length k),(84,I ks.length),(85,I q.1)]) (fun _=>G) (fun q=>l9 bb q.2.1 q.2.2 ++ [.blk bv (.cells (List.toArray [U8 (82 : Nat),S [],I 0,.slice a ks.length k]) g5 (0,0))]) (fun q=>ks.length - q.1) (0,none,[]) ?_ tU F (by dsimp only [l9];repeat (exact List.Sublist.refl _)) (fun q Hq=>?_)
 ·exact ⟨Nat.zero_le _,by simp,fun _=>rfl⟩
 obtain ⟨i,q,l⟩:=q
 dsimp only at Hq ⊢
 obtain ⟨hi0,hl,hl0⟩:=Hq
 have hj1:=jh ks i
 have hll : l.length ≤ 200000:=by rw [hl];omega
 by_cases hi : i < ks.length
 ·obtain ⟨cx_bys,hbl⟩:=ih i hi
  obtain ⟨bf,of,cf,e,hs⟩:=hsl.expl oM
  simp only [Value.slice.injEq] at e
  obtain ⟨rfl,-,rfl⟩:=e
  have hm9 : l.length + (ae ks i).bys.length ≤ 1000000000:=oM
  have hbl0 : 0 < (ae ks i).bys.length ∧ (ae ks i).bys.length ≤ 1000000000:=oM
  have hfn:=ji hi
  rw [← hl] at hfn
  cases q with
  | none =>
   obtain rfl:=hl0 rfl
   simp only [l9,List.cons_append,List.nil_append]
   repeat' (first | refine jM ?_ | (refine jo ?_;first | (refine jV (cD F F aS ?_) ?_;focus omega) | refine aG F ?_ | refine jL fun _=>?_ | refine jV (ax F F oM) ?_ | refine jC F F F ?_ | (refine af F F F (sM oM) F ?_;rintro _ _ ⟨b3,c3,rfl,rfl⟩;dsimp only [zA,fA]) | refine ab F F F cx_bys F ?_) | refine ac F (ay oM) ?_)
   exact aW (i + 1,some (_,_),(ae ks i).bys) ⟨by dsimp only;omega,by dsimp only;rw [hfn];rfl,fun h=>(by cases h)⟩ (by dsimp only;omega) tU rfl (by dsimp only [l9];repeat (first | exact List.Sublist.refl _ | apply List.Sublist.cons_cons | apply List.Sublist.cons))
  | some q =>
   obtain ⟨b2,c2⟩:=q
   simp only [l9,List.cons_append,List.nil_append]
   repeat' (first | refine jM ?_ | (refine jo ?_;first | (refine jV (cD F F aS ?_) ?_;focus omega) | refine aG F ?_ | refine jL fun _=>?_ | refine jV (ax F F oM) ?_ | refine jC F F F ?_ | (refine k8 F F F (oE (by (repeat (assumption));done)) rfl ?_;rintro _ _ ⟨b3,c3,rfl,rfl⟩;dsimp only [zA,fA]) | refine ab F F F cx_bys F ?_) | refine ac F (ay oM) ?_)
   rw [s7]
   exact aW (i + 1,some (_,_),l ++ (ae ks i).bys) ⟨by dsimp only;omega,by dsimp only;rw [hfn],fun h=>(by cases h)⟩ (by dsimp only;omega) tU rfl (by dsimp only [l9];repeat (first | exact List.Sublist.refl _ | apply List.Sublist.cons_cons | apply List.Sublist.cons))
 ·have hin : i = ks.length:=oM
  subst hin
  rw [← gH,List.take_length] at hl
  have e2 : (V.nd 82 [] 0 ks).bys = l ++ [0]:=by rw [V.bys,hl];rfl
  rw [e2]
  cases q with
  | none =>
   obtain rfl:=hl0 rfl
   simp only [l9,List.cons_append,List.nil_append]
   repeat' (first | refine jX ?_ | (refine jo ?_;(refine af F F F ya F ?_;rintro _ _ ⟨rfl,rfl⟩;dsimp only [zA,fA])) | refine ad F (aC oM) ?_)
   refine jY (vs:=[_]) ?_
   rw [ar];rfl
  | some q =>
   obtain ⟨b2,c2⟩:=q
   simp only [l9,List.cons_append,List.nil_append]
   repeat' (first | refine jX ?_ | (refine jo ?_;(refine k8 F F F (rx oM) F ?_;rintro _ _ ⟨rfl,rfl⟩;dsimp only [zA,fA])) | refine ad F (aC oM) ?_)
   refine jY (vs:=[_]) ?_
   rw [ar]
theorem aaY : ∀ (n : Nat) {v : V} {c : VC},v.tot ≤ n → v.tot ≤ 100000 → v.wf → V.rep G v c → am abK 101 [Ag (b6 c)] G (· = S v.bys):=by
 intro n
 induction n with
 | zero=>intro v c h1 _ _ _;have:=io v;omega
 | succ n ih =>
  intro v c h1 h2 hwf h
  obtain ⟨w,x,t,ks⟩:=v
  rw [V.wf] at hwf
  obtain ⟨hwf,hwk⟩:=hwf
  have hty:=oS hwf
  rw [cX] at h1 h2
  obtain ⟨a,k,cs,rfl,hw,ht,h61,hcl,hsl,hks⟩:=mj h
  have hkl:=dT ks
  have hfl:=gW ks hwk oM
  have hK : ∀ i,i < ks.length → am abK 101 [Ag (b6 (ae cs i))] G (· = S (ae ks i).bys) ∧ 0 < (ae ks i).bys.length ∧ (ae ks i).bys.length ≤ 100000:=fun i hi=>by
   have hti:=fU hi
   have hwi:=qh hwk hi
   have hbl:=iy _ hwi oM
   exact ⟨ih oM oM hwi (iF hks i hi),oM,oM⟩
  have h1K : ks.length = 1 → (w = 63 ∨ w = 85 ∨ w = 61) → x = [] → am abK 101 [Ag (b6 ⟨w,x,t,a,ks.length,k⟩)] G (· = S (V.nd w x t ks).bys):=fun hk1 hw3 hx=>by
   obtain ⟨hk0,_,hk0l⟩:=hK 0 oM
   obtain ⟨bf,of,cf,e,hs⟩:=hsl.expl oM
   simp only [Value.slice.injEq] at e
   obtain ⟨rfl,-,rfl⟩:=e
   obtain ⟨u,rfl⟩:=List.length_eq_one_iff.1 hk1
   obtain ⟨d,rfl⟩:=List.length_eq_one_iff.1 (show cs.length = 1 by rw [hcl];rfl)
   subst hx
   exact vt hw3 hty hk0 hk0l hs
  rcases hwf with h7 | h7 | h7 | ⟨rfl,rfl,rfl,hk20,hk61⟩ | ⟨rfl,rfl,rfl,hk1,hk61⟩ | h7 | ⟨rfl,rfl,_,_,hk1,_⟩ | ⟨rfl,rfl,_,_,hk1,_⟩ | ⟨rfl,rfl,rfl,hpw,hka⟩
  ·obtain ⟨rfl,rfl,h8⟩:=h7
   exact ik (.inl ⟨F,F,h8⟩) (.inl F) (by dsimp only;omega)
  ·obtain ⟨rfl,rfl,h8⟩:=h7
   exact ik (.inr (.inl ⟨F,F,h8⟩)) (.inr (.inl F)) (by dsimp only;omega)
  ·obtain ⟨rfl,rfl,h8⟩:=h7
   exact ik (.inr (.inr (.inl ⟨F,F,h8⟩))) (.inr (.inr (.inl F))) (by dsimp only;omega)
  ·exact vu oM hcl hsl oM fun i hi=>⟨(hK i hi).1,(hK i hi).2.2⟩
  ·by_cases hk0 : ks.length = 0
   ·obtain rfl:=List.eq_nil_of_length_eq_zero hk0
    exact tZ
   ·exact h1K oM (.inl F) F
  ·obtain ⟨rfl,rfl,h8,h9,rfl⟩:=h7
   exact ik (.inr (.inr (.inr (.inr (.inr (.inl ⟨F,F,h8,h9,F⟩)))))) (.inr (.inr (.inr F))) (by simp)
  ·exact h1K hk1 (.inr (.inl F)) F
  ·exact h1K hk1 (.inr (.inr F)) F
  ·exact vr oM hcl hsl oM fun i hi=>⟨(hK i hi).1,(hK i hi).2.1,(hK i hi).2.2⟩
theorem sW {s : abL} (h : s.length ≤ 999999) : am abK 57 [S s] G (· = S (bi s.length ++ s)):=by
 have hl:=cd (n:=s.length) oM
 refine jE [(0,_)] Tryz.func57 Tryz.ntmps57 fun B hB=>?_
 repeat' (first | refine jM ?_ | (refine jo ?_;refine ab F F F (f7 oM) F ?_))
 refine jY (vs:=[_]) ?_
 rfl
theorem ym {x : abL} {t : Int} {ks : List V} (h : V.wf (.nd 110 x t ks)) : ∃ m : Int,0 ≤ m ∧ m ≤ 999999 ∧ aM x 999999 = some m:=by
 rw [V.wf] at h
 have h1:=h.1
 unfold r9 at h1
 simp only [Nat.reduceEqDiff,false_and,or_false,true_and] at h1
 obtain ⟨_,_,m,h2,h3,_,h4⟩:=h1
 exact ⟨m,h2,h3,h4⟩
theorem j3 {w : Nat} {x : abL} {t : Int} {ks : List V} (h : V.wf (.nd w x t ks)) : V.wfs ks:=by rw [V.wf] at h;exact h.2
theorem vJ {b cc : Nat} {v : Value} (h0 : 1 ≤ cc) (h : bW G b 0 [v]) : bh G (.slice (some ⟨b,0,none⟩) 1 cc) 1 1 [v]:=⟨rfl,.inr ⟨b,0,cc,rfl,h0,h⟩⟩
theorem w5 {b tc : Nat} {v : Value} (h : bW G b 0 [v]) : bh G (.slice (some ⟨b,0,none⟩) 1 (tc + 1)) 1 1 [v]:=⟨rfl,.inr ⟨b,0,tc + 1,rfl,oM,h⟩⟩
theorem vv {r tx : abL} {b : Nat} {tg : List Int} {bs : List Nat} {KS : List V} {a a2 : Option Addr} {c c2 m : Nat} (hm : m = KS.length) (hm9 : m ≤ 100000) (htx : tx = [82] ∨ tx = [85]) (h2 : bW G b 0 [S (64 :: r),S tx,.slice a m c,.slice a2 m c2])
  (h3 : bh G (.slice a m c) 1 m (aA hY tg)) (h4 : bh G (.slice a2 m c2) 1 m (aA fY bs)) (htl : tg.length = m) (hbl : bs.length = m) (hfl : (V.byss KS).flatten.length ≤ 100000)
  (hk : ∀ i,i < m → ∃ u,ae KS i = V.nd 61 [] (ae tg i) [u] ∧ am abK 20 [Pt (ae bs i) 0] G (· = S u.bys) ∧ u.bys.length ≤ 100000 ∧ 0 ≤ ae tg i ∧ ae tg i ≤ 999999) :
  am abK 20 [Pt b 0] G (· = S ((V.byss KS).flatten ++ if tx = [82] then [0] else [])):=by
 refine jE [(0,_)] Tryz.func20 Tryz.ntmps20 fun B hB=>?_
 repeat' (first | refine jX ?_ | (refine jo ?_;refine jV (aI F F aS F F) ?_) | refine ad F F ?_)
 refine aR (ι:=Nat) (fun i=>i ≤ m) (fun i=>[(0,Pt b 0),(7,S (((V.byss KS).take i).flatten)),(8,I i)]) (fun _=>G) (fun i=>[]) (fun i=>m - i) 0 ?_ tU F aX (fun i Hi=>?_)
 ·exact Nat.zero_le _
 have hj1:=jh KS i
 by_cases hi : i < m
 ·obtain ⟨u,hu1,cx_bys,hu2,hu3⟩:=hk i hi
  have hn3:=cd hu3.2
  have hn4:=cd (n:=(u.bys.length : Nat)) oM
  have hfn:=ji (ks:=KS) (i:=i) oM
  have hub : (V.nd 61 [] (ae tg i) [u]).bys = bi (ae tg i) ++ (bi u.bys.length ++ u.bys):=by rw [V.bys];simp [V.byss,fT]
  rw [hu1,hub] at hfn
  have hxt : ae tg i = ae tg i:=rfl
  have hxi : ae bs i = ae bs i:=rfl
  obtain ⟨tgb,to,tc,e,hs1⟩:=h3.expl oM
  simp only [Value.slice.injEq] at e
  obtain ⟨rfl,-,rfl⟩:=e
  obtain ⟨kb,ko,kc,e,hs2⟩:=h4.expl oM
  simp only [Value.slice.injEq] at e
  obtain ⟨rfl,-,rfl⟩:=e
  repeat' (first | refine jX ?_ | (refine jo ?_;first | refine jV (aI F F aS F F) ?_ | (refine jV (fq F F aS ?_ aS F) ?_;focus omega) | refine jV (aw F) ?_ | refine jV (ax F F oM) ?_ | refine ab F F F (f7 oM) F ?_ | refine ab F F F (sW oM) F ?_ | refine ab F F F cx_bys F ?_) | refine ac F (ay oM) ?_)
  refine Nx.re (d:=7) (v':=S (((V.byss KS).take (i + 1)).flatten)) F (congrArg (fun l=>S l) ?_) ?_
  ·rw [hfn];simp
  exact aW (i + 1) oM oM tU F aX
 ·have hin : i = KS.length:=oM
  subst hin
  have hfe : (V.byss KS).take KS.length = V.byss KS:=by rw [← gH,List.take_length]
  rw [hfe]
  rcases htx with rfl | rfl
  all_goals
   repeat' (first | refine jX ?_ | (refine jo ?_;first | refine jV (aI F F aS F F) ?_ | refine jF fun _=>?_ | refine jV (en F F (by (repeat (first | exact BL.nil | apply BL.lit rfl));done)) ?_ | refine jV (aw F) ?_) | refine ac F F ?_ | (refine ad F (by first | rfl | (refine decide_eq_false ?_;(omega))) ?_))
   refine jY (vs:=[_]) ?_
   rw [ar];first | rfl | (simp;done)
theorem zU {ts : List Ty} (hw : SchW ts) {v : V} {k : abL} {b : Nat} (h : RepR G ts v k b) : v.wf → v.tot ≤ 100000 → am abK 20 [Pt b 0] G (· = S v.bys):=by
 induction h with
 | leaf w x k tx b h1 h2 =>
  intro hwf ht
  rw [cX] at ht
  rcases h2 with ⟨rfl,rfl,rfl,_⟩ | ⟨rfl,rfl,rfl⟩ | ⟨rfl,rfl,rfl,rfl | rfl⟩
  ·obtain ⟨m,hm0,hm1,hnum0⟩:=ym hwf
   refine jE [(0,_)] Tryz.func20 Tryz.ntmps20 fun B hB=>?_
   repeat' (first | refine jX ?_ | (refine jo ?_;first | refine jV (aI F F aS F F) ?_ | (refine cn F F F (gF oM) F ?_;rintro _ ⟨n,rfl,hnum⟩)) | refine ac F F ?_)
   obtain rfl:=hnum _ hnum0
   repeat' (first | refine jR ?_ | (refine jo ?_;refine ab F F F (f7 oM) F ?_))
   refine jY (vs:=[_]) ?_
   rw [ar,V.bys];simp [fT,hnum0]
  ·have htl : (39 :: (x ++ [39])).length = x.length + 2:=by simp
   have hdt : ∀ n : Nat,n = x.length → ((39 :: (x ++ [39])).take (1 + n)).drop 1 = x:=fun n hn=>by rw [hn,Nat.add_comm,List.take_succ_cons,List.drop_succ_cons,List.drop_zero,List.take_left]
   generalize 39 :: (x ++ [39]) = tx at *
   refine jE [(0,_)] Tryz.func20 Tryz.ntmps20 fun B hB=>?_
   repeat' (first | refine jX ?_ | (refine jo ?_;refine jV (aI F F aS F F) ?_) | refine ac F F ?_ | refine ad F F ?_ | (refine ai (an (id:=6) _ (fun _ h=>h) ah ?_);refine jT 7 [0,1,2,4,5,6] (aa 13 119) ?_;(refine jG (aa 13 127) 3 F (aI F F aS F F) ?_);(refine jG (aa 13 255) 7 F (aI F F aS F F) ?_);refine jW 2 [8,9,10] (aa 13 2047) ?_;refine jA 11 F ?_;((refine ab F F F (sW ?_) F ?_;(focus ((simp;omega);done))));refine jS (aa 13 4095) ?_;refine jT 0 [12] (aa 13 8191) ?_;refine jQ ?_))
   refine jY (vs:=[_]) ?_
   have e3 : (tx.take (((tx.length : Nat) : Int) - 1).toNat).drop (Int.toNat 1) = x:=by
    rw [show (((tx.length : Nat) : Int) - 1).toNat = 1 + x.length by omega];exact hdt _ F
   rw [ar,e3,V.bys];rfl
  ·refine jE [(0,_)] Tryz.func20 Tryz.ntmps20 fun B hB=>?_
   repeat' (first | refine jX ?_ | (refine jo ?_;first | refine jV (aI F F aS F F) ?_ | refine jF fun _=>?_ | refine jV (en F F (by (repeat (first | exact BL.nil | apply BL.cons));done)) ?_) | refine ac F F ?_ | refine ad F F ?_)
   refine jY (vs:=[_]) ?_
   rw [ar,V.bys];rfl
  ·refine jE [(0,_)] Tryz.func20 Tryz.ntmps20 fun B hB=>?_
   repeat' (first | refine jX ?_ | (refine jo ?_;first | refine jV (aI F F aS F F) ?_ | refine jF fun _=>?_ | refine jV (en F F (by (repeat (first | exact BL.nil | apply BL.cons));done)) ?_) | refine ac F F ?_ | refine ad F F ?_)
   refine jY (vs:=[_]) ?_
   rw [ar,V.bys];rfl
 | lst k b ks bs a c h1 h2 h3 hk ih =>
  intro hwf ht
  rw [cX] at ht
  have hwk:=j3 hwf
  have hkl:=dT ks
  have hk3:=cd (n:=ks.length) oM
  have hfl:=gW ks hwk oM
  refine jE [(0,_)] Tryz.func20 Tryz.ntmps20 fun B hB=>?_
  repeat' (first | refine jX ?_ | (refine jo ?_;first | refine jV (aI F F aS F F) ?_ | refine jV (aw F) ?_ | refine ab F F F (f7 oM) F ?_) | refine ac F F ?_ | refine ad F F ?_)
  refine Nx.re (d:=5) (v':=S (bi ks.length ++ ((V.byss ks).take 0).flatten)) F (congrArg (fun l=>S l) (by simp)) ?_
  refine aR (ι:=Nat) (fun i=>i ≤ ks.length) (fun i=>[(0,Pt b 0),(5,S (bi ks.length ++ ((V.byss ks).take i).flatten)),(6,I i)]) (fun _=>G) (fun i=>[]) (fun i=>ks.length - i) 0 ?_ tU F aX (fun i Hi=>?_)
  ·exact Nat.zero_le _
  have hj1:=jh ks i
  by_cases hi : i < ks.length
  ·have hti:=fU hi
   have hwi:=qh hwk hi
   have cx_bys:=ih i hi hwi oM
   have hbl:=iy _ hwi oM
   have hxi : ae bs i = ae bs i:=rfl
   obtain ⟨kb,ko,kc,e,hs⟩:=h2.expl oM
   simp only [Value.slice.injEq] at e
   obtain ⟨rfl,-,rfl⟩:=e
   repeat' (first | refine jX ?_ | (refine jo ?_;first | refine jV (aI F F aS F F) ?_ | (refine jV (fq F F aS ?_ aS F) ?_;focus omega) | refine jV (aw F) ?_ | refine jV (ax F F oM) ?_ | refine ab F F F cx_bys F ?_) | refine ac F (ay oM) ?_)
   refine Nx.re (d:=5) (v':=S (bi ks.length ++ ((V.byss ks).take (i + 1)).flatten)) F (congrArg (fun l=>S l) (by rw [ji hi];simp)) ?_
   exact aW (i + 1) oM oM tU F aX
  ·have hin : i = ks.length:=oM
   subst hin
   repeat' (first | refine jR ?_ | (refine jo ?_;first | refine jV (aI F F aS F F) ?_ | refine jV (aw F) ?_) | refine ad F (aC oM) ?_)
   refine jY (vs:=[_]) ?_
   rw [ar,V.bys,← gH,List.take_length];rfl
 | non k b h1 =>
  intro _ _
  refine jE [(0,_)] Tryz.func20 Tryz.ntmps20 fun B hB=>?_
  repeat' (first | refine jX ?_ | (refine jo ?_;first | refine jV (aI F F aS F F) ?_ | refine jF fun _=>?_ | refine jV (en F F (by (repeat (first | exact BL.nil | apply BL.lit rfl));done)) ?_ | refine jV (aw F) ?_) | refine ac F F ?_ | refine ad F F ?_)
  refine jY (vs:=[_]) ?_
  rfl
 | opt k b kb b' cc v h0 h1 h2 h3 ih =>
  intro hwf ht
  simp only [cX,V.tots] at ht
  have hwv:=(j3 hwf).1
  have cx_bys:=ih hwv oM
  have hbl:=iy _ hwv oM
  refine jE [(0,_)] Tryz.func20 Tryz.ntmps20 fun B hB=>?_
  repeat' (first | refine jX ?_ | (refine jo ?_;first | refine jV (aI F F aS F F) ?_ | refine jV (aw F) ?_) | refine ac F F ?_ | refine ad F F ?_ | (refine ai (an (id:=19) _ (fun _ h=>h) ah ?_);refine jT 8 [2,3,4] (aa 11 28) ?_;(refine jG (aa 11 60) 5 F (aI F F aS F F) ?_);(refine jG (aa 11 124) 6 F (a9 F F oM) ?_);(refine jG (aa 11 252) 7 F (aI F F aS F F) ?_);refine dy [0,8] kR dC ⟨?_,?_,trivial⟩;(focus (refine bY F F ?_;(refine jF fun _=>?_);refine jS (aa 11 253) ?_;((refine jG (aa 11 255) 1 F (en F F (by (repeat (first | exact BL.nil | apply BL.lit rfl));done)) ?_));refine jA 8 F ?_;(refine ab F F F cx_bys F ?_);refine jS (aa 11 511) ?_;refine jW 0 [9,10] (aa 11 2047) ?_;refine jQ ?_));rotate_left 1;(focus (refine bY F F ?_;(refine ab F F F cx_bys F ?_);refine jS (aa 11 508) ?_;refine jA 0 F ?_;(refine jF fun _=>?_);refine jS (aa 11 509) ?_;((refine jG (aa 11 511) 1 F (en F F (by (repeat (first | exact BL.nil | apply BL.lit rfl));done)) ?_));refine jW 0 [9,10] (aa 11 2047) ?_;refine jQ ?_));rotate_left 1))
  all_goals refine jY (vs:=[_]) ?_
  all_goals (rw [ar,V.bys];simp [fT,V.byss];rfl)
 | recd k b t fs bs a a2 c c2 h0 h1 h2 h3 h4 h5 hk ih =>
  intro hwf ht
  obtain ⟨r,rfl⟩:=fX h0.1
  rw [cX] at ht
  have hwk:=j3 hwf
  have hml : (fs.map (fun p : Fld × V=>V.nd 61 [] p.1.tag [p.2])).length = fs.length:=by simp
  have hnt : ∀ i,i < fs.length → ae (fs.map (fun p : Fld × V=>V.nd 61 [] p.1.tag [p.2])) i = V.nd 61 [] (ae fs i).1.tag [(ae fs i).2]:=fun i hi=>by rw [a6 (by simpa using hi),a6 hi];simp
  generalize hKS : fs.map (fun p : Fld × V=>V.nd 61 [] p.1.tag [p.2]) = KS at *
  have hfl:=gW KS hwk oM
  refine (vv (tx:=[82]) (KS:=KS) hml.symm (by have:=dT KS;omega) (.inl rfl) h1 h2 h3 (by simp) h4 oM fun i hi=>?_).mono fun v _ _ hv=>?_
  ·have hti:=fU (ks:=KS) (i:=i) oM
   have hwi:=qh hwk (i:=i) oM
   rw [hnt i hi] at hti hwi
   simp only [cX,V.tots] at hti
   have hwv:=(j3 hwi).1
   have hbl:=iy _ hwv oM
   have htn : ae (fs.map fun p : Fld × V=>p.1.tag) i = (ae fs i).1.tag:=by rw [a6 (by simpa using hi),a6 hi];simp
   exact ⟨(ae fs i).2,by rw [hnt i hi,htn],ih i hi hwv oM,oM,by rw [htn];exact (fF hw h0.1 (h5 i hi)).symm⟩
  ·obtain ⟨g1,g2,hv⟩:=hv;exact ⟨g1,g2,by rw [hv,V.bys];rfl⟩
 | enm k b tgb t d h0 h1 h2 h3 =>
  intro _ _
  obtain ⟨r,rfl⟩:=fX h0.1
  have htg:=fF hw h0.1 h1
  have hn3:=cd (n:=d.tag) oM
  refine jE [(0,_)] Tryz.func20 Tryz.ntmps20 fun B hB=>?_
  repeat' (first | refine jX ?_ | (refine jo ?_;refine jV (aI F F aS F F) ?_) | refine ad F F ?_)
  refine Nx.re (d:=7) (v':=S ((bi d.tag).take (0 * (bi d.tag).length))) F (congrArg (fun l=>S l) (by simp)) ?_
  refine aR (ι:=Nat) (fun i=>i ≤ 1) (fun i=>[(0,Pt b 0),(7,S ((bi d.tag).take (i * (bi d.tag).length))),(8,I i)]) (fun _=>G) (fun i=>[]) (fun i=>1 - i) 0 ?_ tU F aX (fun i Hi=>?_)
  ·exact Nat.zero_le _
  have hi2 : i = 0 ∨ i = 1:=oM
  rcases hi2 with rfl | rfl
  ·rw [Nat.zero_mul,List.take_zero]
   repeat' (first | refine jX ?_ | (refine jo ?_;first | refine jV (aI F F aS F F) ?_ | refine jV (aw F) ?_ | refine jV (ax F F oM) ?_ | refine ab F F F (f7 oM) F ?_) | refine ac F F ?_ | refine ad F F ?_)
   refine Nx.re (d:=7) (v':=S ((bi d.tag).take (1 * (bi d.tag).length))) F (congrArg (fun l=>S l) (by simp)) ?_
   exact aW 1 oM oM tU F aX
  ·rw [Nat.one_mul,List.take_length]
   repeat' (first | refine jR ?_ | (refine jo ?_;first | refine jV (aI F F aS F F) ?_ | refine jV (aw F) ?_) | refine ad F F ?_)
   refine jY (vs:=[_]) ?_
   rw [ar,V.bys];rfl
 | uni k b tgb kb b' cc t d v hcc h0 h1 h2 h3 h4 hk ih =>
  intro hwf ht
  obtain ⟨r,rfl⟩:=fX h0.1
  have htg:=fF hw h0.1 h1
  simp only [cX,V.tots] at ht
  have hwv:=(j3 hwf).1
  have hbl:=iy _ hwv oM
  have hn3:=cd (n:=d.tag) oM
  have hn4:=cd (n:=(v.bys.length : Nat)) oM
  have hub : (V.nd 61 [] d.tag [v]).bys = bi d.tag ++ (bi v.bys.length ++ v.bys):=by rw [V.bys];simp [V.byss,fT]
  refine (vv (tx:=[85]) (KS:=[V.nd 61 [] d.tag [v]]) (tg:=[d.tag]) (bs:=[b']) F (by simp) (.inr F) h2 (w5 h3) (vJ hcc h4) F F ?_ fun i hi=>?_).mono fun u _ _ hu=>?_
  ·simp only [V.byss,List.flatten_cons,List.flatten_nil,List.append_nil,hub,List.length_append];omega
  ·have : i = 0:=by have h9 : i < 1:=hi;omega
   subst this
   exact ⟨v,F,ih hwv oM,oM,htg.symm⟩
  ·obtain ⟨g1,g2,hu⟩:=hu;exact ⟨g1,g2,by rw [hu,V.bys];simp [V.byss,fT,hub]⟩
def l7 (s k w : abL) : Option abL:=match gR s k w with
 | some u=>if u.bys.length ≤ 600 then some u.bys else none
 | none=>none
theorem tD {s k w : abL} {u : V} (hg : gR s k w = some u) : ∃ ts,aN s = some ts ∧ aP ts k = true ∧ cj ts k w = some u ∧ u.tot ≤ 40000 ∧ u.wf:=by
 obtain ⟨ts,hs,hki,hvo⟩ : ∃ ts,aN s = some ts ∧ aP ts k = true ∧ cj ts k w = some u:=by
  unfold gR at hg
  cases hs : aN s with
  | none=>rw [hs] at hg;cases hg
  | some ts =>
   rw [hs] at hg
   dsimp only at hg
   by_cases hk : aP ts k = true
   ·rw [if_pos hk] at hg;exact ⟨ts,F,hk,hg⟩
   ·rw [if_neg hk] at hg;cases hg
 refine ⟨ts,hs,hki,hvo,?_,(qi hvo).1⟩
 unfold cj at hvo
 split at hvo
 ·split at hvo
  ·rename_i v hv
   obtain rfl:=Option.some.inj hvo
   have:=iG _ _ _ _ hv
   dsimp only at this;omega
  ·cases hvo
 ·cases hvo
theorem pY {c : VC} {b : abL} (cx_bys : am abK 101 [Ag (b6 c)] G (· = S b)) : am abK 66 [Ag (b6 c)] G (· = Tu [S (if b.length ≤ 600 then b else []),Bo (decide (b.length ≤ 600))]):=by
 simp only [b6,VC.sl] at *
 by_cases h6 : b.length ≤ 600
 ·rw [if_pos h6,decide_eq_true h6]
  refine jE [(0,_)] Tryz.func66 Tryz.ntmps66 fun B hB=>?_
  repeat' (first | refine jR ?_ | (refine jo ?_;first | refine jO fun _=>?_ | refine aG F ?_ | refine ab F F F cx_bys F ?_) | refine ad F (aC oM) ?_)
  all_goals refine jY (vs:=[_,_]) ?_
  all_goals rfl
 ·rw [if_neg h6,decide_eq_false h6]
  refine jE [(0,_)] Tryz.func66 Tryz.ntmps66 fun B hB=>?_
  repeat' (first | refine jR ?_ | (refine jo ?_;first | refine jO fun _=>?_ | refine aG F ?_ | refine ab F F F cx_bys F ?_) | refine ac F (ay oM) ?_)
  all_goals refine jY (vs:=[_,_]) ?_
  all_goals rfl
theorem r4 {s k w : abL} (h : s.length ≤ 1048576 ∧ k.length ≤ 1048576 ∧ w.length ≤ 1048576) : am abK 25 [S s,S k,S w] G (· = Tu [S ((l7 s k w).getD []),Bo (l7 s k w).isSome]):=by
 unfold l7
 cases hg : gR s k w with
 | none =>
  have cx_gi0:=wk (G:=G) h hg
  refine jB (Post:=fun v G' L'=>G' = G ∧ L' = [] ∧ _) [(0,_),(1,_),(2,_)] Tryz.func25 Tryz.ntmps25 fun B hok hB hW=>?_
  repeat' (first | refine jR ?_ | (refine jo ?_;first | refine jL fun _=>?_ | refine jC F F F ?_ | (refine aJ F F F cx_gi0 F ?_;rintro _ G hle ⟨p1,a1,b1,c1,rfl⟩;skip)) | refine ac F F ?_)
  all_goals refine Nx.base hok hB ?_
  all_goals refine jY (vs:=[_,_]) ?_
  all_goals rfl
 | some u =>
  obtain ⟨ts,hs,hki,hvo,hto,hwf⟩:=tD hg
  have cx_gi1:=wj (G:=G) h hs hki hvo
  dsimp only
  have cy_bys : ∀ {G : Gh} {c : VC},V.rep G u c → am abK 101 [Ag (b6 c)] G (· = S u.bys):=fun h=>aaY u.tot (Nat.le_refl _) oM hwf h
  generalize u.bys = ub at *
  by_cases h6 : ub.length ≤ 600
  ·rw [if_pos h6]
   refine jB (Post:=fun v G' L'=>G' = G ∧ L' = [] ∧ _) [(0,_),(1,_),(2,_)] Tryz.func25 Tryz.ntmps25 fun B hok hB hW=>?_
   repeat' (first | refine jR ?_ | (refine jo ?_;first | refine jL fun _=>?_ | refine jC F F F ?_ | refine aG F ?_ | (refine aJ F F F cx_gi1 F ?_;rintro _ G hle ⟨bg,qg,cv,rfl,hTg,hRg,hrv⟩;skip)) | refine ad F F ?_)
   have cx_tb:=pY (G:=G) (cy_bys hrv)
   rw [if_pos h6,decide_eq_true h6] at cx_tb
   repeat' (first | refine jR ?_ | (refine jo ?_;refine ab F F F cx_tb F ?_))
   all_goals refine Nx.base hok hB ?_
   all_goals refine jY (vs:=[_,_]) ?_
   all_goals rfl
  ·rw [if_neg h6]
   refine jB (Post:=fun v G' L'=>G' = G ∧ L' = [] ∧ _) [(0,_),(1,_),(2,_)] Tryz.func25 Tryz.ntmps25 fun B hok hB hW=>?_
   repeat' (first | refine jR ?_ | (refine jo ?_;first | refine jL fun _=>?_ | refine jC F F F ?_ | refine aG F ?_ | (refine aJ F F F cx_gi1 F ?_;rintro _ G hle ⟨bg,qg,cv,rfl,hTg,hRg,hrv⟩;skip)) | refine ad F F ?_)
   have cx_tb:=pY (G:=G) (cy_bys hrv)
   rw [if_neg h6,decide_eq_false h6] at cx_tb
   repeat' (first | refine jR ?_ | (refine jo ?_;refine ab F F F cx_tb F ?_))
   all_goals refine Nx.base hok hB ?_
   all_goals refine jY (vs:=[_,_]) ?_
   all_goals rfl
def gg (s k b : abL) : Option V:=match aN s with
 | some ts=>if aP ts k = true ∧ b.length ≤ 600 then (match cG (rb ts 12) k b with
  | some v=>if v.out.length ≤ 400 then some v else none
  | none=>none) else none
 | none=>none
def g7 (s k b : abL) : Option V:=match aN s with
 | some ts=>if aP ts k = true ∧ b.length ≤ 600 then (match cG (rb ts 13) k b with
  | some v=>if v.out.length ≤ 400 ∧ v.deep ≤ 12 then some v else none
  | none=>none) else none
 | none=>none
def cB (s k b : abL) : Option V:=match aN s with
 | some ts=>if aP ts k = true ∧ b.length ≤ 600 then iS ts k b else none
 | none=>none
theorem o9 {s k b : abL} {v : V} (h : gg s k b = some v) : ∃ ts,aN s = some ts ∧ aP ts k = true ∧ b.length ≤ 600 ∧ cG (rb ts 12) k b = some v ∧ v.out.length ≤ 400:=by
 unfold gg at h
 split at h
 ·rename_i ts hs
  split at h
  ·rename_i hk
   split at h
   ·rename_i u hu
    split at h
    ·cases h;exact ⟨ts,hs,hk.1,hk.2,hu,by assumption⟩
    ·cases h
   ·cases h
  ·cases h
 ·cases h
theorem pa {s k b : abL} {v : V} (h : g7 s k b = some v) : ∃ ts,aN s = some ts ∧ aP ts k = true ∧ b.length ≤ 600 ∧ cG (rb ts 13) k b = some v ∧ v.out.length ≤ 400 ∧ v.deep ≤ 12:=by
 unfold g7 at h
 split at h
 ·rename_i ts hs
  split at h
  ·rename_i hk
   split at h
   ·rename_i u hu
    split at h
    ·rename_i hc
     cases h;exact ⟨ts,hs,hk.1,hk.2,hu,hc.1,hc.2⟩
    ·cases h
   ·cases h
  ·cases h
 ·cases h
theorem pX {s k b : abL} {v : V} (h : cB s k b = some v) : ∃ ts,aN s = some ts ∧ aP ts k = true ∧ b.length ≤ 600 ∧ OfK ts k v ∧ v.deep ≤ 12 ∧ v.out.length ≤ 400 ∧ v.bys = b:=by
 unfold cB at h
 split at h
 ·rename_i ts hs
  split at h
  ·rename_i hk
   obtain ⟨h1,h2,h3,h4⟩:=(oC (cU hs) oM).1 h
   exact ⟨ts,hs,hk.1,hk.2,h1,h2,h3,h4⟩
  ·cases h
 ·cases h
theorem om {s k b : abL} {v : V} (h : gg s k b = some v) : cB s k b = if v.bys = b then some v else none:=by
 obtain ⟨ts,hs,hk,hb,hr,ho⟩:=o9 h
 have hr2:=cE hr
 unfold cB iS
 rw [hs]
 dsimp only
 rw [if_pos ⟨hk,hb⟩,hr2]
 dsimp only
 by_cases h1 : v.bys = b
 ·rw [if_pos h1,if_pos ⟨h1,ho⟩]
 ·rw [if_neg h1,if_neg fun h=>h1 h.1]
theorem sC {s k b : abL} (h : gg s k b = none) : cB s k b = none:=by
 cases hc : cB s k b with
 | none=>rfl
 | some v =>
  obtain ⟨ts,hs,hk,hb,h1,h2,h3,rfl⟩:=pX hc
  have:=nY (cU hs) 12 h1 h2 oM []
  rw [List.append_nil] at this
  unfold gg at h
  rw [hs] at h
  dsimp only at h
  rw [if_pos ⟨hk,hb⟩,fR this] at h
  dsimp only at h
  rw [if_pos h3] at h
  cases h
theorem tO {s k b : abL} {v : V} (h : cB s k b = some v) : gg s k b = some v:=by
 cases hg : gg s k b with
 | none=>rw [sC hg] at h;cases h
 | some u =>
  rw [om hg] at h
  split at h
  ·exact h
  ·cases h
theorem tE {s k b : abL} {v : V} (h : g7 s k b = some v) : cB s k b = if v.bys = b then some v else none:=by
 obtain ⟨ts,hs,hk,hb,hr,ho,hd⟩:=pa h
 have hr2:=cE hr
 unfold cB
 rw [hs]
 dsimp only
 rw [if_pos ⟨hk,hb⟩]
 by_cases h1 : v.bys = b
 ·rw [if_pos h1]
  exact (ra (cU hs) oM).2 ⟨hr2,hd,ho,h1⟩
 ·rw [if_neg h1]
  cases hc : iS ts k b with
  | none=>rfl
  | some u =>
   obtain ⟨g1,g2,g3,g4⟩:=(ra (cU hs) oM).1 hc
   rw [hr2] at g1
   simp only [Option.some.injEq,Prod.mk.injEq,and_true] at g1
   subst g1
   exact absurd g4 h1
theorem kY {s k b : abL} {v : V} (h : cB s k b = some v) : g7 s k b = some v:=by
 obtain ⟨ts,hs,hk,hb,h1,h2,h3,rfl⟩:=pX h
 have:=nY (cU hs) 13 h1 oM oM []
 rw [List.append_nil] at this
 unfold g7
 rw [hs]
 dsimp only
 rw [if_pos ⟨hk,hb⟩,fR this]
 dsimp only
 rw [if_pos ⟨h3,h2⟩]
theorem xf {s k b : abL} (h : g7 s k b = none) : cB s k b = none:=by
 cases hc : cB s k b with
 | none=>rfl
 | some v=>rw [kY hc] at h;cases h
theorem vP {s k : abL} {v : V} {ts : List Ty} (hs : aN s = some ts) (hk : aP ts k = true) (h : OfK ts k v) (hd : v.deep ≤ 12) (ho : v.out.length ≤ 400) : gR s k v.out = some v:=by
 unfold gR
 rw [hs]
 dsimp only
 rw [if_pos hk]
 exact m4 (cU hs) h ho hd
theorem r6 {s k : abL} {v : V} {ts : List Ty} (hs : aN s = some ts) (hk : aP ts k = true) (h : OfK ts k v) (hd : v.deep ≤ 12) (ho : v.out.length ≤ 400) : l7 s k v.out = if v.bys.length ≤ 600 then some v.bys else none:=by
 unfold l7
 rw [vP hs hk h hd ho]
theorem vl {v : V} {c : VC} (h : V.rep G v c) (ht : v.tot ≤ 1000000) : am abK 94 [Ag (b6 c)] G (· = Bo (decide (v.out.length ≤ 400 ∧ v.deep ≤ 12))):=by
 have cx_pr:=mv (G:=G) v.tot (Nat.le_refl _) ht h
 have cx_dp:=vn (G:=G) v.tot (Nat.le_refl _) ht h
 have hdl:=nq v
 obtain ⟨w,tx,tg,a,m,kc⟩:=c
 have e0 : b6 ⟨w,tx,tg,a,m,kc⟩ = [U8 (w : Nat),S tx,I tg,.slice a m kc]:=rfl
 rw [e0] at cx_pr cx_dp ⊢
 by_cases h1 : v.out.length ≤ 400
 ·by_cases h2 : v.deep ≤ 12
  ·rw [decide_eq_true (p:=v.out.length ≤ 400 ∧ v.deep ≤ 12) ⟨h1,h2⟩]
   refine jE [(0,_)] Tryz.func94 Tryz.ntmps94 fun B hB=>?_
   repeat' (first | refine jR ?_ | (refine jo ?_;first | refine jO fun _=>?_ | refine aG F ?_ | refine aL F ?_ | refine ab F F F cx_pr F ?_ | refine ab F F F cx_dp F ?_) | refine aD F F (ay oM) ?_)
   all_goals refine jY (vs:=[_]) ?_
   all_goals (rw [ar,decide_eq_true oM])
  ·rw [decide_eq_false (p:=v.out.length ≤ 400 ∧ v.deep ≤ 12) (fun h=>h2 h.2)]
   refine jE [(0,_)] Tryz.func94 Tryz.ntmps94 fun B hB=>?_
   repeat' (first | refine jR ?_ | (refine jo ?_;first | refine jO fun _=>?_ | refine aG F ?_ | refine aL F ?_ | refine ab F F F cx_pr F ?_ | refine ab F F F cx_dp F ?_) | refine aD F F (ay oM) ?_)
   all_goals refine jY (vs:=[_]) ?_
   all_goals (rw [ar,decide_eq_false oM])
 ·rw [decide_eq_false (p:=v.out.length ≤ 400 ∧ v.deep ≤ 12) (fun h=>h1 h.1)]
  refine jE [(0,_)] Tryz.func94 Tryz.ntmps94 fun B hB=>?_
  repeat' (first | refine jR ?_ | (refine jo ?_;first | refine jO fun _=>?_ | refine aG F ?_ | refine av F ?_ | refine ab F F F cx_pr F ?_) | refine al F F (aC oM) ?_)
  all_goals refine jY (vs:=[_]) ?_
  all_goals rfl
theorem rk {u : Value} {vs : List b8} (hw : SchW (ag vs)) (h : SchR G u vs) {k s : abL} (hki : aP (ag vs) k = true) :
  bA abK 53 [u,S k,S s] G (fun r _=>r = Tu [S (if (cj (ag vs) k s).isSome = true then s else []),Bo (cj (ag vs) k s).isSome]):=by
 obtain ⟨ua,uc,rfl⟩:=h.sl.sl
 by_cases hl : s.length ≤ 400
 ·have cx_rd:=pu (u:=.slice ua vs.length uc) (vs:=vs) hw 12 oM G k s h hki oM
  have hvo : cj (ag vs) k s = match rd (ag vs) 12 k s with
   | some (v,[])=>some v
   | _=>none:=by
   unfold cj;rw [if_pos hl]
   all_goals (rcases rd (ag vs) 12 k s with _ | ⟨v,_ | _⟩ <;> rfl)
  refine jB [(0,_),(1,_),(2,_)] Tryz.func53 Tryz.ntmps53 fun B hok hB hW=>?_
  repeat' (first | refine jR ?_ | (refine jo ?_;first | refine jV (ao F F) ?_ | refine aL F ?_ | refine av F ?_ | (refine aJ F F F cx_rd F ?_;rintro _ G hle ⟨q1,r1,ok1,rfl,hyes,hno⟩;skip)) | refine kG F F (fun _=>?_) (fun _=>?_) | refine ac F F ?_ | refine ad F (aC oM) ?_ | refine cT F (fun _=>?_) (fun _=>?_))
  all_goals refine jZ (vs:=[_,_]) F ⟨F,F,trivial⟩ F ⟨hle,F,?_⟩
  ·rename_i hz
   rw [hno (by simpa using hz)] at hvo
   rw [hvo];rfl
  ·rename_i hz hr
   obtain ⟨w,b,rfl,hf,hrep⟩:=hyes (by simpa using hz)
   rw [hf] at hvo
   have hvo2 : cj (ag vs) k s = none:=by
    rw [hvo]
    cases r1 with
    | nil=>exact absurd F hr
    | cons c r=>rfl
   rw [hvo2];rfl
  ·rename_i hz hr
   obtain ⟨w,b,rfl,hf,hrep⟩:=hyes (by simpa using hz)
   obtain rfl : r1 = []:=by simpa using hr
   rw [hf] at hvo
   rw [hvo];rfl
 ·have hvo : cj (ag vs) k s = none:=by unfold cj;rw [if_neg hl]
  rw [hvo]
  refine jB [(0,_),(1,_),(2,_)] Tryz.func53 Tryz.ntmps53 fun B hok hB hW=>?_
  repeat' (first | refine jR ?_ | refine ac F (ay oM) ?_)
  all_goals refine jZ (vs:=[_,_]) F ⟨F,F,trivial⟩ F ⟨Gh.le.refl _,F,?_⟩
  all_goals rfl
def i5 (o : Option abL) : Value:=Tu [S (o.getD []),Bo o.isSome]
theorem wm {sc : Nat} {qs : List cx} {k b : abL} (hS : ScI G sc qs) (hw : SchW (ak qs)) (hk : aP (ak qs) k = true) (hb : b.length ≤ 1048576) (hno : ¬ (b.length ≤ 600 ∧ ∃ v,cG (rb (ak qs) 13) k b = some v ∧ v.out.length ≤ 400 ∧ v.deep ≤ 12)) :
  bA abK 60 [Pt sc 0,Ag [S (sg k),S (bs k),S (nm k)],S b] G (fun v _=>∃ a n c,v = Tu [Ag [U8 (0 : Nat),S [],I 0,aK],.slice a n c,Bo false]):=by
 by_cases hl : b.length ≤ 600
 case neg =>
  refine jB [(0,_),(1,_),(2,_)] Tryz.func60 Tryz.ntmps60 fun B hok hB hW=>?_
  repeat' (first | refine jR ?_ | (refine jo ?_;first | refine jO fun _=>?_ | refine jL fun _=>?_ | refine jV (ao F F) ?_ | refine jC F F F ?_) | refine ac F (ay oM) ?_)
  all_goals refine jZ (vs:=[_,_,_]) F ⟨aE F F F F,F,F,trivial⟩ F ⟨Gh.le.refl _,F,?_⟩
  all_goals exact ⟨_,_,_,F⟩
 refine jB [(0,_),(1,_),(2,_)] Tryz.func60 Tryz.ntmps60 fun B hok hB hW=>?_
 repeat' (first | refine jR ?_ | (refine jo ?_;first | refine jO fun _=>?_ | refine jL fun _=>?_ | refine jV (ao F F) ?_ | refine aG F ?_) | refine ad F (aC oM) ?_)
 rename_i x4 x6 y
 have hv:=oT (sc:=sc) hw 13 (Nat.le_refl _) G y k b false hS hk oM
 rw [show (13 : Int) - ((13 : Nat) : Int) = 0 from rfl] at hv
 refine jo ?_
 refine dI F F F hv F ?_
 rintro _ G1 _ hle ⟨u1,c1,t1,b1,a1,n1,k1,rfl,hrep,rfl,hsk,hP⟩
 dsimp only [zA,fA]
 obtain ⟨hQ1,hQ2,hQ3⟩:=j5 hP
 clear hv hP
 cases b1 with
 | true =>
  repeat' (first | refine jR ?_ | (refine jo ?_;first | refine jL fun _=>?_ | refine jV (ao F F) ?_ | refine jC F F F ?_ | refine aj F ?_ | refine aL F ?_) | refine aD F F F ?_ | refine ac F F ?_)
  all_goals refine jZ (vs:=[_,_,_]) F ⟨aE F F F F,F,F,trivial⟩ F ⟨hle,F,?_⟩
  all_goals exact ⟨_,_,_,F⟩
 | false =>
  obtain ⟨h1,h2,h3⟩:=hQ2 rfl
  cases t1 with
  | cons e t1 =>
   repeat' (first | refine jR ?_ | (refine jo ?_;first | refine jL fun _=>?_ | refine jV (ao F F) ?_ | refine jC F F F ?_ | refine aj F ?_ | refine aL F ?_ | refine av F ?_) | refine aD F F F ?_ | refine al F F F ?_ | refine ac F F ?_)
   all_goals refine jZ (vs:=[_,_,_]) F ⟨aE F F F F,F,F,trivial⟩ F ⟨hle,F,?_⟩
   all_goals exact ⟨_,_,_,F⟩
  | nil =>
   simp only [List.length_nil] at h2
   have hnf : ¬ (u1.out.length ≤ 400 ∧ u1.deep ≤ 12):=fun h=>hno ⟨hl,u1,fR h1,h⟩
   have cx_fit:=vl hrep oM
   rw [decide_eq_false hnf] at cx_fit
   simp only [b6,VC.sl] at cx_fit
   dsimp only [b6,VC.sl]
   repeat' (first | refine jR ?_ | (refine jo ?_;first | refine jL fun _=>?_ | refine jV (ao F F) ?_ | refine jC F F F ?_ | refine aj F ?_ | refine aG F ?_ | refine av F ?_ | refine ab F F F cx_fit F ?_) | refine al F F F ?_ | refine ac F F ?_)
   all_goals refine jZ (vs:=[_,_,_]) F ⟨aE F F F F,F,F,trivial⟩ F ⟨hle,F,?_⟩
   all_goals exact ⟨_,_,_,F⟩
theorem wl {sc : Nat} {qs : List cx} {k b : abL} {v : V} (hS : ScI G sc qs) (hw : SchW (ak qs)) (hk : aP (ak qs) k = true) (hl : b.length ≤ 600) (hv : cG (rb (ak qs) 13) k b = some v) (ho : v.out.length ≤ 400) (hd : v.deep ≤ 12) :
  bA abK 60 [Pt sc 0,Ag [S (sg k),S (bs k),S (nm k)],S b] G (fun r G'=>∃ c a n k',r = Tu [Ag (b6 c),.slice a n k',Bo true] ∧ V.rep G' v c):=by
 have hin:=cE hv
 refine jB [(0,_),(1,_),(2,_)] Tryz.func60 Tryz.ntmps60 fun B hok hB hW=>?_
 repeat' (first | refine jR ?_ | (refine jo ?_;first | refine jO fun _=>?_ | refine jL fun _=>?_ | refine jV (ao F F) ?_ | refine aG F ?_) | refine ad F (aC oM) ?_)
 rename_i x4 x6 y
 have hv2:=oT (sc:=sc) hw 13 (Nat.le_refl _) G y k b false hS hk oM
 rw [show (13 : Int) - ((13 : Nat) : Int) = 0 from rfl] at hv2
 refine jo ?_
 refine dI F F F hv2 F ?_
 rintro _ G1 _ hle ⟨u1,c1,t1,b1,a1,n1,k1,rfl,hrep,rfl,hsk,hP⟩
 dsimp only [zA,fA]
 obtain ⟨hQ1,hQ2,hQ3⟩:=j5 hP
 clear hv2 hP
 cases b1 with
 | true=>have:=hQ3 rfl;rw [hin] at this;cases this
 | false =>
  obtain ⟨h1,h2,h3⟩:=hQ2 rfl
  rw [hin] at h1
  simp only [Option.some.injEq,Prod.mk.injEq] at h1
  obtain ⟨rfl,rfl⟩:=h1
  simp only [List.length_nil] at h2
  have cx_fit:=vl hrep oM
  rw [decide_eq_true ⟨ho,hd⟩] at cx_fit
  simp only [b6,VC.sl] at cx_fit
  dsimp only [b6,VC.sl]
  repeat' (first | refine jR ?_ | (refine jo ?_;first | refine jL fun _=>?_ | refine jC F F F ?_ | refine aj F ?_ | refine aG F ?_ | refine av F ?_ | refine ab F F F cx_fit F ?_) | refine al F F F ?_ | refine ad F F ?_ | (refine ai (dL (id:=7) (tt:=6) F ah ?_);refine jW 5 [1,2,3] (aa 8 14) ?_;(refine jG (aa 8 15) 0 F (bq F F F F) ?_);(refine jG (aa 8 31) 4 F (aq F F F) ?_);refine jA 5 F ?_;(refine jC F F F ?_);refine jK (aa 8 63) ?_;refine jW 0 [6,7] (aa 8 255) ?_;refine jQ ?_))
  all_goals refine jZ (vs:=[_,_,_]) F ⟨aE F F F F,F,F,trivial⟩ F ⟨hle,F,?_⟩
  all_goals exact ⟨c1,_,_,_,F,hrep⟩
theorem yK {s k b : abL} (h : bV s k = false) : g7 s k b = none:=by
 unfold g7
 unfold bV at h
 cases hs : aN s with
 | none=>rfl
 | some ts=>rw [hs] at h;dsimp only at h ⊢;rw [if_neg (by rw [h];simp)]
theorem j0 {s k b : abL} (h : s.length ≤ 1048576 ∧ k.length ≤ 1048576 ∧ b.length ≤ 1048576) : am abK 22 [S s,S k,S b] G (· = i5 ((g7 s k b).map V.out)):=by
 by_cases hk : bV s k = true
 case neg =>
  have hk2 : bV s k = false:=by simpa using hk
  have cx_bo1 : ∀ G,bA abK 59 [S s,S k] G (fun v _=>∃ p a b c,v = Tu [p,Ag [S a,S b,S c],Bo false]):=fun G=>by
   refine (iY (G:=G) (s:=s) (k:=k) oM oM).mono ?_
   rintro v G' L' ⟨h1,h2,⟨h4,p,a,b,c,rfl⟩ | ⟨b,qs,rfl,h4,h5,h6⟩⟩
   ·exact ⟨h1,h2,p,a,b,c,F⟩
   ·unfold bV at hk;rw [h4] at hk;exact absurd h5 hk
  rw [yK hk2]
  refine jB (Post:=fun v G' L'=>G' = G ∧ L' = [] ∧ _) [(0,_),(1,_),(2,_)] Tryz.func22 Tryz.ntmps22 fun B hok hB hW=>?_
  repeat' (first | refine jR ?_ | (refine jo ?_;first | refine jL fun _=>?_ | refine jC F F F ?_ | (refine aJ F F F (cx_bo1 _) F ?_;rintro _ G hle ⟨p1,a1,b1,c1,rfl⟩;skip)) | refine ac F F ?_)
  all_goals refine Nx.base hok hB ?_
  all_goals refine jY (vs:=[_,_]) ?_
  all_goals rfl
 case pos =>
  obtain ⟨ts,hs,hki⟩ : ∃ ts,aN s = some ts ∧ aP ts k = true:=by
   unfold bV at hk
   cases hs : aN s with
   | none=>rw [hs] at hk;cases hk
   | some ts=>rw [hs] at hk;exact ⟨ts,F,hk⟩
  have hw:=cU hs
  have cx_boa : ∀ G,bA abK 59 [S s,S k] G (fun v G'=>∃ b qs,v = Tu [Pt b 0,Ag [S (sg k),S (bs k),S (nm k)],Bo true] ∧ ak qs = ts ∧ ScI G' b qs):=fun G=>by
   refine (iY (G:=G) (s:=s) (k:=k) oM oM).mono ?_
   rintro v G' L' ⟨h1,h2,⟨h4,_⟩ | ⟨b,qs,rfl,h4,h5,h6⟩⟩
   ·rw [h4] at hk;cases hk
   ·rw [hs] at h4;exact ⟨h1,h2,b,qs,F,(Option.some.inj h4).symm,h6⟩
  cases hg : g7 s k b with
  | none =>
   refine jB (Post:=fun v G' L'=>G' = G ∧ L' = [] ∧ _) [(0,_),(1,_),(2,_)] Tryz.func22 Tryz.ntmps22 fun B hok hB hW=>?_
   repeat' (first | refine jR ?_ | (refine jo ?_;first | refine jL fun _=>?_ | refine jC F F F ?_ | refine aG F ?_ | (refine aJ F F F (cx_boa _) F ?_;rintro _ G hle ⟨ba,qa,rfl,hT1,hR1⟩;skip)) | refine ad F F ?_)
   subst hT1
   have cx_fb0:=wm (G:=G) (b:=b) hR1 hw hki oM (fun h=>by
    obtain ⟨a1,v,a2,a3⟩:=h
    unfold g7 at hg
    rw [hs] at hg
    dsimp only at hg
    rw [if_pos ⟨hki,a1⟩,a2] at hg
    dsimp only at hg
    rw [if_pos a3] at hg
    cases hg)
   repeat' (first | refine jR ?_ | (refine jo ?_;first | refine jL fun _=>?_ | refine jC F F F ?_ | (refine aJ F F F cx_fb0 F ?_;rintro _ G hle ⟨za,zn,zk,rfl⟩;skip)) | refine ac F F ?_)
   all_goals refine Nx.base hok hB ?_
   all_goals refine jY (vs:=[_,_]) ?_
   all_goals rfl
  | some v =>
   obtain ⟨ts',hs',_,hl,hr,ho,hd⟩:=pa hg
   obtain rfl : ts = ts':=by rw [hs] at hs';exact Option.some.inj hs'
   have htot:=iH _ _ _ _ _ (cE hr)
   simp only [List.length_nil] at htot
   refine jB (Post:=fun v G' L'=>G' = G ∧ L' = [] ∧ _) [(0,_),(1,_),(2,_)] Tryz.func22 Tryz.ntmps22 fun B hok hB hW=>?_
   repeat' (first | refine jR ?_ | (refine jo ?_;first | refine jL fun _=>?_ | refine jC F F F ?_ | refine aG F ?_ | (refine aJ F F F (cx_boa _) F ?_;rintro _ G hle ⟨ba,qa,rfl,hT1,hR1⟩;skip)) | refine ad F F ?_)
   subst hT1
   have cx_fb1:=wl (G:=G) (b:=b) hR1 hw hki hl hr ho hd
   clear hr
   unfold i5
   dsimp only [Option.map,Option.getD,Option.isSome]
   repeat' (first | refine jR ?_ | (refine jo ?_;first | refine jL fun _=>?_ | refine jC F F F ?_ | refine aG F ?_ | (refine aJ F F F cx_fb1 F ?_;rintro _ G hle ⟨c1,za,zn,zk,rfl,hrep⟩;skip)) | refine ad F F ?_)
   have cx_pr:=mv (G:=G) v.tot (Nat.le_refl _) oM hrep
   simp only [b6,VC.sl] at cx_pr
   generalize v.out = vo at cx_pr ⊢
   repeat' (first | refine jR ?_ | (refine jo ?_;refine ab F F F cx_pr F ?_))
   all_goals refine Nx.base hok hB ?_
   all_goals refine jY (vs:=[_,_]) ?_
   all_goals rfl
theorem lm {s k b : abL} (h : s.length ≤ 1048576 ∧ k.length ≤ 1048576 ∧ b.length ≤ 1048576) : am abK 23 [S s,S k,S b] G (· = Bo (cB s k b).isSome):=by
 have cx_bg1:=j0 (G:=G) h
 cases hg : g7 s k b with
 | none =>
  rw [hg] at cx_bg1
  unfold i5 at cx_bg1
  dsimp only [Option.map,Option.getD,Option.isSome] at cx_bg1
  rw [xf hg]
  refine jE [(0,_),(1,_),(2,_)] Tryz.func23 Tryz.ntmps23 fun B hB=>?_
  repeat' (first | refine jR ?_ | (refine jo ?_;refine ab F F F cx_bg1 F ?_) | refine ac F F ?_)
  all_goals refine jY (vs:=[_]) ?_
  all_goals rfl
 | some v =>
  obtain ⟨ts,hs,hki,hl,hr,ho,hd⟩:=pa hg
  rw [hg] at cx_bg1
  unfold i5 at cx_bg1
  dsimp only [Option.map,Option.getD,Option.isSome] at cx_bg1
  have hpb:=r6 hs hki (ky _ _ _ _ (cE hr)).1 hd ho
  have cx_bp1:=r4 (G:=G) (s:=s) (k:=k) (w:=v.out) oM
  rw [hpb] at cx_bp1
  have hcn:=tE hg
  clear hg hpb hr
  generalize v.out = vo at cx_bg1 cx_bp1
  by_cases h6 : v.bys.length ≤ 600
  ·rw [if_pos h6] at cx_bp1
   dsimp only [Option.getD,Option.isSome] at cx_bp1
   have hres : (cB s k b).isSome = decide (v.bys = b):=by
    rw [hcn]
    by_cases h1 : v.bys = b
    ·rw [if_pos h1,decide_eq_true h1];rfl
    ·rw [if_neg h1,decide_eq_false h1];rfl
   rw [hres]
   clear hres hcn
   generalize v.bys = vb at cx_bp1 ⊢
   refine jE [(0,_),(1,_),(2,_)] Tryz.func23 Tryz.ntmps23 fun B hB=>?_
   repeat' (first | refine jR ?_ | (refine jo ?_;first | refine aL F ?_ | refine ab F F F cx_bg1 F ?_ | refine ab F F F cx_bp1 F ?_) | refine aD F F F ?_ | refine ad F F ?_)
   all_goals refine jY (vs:=[_]) ?_
   all_goals rfl
  ·rw [if_neg h6] at cx_bp1
   dsimp only [Option.getD,Option.isSome] at cx_bp1
   rw [if_neg (fun h1=>by rw [h1] at h6;exact h6 hl)] at hcn
   rw [hcn]
   refine jE [(0,_),(1,_),(2,_)] Tryz.func23 Tryz.ntmps23 fun B hB=>?_
   repeat' (first | refine jR ?_ | (refine jo ?_;first | refine av F ?_ | refine ab F F F cx_bg1 F ?_ | refine ab F F F cx_bp1 F ?_) | refine al F F F ?_ | refine ad F F ?_)
   all_goals refine jY (vs:=[_]) ?_
   all_goals rfl
theorem vk {s : abL} (hs : s ≠ []) (hs2 : s.length ≤ 9000000000000000000) : am abK 103 [S s] G (· = Tu [S (cq s).1,I (cq s).2.1,Bo (cq s).2.2]):=by
 have h0:=List.length_pos_iff.2 hs
 refine jE [(0,_)] Tryz.func103 Tryz.ntmps103 fun B hB=>?_
 repeat' (first | refine jX ?_ | (refine jo ?_;first | (refine ab F F F (rY ?_) F ?_;(focus ((simp;omega);done))) | refine ab F F F fG F ?_) | refine cT F (fun _=>?_) (fun _=>?_) | refine kH F (fun _=>?_) (fun _=>?_))
 all_goals refine jY (vs:=[_,_,_]) ?_
 all_goals rw [aB]
 ·rw [xE aS];rfl
 ·rw [xD aS aS];rfl
 ·rw [xC aS aS aS];rfl
 ·rw [xB aS aS aS aS];rfl
 ·rw [xz aS aS aS aS aS];rfl
 ·rw [xy aS aS aS aS aS aS];rfl
 ·rw [xx aS aS aS aS aS aS];rfl
theorem l5 {s : abL} (hs : s.length ≤ 9000000000000000000) : bQ abK 69 [S s] G [] (fun v L'=>∃ u,v = Tu [u,I (ce s).2.1,S (ce s).2.2,Bo (decide (s.length ≤ 2000))] ∧ L' = [.acc u jv 1 (ce s).1.length (g6 (ce s).1)] ∧ p7 u (ce s).1.length):=by
 by_cases h : s.length ≤ 2000
 ·have e : ce s = fg s:=by rw [ce,if_pos h]
  rw [e,decide_eq_true h]
  refine jH [(0,_)] Tryz.func69 Tryz.ntmps69 fun B hB hW=>?_
  repeat' (first | refine jR ?_ | refine ad F (aC oM) ?_)
  refine Nx.addNil jv 1 ?_
  refine aR (ι:=Value × List abL × Nat × abL) (fun i=>i.2.1.length + i.2.2.1 + i.2.2.2.length ≤ 2000 ∧ (i.2.1 ++ (fg i.2.2.2).1,i.2.2.1 + (fg i.2.2.2).2.1,(fg i.2.2.2).2.2) = fg s) (fun i=>[(0,S i.2.2.2),(6,i.1),(7,I i.2.2.1)]) (fun _=>G) (fun i=>[.acc i.1 jv 1 i.2.1.length (g6 i.2.1)]) (fun i=>i.2.2.2.length) (aK,[],0,s) ?_ tU F aX (fun i hI=>?_)
  ·dsimp only;refine ⟨by simp;omega,by simp⟩
  ·obtain ⟨u,xs,j,t⟩:=i
   dsimp only at hI ⊢
   have hle:=xw t
   by_cases ht : t = []
   ·subst ht
    have e2 : fg s = (xs,j,[]):=by rw [← hI.2,ox];simp
    repeat' (first | refine jR ?_ | refine ad F F ?_)
    exact Nx.shp (.head _) fun hsh=>aZ (vs:=[_,_,_,_]) F ⟨F,F,F,F,trivial⟩ F (List.Sublist.refl _) ⟨F,u,by rw [e2];rfl,by rw [e2],by rw [e2];exact hsh⟩
   ·have hpos:=List.length_pos_iff.2 ht
    repeat' (first | refine jM ?_ | (refine jo ?_;first | refine jF fun _=>?_ | refine mz F F F F F F F F oM fun _=>?_ | (refine ab F F F (vk (by (repeat (assumption));done) oM) rfl ?_)) | refine ac F (ay ‹_›) ?_ | refine cT F (fun _=>?_) (fun _=>?_) | refine kH F (fun _=>?_) (fun _=>?_))
    ·rename_i hh _ _
     have e2:=oy ht oM
     refine aW (_,xs ++ [(cq t).1],j,t.drop (cq t).2.1) ?_ ?_ tU F (by dsimp only;simp only [i2,List.length_append,List.length_cons,List.length_nil,Nat.zero_add];repeat (first | exact List.nil_sublist _ | apply List.Sublist.cons_cons))
     ·dsimp only
      refine ⟨by simp;omega,?_⟩
      rw [← hI.2,e2];simp
     ·dsimp only;simp;omega
    ·rename_i hh hm
     have e2 : fg s = (xs,j,t):=by rw [← hI.2,qW ht oM hm];simp
     exact Nx.shp (.head _) fun hsh=>aZ (vs:=[_,_,_,_]) F ⟨F,F,F,F,trivial⟩ F (List.Sublist.refl _) ⟨F,u,by rw [e2];rfl,by rw [e2],by rw [e2];exact hsh⟩
    ·rename_i hh hm
     have e2:=pe ht oM hm
     refine aW (u,xs,j + 1,t.drop 1) ?_ ?_ tU F aX
     ·dsimp only
      refine ⟨by simp;omega,?_⟩
      rw [← hI.2,e2];simp;omega
     ·dsimp only;simp;omega
 ·have e : ce s = ([],0,[]):=by rw [ce,if_neg h]
  rw [e,decide_eq_false h]
  refine jH [(0,_)] Tryz.func69 Tryz.ntmps69 fun B hB hW=>?_
  repeat' (first | refine jR ?_ | refine ac F (ay oM) ?_)
  refine Nx.addNil jv 1 ?_
  exact aZ (vs:=[_,_,_,_]) F ⟨F,F,F,F,trivial⟩ F (List.Sublist.refl _) ⟨F,_,F,F,.inl ⟨F,F⟩⟩
theorem vh {s : abL} {top : Int} (hs : s.length ≤ 2) (ht : 0 ≤ top ∧ top ≤ 1000) : am abK 173 [S s,I top] G (fun v=>∃ gb,v = Bo gb):=by
 refine jE [(0,_),(1,_)] Tryz.func173 Tryz.ntmps173 fun B hB=>?_
 repeat' (refine jR ?_)
 refine aR (ι:=Nat × Int) (fun q=>q.1 ≤ s.length ∧ 0 ≤ q.2 ∧ q.2 < da q.1) (fun q=>[(0,S s),(1,I top),(5,I q.2),(6,I (da q.1)),(7,I q.1)]) (fun _=>G) (fun q=>[]) (fun q=>s.length - q.1) (0,0) ?_ tU F aX (fun q Hq=>?_)
 ·exact ⟨Nat.zero_le _,by decide,by decide⟩
 obtain ⟨i,m⟩:=q
 dsimp only at Hq ⊢
 obtain ⟨hi0,hm0,hm1⟩:=Hq
 by_cases hi : i < s.length
 ·have hbl:=jr s i
  obtain rfl | rfl : i = 0 ∨ i = 1:=oM
  ·have hm1 : m < 1:=hm1
   rw [show da 0 = 1 from rfl]
   have hb : bt s ((0 : Nat) : Int).toNat = bt s 0:=rfl
   repeat' (first | refine jM ?_ | refine ac F (ay oM) ?_)
   refine Nx.re (d:=6) (v':=I (da 1)) F (congrArg (Value.int .i64) (by show _ = (128 : Int);omega)) ?_
   refine Nx.re (d:=7) (v':=I ((1 : Nat) : Int)) F (congrArg (Value.int .i64) F) ?_
   exact aW (1,m + ((bt s ((0 : Nat) : Int).toNat : Nat) : Int) % 128 * 1) ⟨oM,oM,by show _ < _;simp only [da];omega⟩ oM tU rfl aX
  ·have hm1 : m < 128:=hm1
   rw [show da 1 = 128 from rfl]
   have hb : bt s ((1 : Nat) : Int).toNat = bt s 1:=rfl
   repeat' (first | refine jM ?_ | refine ac F (ay oM) ?_)
   refine Nx.re (d:=6) (v':=I (da 2)) F (congrArg (Value.int .i64) (by show _ = (16384 : Int);omega)) ?_
   refine Nx.re (d:=7) (v':=I ((2 : Nat) : Int)) F (congrArg (Value.int .i64) F) ?_
   exact aW (2,m + ((bt s ((1 : Nat) : Int).toNat : Nat) : Int) % 128 * 128) ⟨oM,oM,by show _ < _;simp only [da];omega⟩ oM tU rfl aX
 ·have hu : 1 ≤ da i ∧ da i ≤ 16384:=by
   obtain rfl | rfl | rfl : i = 0 ∨ i = 1 ∨ i = 2:=oM
   all_goals decide
  generalize da i = un at *
  all_goals repeat' (first | refine jM ?_ | (refine jo ?_;first | refine aL F ?_ | refine av F ?_) | refine d5 F F (fun _=>?_) (fun _=>?_) | refine ad F (aC oM) ?_)
  all_goals refine jY (vs:=[_]) ?_
  all_goals exact ⟨_,F⟩
theorem ve {s r : abL} {n top : Int} (hs : s.length ≤ 100000) (h : bc s = some (n,r)) : am abK 138 [S s,I top] G (· = Tu [I n,S r,Bo (decide (n ≤ top)),Bo (decide (n ≤ top))]):=by
 have cx_ng0:=dR (G:=G) (s:=s) oM
 rw [h] at cx_ng0
 have cx_ng : am abK 71 [S s] G (· = Tu [I n,S r,Bo true]):=cx_ng0
 refine jE [(0,_),(1,_)] Tryz.func138 Tryz.ntmps138 fun B hB=>?_
 repeat' (first | refine jR ?_ | (refine jo ?_;refine ab F F F cx_ng F ?_) | refine ac F F ?_)
 all_goals refine jY (vs:=[_,_,_,_]) ?_
 all_goals rfl
theorem vg {s : abL} {top : Int} (hs : s.length ≤ 100000) (ht : 0 ≤ top ∧ top ≤ 1000) (h : bc s = none) : am abK 138 [S s,I top] G (fun v=>∃ gb,v = Tu [I 0,S s,Bo false,Bo gb]):=by
 have cx_ng0:=dR (G:=G) (s:=s) oM
 rw [h] at cx_ng0
 have cx_ng : am abK 71 [S s] G (· = Tu [I 0,S [],Bo false]):=cx_ng0
 by_cases h2 : s.length ≤ 2
 ·have cx_grw:=vh (G:=G) h2 ht
  refine jE [(0,_),(1,_)] Tryz.func138 Tryz.ntmps138 fun B hB=>?_
  repeat' (first | refine jR ?_ | (refine jo ?_;refine ab F F F cx_ng F ?_) | (refine ad F (by first | rfl | (refine decide_eq_false ?_;(omega))) ?_))
  refine aR (ι:=Nat) (fun i=>i ≤ s.length) (fun i=>[(0,S s),(1,I top),(11,I (i : Nat))]) (fun _=>G) (fun i=>[]) (fun i=>s.length - i) 0 ?_ tU F aX (fun i Hi=>?_)
  ·exact Nat.zero_le _
  by_cases hi : i < s.length
  ·have hbl:=jr s i
   repeat' (first | refine jM ?_ | refine ac F (ay oM) ?_ | refine cT F (fun _=>?_) (fun _=>?_))
   ·refine jY (vs:=[_,_,_,_]) ?_
    exact ⟨_,F⟩
   ·refine Nx.re (d:=11) (v':=I (i + 1 : Nat)) F (congrArg (Value.int .i64) oM) ?_
    exact aW (i + 1) oM oM tU F aX
  ·repeat' (first | refine jR ?_ | (refine jo ?_;(refine cn F F F cx_grw F ?_;rintro _ ⟨gb,rfl⟩)) | refine ad F (aC oM) ?_)
   all_goals refine jY (vs:=[_,_,_,_]) ?_
   all_goals exact ⟨_,F⟩
 ·refine jE [(0,_),(1,_)] Tryz.func138 Tryz.ntmps138 fun B hB=>?_
  repeat' (first | refine jR ?_ | (refine jo ?_;refine ab F F F cx_ng F ?_) | refine ac F (ay oM) ?_ | refine ad F F ?_)
  all_goals refine jY (vs:=[_,_,_,_]) ?_
  all_goals exact ⟨_,F⟩
theorem ot {b r : abL} (h : b.length ≤ 100) : frame b ++ r = 126 :: (bi b.length ++ (b ++ (bi (d8 b) ++ r))):=by
 unfold frame
 simp only [List.cons_append,List.nil_append,List.append_assoc]
 rfl
def wY (s tx rest : abL) (ok : Bool) : Prop:=(ok = true → tx.length ≤ 100 ∧ s = frame tx ++ rest) ∧ (ok = false → ∀ b r,b.length ≤ 100 → s ≠ frame b ++ r)
theorem wg {s : abL} (h0 : s ≠ []) (hs : s.length ≤ 2000) : am abK 102 [S s] G (fun v=>∃ tx rest ok gr,v = Tu [S tx,S rest,Bo ok,Bo gr] ∧ wY s tx rest ok):=by
 have hnof : ∀ {gr : Bool} {v : Value},(∀ b r,b.length ≤ 100 → s ≠ frame b ++ r) → v = Tu [S [],S s,Bo false,Bo gr] → ∃ tx rest ok gr,v = Tu [S tx,S rest,Bo ok,Bo gr] ∧ wY s tx rest ok:=fun h1 h2=>⟨_,_,_,_,h2,fun h=>(by cases h),fun _=>h1⟩
 cases s with
 | nil=>exact absurd F h0
 | cons c q =>
  have hel : (c :: q).length = q.length + 1:=rfl
  have hc0 : bt (c :: q) (Int.toNat 0) = c.toNat:=be c q
  by_cases hc : c.toNat = 126
  case neg =>
   have hno : ∀ b r,b.length ≤ 100 → c :: q ≠ frame b ++ r:=fun b r hb e=>by
    rw [ot hb] at e
    simp only [List.cons.injEq] at e
    exact hc (by rw [e.1];rfl)
   refine jE [(0,_)] Tryz.func102 Tryz.ntmps102 fun B hB=>?_
   repeat' (first | refine jM ?_ | refine ac F (ay oM) ?_)
   all_goals refine jY (vs:=[_,_,_,_]) ?_
   all_goals exact hnof hno F
  obtain rfl:=bo hc dC
  have hdr : List.drop (Int.toNat 1) (126 :: q) = q:=rfl
  have hnum : ∀ b r,b.length ≤ 100 → (126 :: q : abL) = frame b ++ r → bc q = some (((b.length : Nat) : Int),b ++ (bi (d8 b) ++ r)):=fun b r hb e=>uM hb e
  cases hg : bc q with
  | none =>
   have cx_pt0:=vg (G:=G) (s:=q) (top:=100) oM oM hg
   have hno : ∀ b r,b.length ≤ 100 → (126 :: q : abL) ≠ frame b ++ r:=fun b r hb e=>by
    have:=hnum b r hb e
    rw [hg] at this;cases this
   rw [← hdr] at cx_pt0
   refine jE [(0,_)] Tryz.func102 Tryz.ntmps102 fun B hB=>?_
   repeat' (first | refine jM ?_ | (refine jo ?_;(refine cn F F F cx_pt0 F ?_;rintro _ ⟨gb,rfl⟩)) | refine ac F F ?_ | refine ad F F ?_)
   all_goals refine jY (vs:=[_,_,_,_]) ?_
   all_goals exact hnof hno F
  | some z =>
   obtain ⟨n,r⟩:=z
   obtain ⟨g0,g1,_⟩:=cm hg
   have hl:=bx hg
   have cx_pt1:=ve (G:=G) (s:=q) (top:=100) oM hg
   rw [← hdr] at cx_pt1
   by_cases hn : n ≤ 100
   case neg =>
    rw [decide_eq_false hn] at cx_pt1
    have hno : ∀ b r,b.length ≤ 100 → (126 :: q : abL) ≠ frame b ++ r:=fun b r hb e=>by
     have:=hnum b r hb e
     rw [hg] at this
     simp only [Option.some.injEq,Prod.mk.injEq] at this
     omega
    refine jE [(0,_)] Tryz.func102 Tryz.ntmps102 fun B hB=>?_
    repeat' (first | refine jM ?_ | (refine jo ?_;refine ab F F F cx_pt1 F ?_) | refine ac F F ?_ | refine ad F F ?_)
    all_goals refine jY (vs:=[_,_,_,_]) ?_
    all_goals exact hnof hno F
   rw [decide_eq_true hn] at cx_pt1
   obtain ⟨m,rfl⟩ : ∃ m : Nat,n = (m : Int):=⟨n.toNat,oM⟩
   by_cases hm : m ≤ r.length
   case neg =>
    have hno : ∀ b r,b.length ≤ 100 → (126 :: q : abL) ≠ frame b ++ r:=fun b r' hb e=>by
     have:=hnum b r' hb e
     rw [hg] at this
     simp only [Option.some.injEq,Prod.mk.injEq] at this
     obtain ⟨e1,e2⟩:=this
     have:=congrArg List.length e2
     simp only [List.length_append] at this
     omega
    refine jE [(0,_)] Tryz.func102 Tryz.ntmps102 fun B hB=>?_
    repeat' (first | refine jM ?_ | (refine jo ?_;refine ab F F F cx_pt1 F ?_) | refine ac F (ay oM) ?_ | refine ad F F ?_)
    all_goals refine jY (vs:=[_,_,_,_]) ?_
    all_goals exact hnof hno F
   have hq : q = bi m ++ r:=by
    obtain ⟨_,_,h⟩:=cm hg
    exact h
   have htl : (r.take m).length = m:=by rw [List.length_take];omega
   have htk : r.take ((m : Nat) : Int).toNat = r.take m:=rfl
   have hdk : r.drop ((m : Nat) : Int).toNat = r.drop m:=rfl
   have hsr:=kp (r.take m)
   have hsl:=m7 (r.take m)
   have hdl : (r.drop m).length = r.length - m:=List.length_drop
   have hall : ∀ b r',b.length ≤ 100 → (126 :: q : abL) = frame b ++ r' → r.drop m = bi (d8 (r.take m)) ++ r':=fun b r' hb e=>by
    have:=hnum b r' hb e
    rw [hg] at this
    simp only [Option.some.injEq,Prod.mk.injEq] at this
    obtain ⟨e1,e2⟩:=this
    have e3 : m = b.length:=oM
    rw [e2,e3,List.drop_left,List.take_left]
   by_cases hsh : (r.drop m).length < (bi (d8 (r.take m))).length
   ·have hno : ∀ b r,b.length ≤ 100 → (126 :: q : abL) ≠ frame b ++ r:=fun b r' hb e=>by
     have:=congrArg List.length (hall b r' hb e)
     simp only [List.length_append] at this
     omega
    refine jE [(0,_)] Tryz.func102 Tryz.ntmps102 fun B hB=>?_
    repeat' (first | refine jM ?_ | (refine jo ?_;first | refine ab F F F cx_pt1 F ?_ | (refine ab F F F (pk ?_) F ?_;(focus ((simp;omega);done))) | (refine ab F F F (f7 ?_) F ?_;(focus ((simp;omega);done)))) | (refine ac F ?_ ?_;(focus ((simp;omega);done))) | (refine ad F (by first | rfl | (refine decide_eq_false ?_;(omega))) ?_) | (refine ai (an (id:=12) _ (fun _ h=>h) ah ?_);refine jW 0 [0,1,2,3,4,5,6,7,8,9,10] (aa 11 2047) ?_;refine jQ ?_))
    all_goals refine jY (vs:=[_,_,_,_]) ?_
    all_goals exact hnof hno F
   by_cases hpre : (r.drop m).take (bi (d8 (r.take m))).length = bi (d8 (r.take m))
   case neg =>
    have hno : ∀ b r,b.length ≤ 100 → (126 :: q : abL) ≠ frame b ++ r:=fun b r' hb e=>by
     refine hpre ?_
     rw [hall b r' hb e,List.take_left]
    refine jE [(0,_)] Tryz.func102 Tryz.ntmps102 fun B hB=>?_
    repeat' (first | refine jX ?_ | (refine jo ?_;first | refine ab F F F cx_pt1 F ?_ | (refine ab F F F (pk ?_) F ?_;(focus ((simp;omega);done))) | (refine ab F F F (f7 ?_) F ?_;(focus ((simp;omega);done)))) | refine ac F (ay ‹_›) ?_ | (refine ad F ?_ ?_;(focus ((first | rfl | (refine decide_eq_false ?_;(omega)) | (simp;omega));done))))
    all_goals refine jY (vs:=[_,_,_,_]) ?_
    all_goals exact hnof hno F
   have hyes : (126 :: q : abL) = frame (r.take m) ++ (r.drop m).drop (bi (d8 (r.take m))).length:=by
    rw [ot oM,htl,hq]
    congr 2
    conv=>lhs;rw [← List.take_append_drop m r]
    congr 1
    conv=>lhs;rw [← List.take_append_drop (bi (d8 (r.take m))).length (r.drop m),hpre]
   refine jE [(0,_)] Tryz.func102 Tryz.ntmps102 fun B hB=>?_
   repeat' (first | refine jX ?_ | (refine jo ?_;first | refine ab F F F cx_pt1 F ?_ | (refine ab F F F (pk ?_) F ?_;(focus ((simp;omega);done))) | (refine ab F F F (f7 ?_) F ?_;(focus ((simp;omega);done)))) | (refine ad F ?_ ?_;(focus ((first | rfl | (refine decide_eq_false ?_;(omega)) | (simp [*];done) | (simp;omega));done))) | (refine ai (an (id:=15) _ (fun _ h=>h) ah ?_);refine jW 0 [0,1,2,3,4,5,6,7,8] (aa 9 511) ?_;refine jQ ?_))
   all_goals refine jY (vs:=[_,_,_,_]) ?_
   all_goals exact ⟨_,_,_,_,F,fun _=>⟨by rw [htk,htl];omega,hyes⟩,fun h=>(by cases h)⟩
def JF (s : abL) (xs : List abL) (j : Nat) (t : abL) : Prop:=(j = 0 → s = (xs.map frame).flatten ++ t ∧ ∀ x ∈ xs,x.length ≤ 100) ∧ (∀ b,b.length ≤ 100 → s = frame b → xs = [b] ∧ j = 0 ∧ t = [])
def JL (s : abL) (xs : List abL) (j : Nat) (t : abL) : Prop:=(j = 0 → s = (xs.map frame).flatten ++ t ∧ ∀ x ∈ xs,x.length ≤ 100) ∧ (∀ b,b.length ≤ 100 → s = frame b → (xs = [] ∧ j = 0 ∧ t = s) ∨ (xs = [b] ∧ j = 0 ∧ t = []))
theorem qR {b : abL} : frame b ≠ []:=by unfold frame;simp
theorem JL.hit {s tx rs t : abL} {xs : List abL} {j : Nat} (h : JL s xs j t) (hl : tx.length ≤ 100) (ht : t = frame tx ++ rs) : JL s (xs ++ [tx]) j rs:=by
 refine ⟨fun hj=>?_,fun b hb e=>?_⟩
 ·obtain ⟨h1,h2⟩:=h.1 hj
  refine ⟨?_,fun x hx=>?_⟩
  ·rw [h1,ht,List.map_append,List.flatten_append];simp
  ·rcases List.mem_append.1 hx with hx | hx
   ·exact h2 x hx
   ·simp only [List.mem_singleton] at hx;subst hx;exact hl
 ·rcases h.2 b hb e with ⟨h1,h2,h3⟩ | ⟨h1,h2,h3⟩
  ·have e2 : frame tx ++ rs = frame b ++ []:=by rw [← ht,h3,e,List.append_nil]
   obtain ⟨rfl,rfl⟩:=uN hl hb e2
   exact .inr ⟨by rw [h1];rfl,h2,rfl⟩
  ·rw [h3] at ht
   exact absurd ht.symm (by unfold frame;simp)
theorem JL.miss {s t : abL} {xs : List abL} {j : Nat} (h : JL s xs j t) (ht : t ≠ []) (hno : ∀ b r,b.length ≤ 100 → t ≠ frame b ++ r) : ∀ b,b.length ≤ 100 → s ≠ frame b:=fun b hb e=>by
 rcases h.2 b hb e with ⟨h1,h2,h3⟩ | ⟨h1,h2,h3⟩
 ·exact hno b [] hb (by rw [h3,e,List.append_nil])
 ·exact ht h3
theorem JL.junk {s t' : abL} {xs : List abL} {j : Nat} (h : ∀ b,b.length ≤ 100 → s ≠ frame b) : JL s xs (j + 1) t':=⟨fun h=>absurd h oM,fun b hb e=>absurd e (h b hb)⟩
theorem JF.of {s t : abL} {xs : List abL} {j : Nat} (h : JL s xs j t) (h2 : ∀ b,b.length ≤ 100 → s ≠ frame b) : JF s xs j t:=⟨h.1,fun b hb e=>absurd e (h2 b hb)⟩
theorem JF.fin {s : abL} {xs : List abL} {j : Nat} (h : JL s xs j []) : JF s xs j []:=⟨h.1,fun b hb e=>by
 rcases h.2 b hb e with ⟨_,_,h3⟩ | h3
 ·rw [e] at h3;exact absurd h3.symm qR
 ·exact h3⟩
theorem JF.bad {s t : abL} {xs : List abL} {j : Nat} (h : JF s xs j t) (hj : dX s = none) : 0 < j ∨ t ≠ [] ∨ xs.length ≠ 1:=by
 by_cases h0 : 0 < j
 ·exact .inl h0
 by_cases h1 : t = []
 ·refine .inr (.inr fun hx=>?_)
  obtain ⟨b,rfl⟩:=List.length_eq_one_iff.1 hx
  obtain ⟨e,hb⟩:=h.1 oM
  have hb:=hb b (by simp)
  have : dX s = some b:=kJ.2 ⟨hb,by rw [e,h1];simp⟩
  rw [hj] at this;cases this
 ·exact .inr (.inl h1)
abbrev qc : TypeId:=9
theorem sT {s : abL} (hs : s.length ≤ 2000) : bQ abK 67 [S s] G [] (fun v L'=>∃ u j t xs,v = Tu [u,I (j : Nat),S t] ∧ L' = [.acc u qc 1 xs.length (g6 xs)] ∧ p7 u xs.length ∧ JF s xs j t):=by
 refine jH [(0,_)] Tryz.func67 Tryz.ntmps67 fun B hB hW=>?_
 repeat' (first | refine jR ?_ | (refine jo ?_;refine jF fun _=>?_))
 rename_i y
 refine Nx.blkAcc (m:=0) (sz:=1) .here F ?_
 refine aR (ι:=Value × List abL × Nat × abL) (fun i=>i.2.1.length + i.2.2.1 + i.2.2.2.length ≤ 2000 ∧ JL s i.2.1 i.2.2.1 i.2.2.2) (fun i=>[(0,S i.2.2.2),(5,i.1),(6,I i.2.2.1)]) (fun _=>G) (fun i=>[.acc i.1 qc 1 i.2.1.length (g6 i.2.1)]) (fun i=>i.2.2.2.length) (.slice (some ⟨y,0,none⟩) 0 0,[],0,s) ?_ tU F aX (fun i hI=>?_)
 ·exact ⟨by dsimp only;simp only [List.length_nil];omega,fun _=>⟨rfl,fun x hx=>by cases hx⟩,fun b hb e=>.inl ⟨rfl,rfl,rfl⟩⟩
 obtain ⟨u,xs,j,t⟩:=i
 dsimp only at hI ⊢
 obtain ⟨hle,hJ⟩:=hI
 by_cases ht : t = []
 ·subst ht
  repeat' (first | refine jR ?_ | refine ad F F ?_)
  all_goals exact Nx.shp (.head _) fun hsh=>aZ (vs:=[_,_,_]) F ⟨F,F,F,trivial⟩ F (List.Sublist.refl _) ⟨F,u,j,[],xs,F,F,hsh,JF.fin hJ⟩
 ·have hpos:=List.length_pos_iff.2 ht
  have cx_hd:=wg (G:=G) ht oM
  repeat' (first | refine jM ?_ | (refine jo ?_;first | refine jF fun _=>?_ | refine mz F F F F F F F F oM fun _=>?_ | (refine cn F F F cx_hd F ?_;rintro _ ⟨tx1,rs1,ok1,gr1,rfl,hH⟩)) | refine ac F (ay ‹_›) ?_ | refine kH F (fun _=>?_) (fun _=>?_))
  ·obtain ⟨h1,h2⟩:=hH.1 aS
   have h3:=congrArg List.length h2
   have h4:=List.length_pos_iff.2 (qR (b:=tx1))
   simp only [List.length_append] at h3
   refine aW (_,xs ++ [tx1],j,rs1) ⟨by dsimp only;simp only [List.length_append,List.length_cons,List.length_nil];omega,hJ.hit h1 h2⟩ (by dsimp only;omega) tU rfl (by dsimp only;simp only [i2,List.length_append,List.length_cons,List.length_nil,Nat.zero_add];repeat (first | exact List.nil_sublist _ | apply List.Sublist.cons_cons))
  ·have hno:=hJ.miss ht (hH.2 aS)
   exact Nx.shp (.head _) fun hsh=>aZ (vs:=[_,_,_]) F ⟨F,F,F,trivial⟩ F (List.Sublist.refl _) ⟨F,u,j,t,xs,F,F,hsh,JF.of hJ hno⟩
  ·have hno:=hJ.miss ht (hH.2 aS)
   refine aW (u,xs,j + 1,t.drop 1) ⟨by dsimp only;simp only [List.length_drop];omega,JL.junk hno⟩ (by dsimp only;simp only [List.length_drop];omega) tU rfl aX
theorem zX {s : abL} (hs : s.length ≤ 1048576) (hj : dX s = none) : bQ abK 26 [S s] G [] (fun v L'=>∃ u j t xs ok,v = Tu [u,I (j : Nat),S t,Bo ok] ∧ L' = [.acc u qc 1 xs.length (g6 xs)] ∧ (ok = false ∨ 0 < j ∨ t ≠ [] ∨ xs.length ≠ 1)):=by
 by_cases h : s.length ≤ 2000
 ·have cx_lg:=sT (G:=G) h
  refine jH [(0,_)] Tryz.func26 Tryz.ntmps26 fun B hB hW=>?_
  repeat' (first | refine jR ?_ | (refine jo ?_;(refine dl F F F cx_lg F ?_;rintro _ _ ⟨ub,j1,t1,xs1,rfl,rfl,hsh1,hJ1⟩;dsimp only [zA,fA])) | refine ad F (aC oM) ?_)
  all_goals exact aZ (vs:=[_,_,_,_]) F ⟨F,F,F,F,trivial⟩ F (List.Sublist.refl _) ⟨F,ub,j1,t1,xs1,true,F,F,.inr (hJ1.bad hj)⟩
 ·refine jH [(0,_)] Tryz.func26 Tryz.ntmps26 fun B hB hW=>?_
  repeat' (first | refine jR ?_ | (refine jo ?_;refine jF fun _=>?_) | refine ac F (ay oM) ?_)
  rename_i y
  refine Nx.blkAcc (m:=0) (sz:=1) .here F ?_
  exact aZ (vs:=[_,_,_,_]) F ⟨F,F,F,F,trivial⟩ F (List.Sublist.refl _) ⟨F,_,0,[],[],false,F,F,.inl F⟩
theorem vy {s b : abL} (hj : dX s = some b) : bQ abK 26 [S s] G [] (fun v L'=>∃ y cap,v = Tu [.slice (some ⟨y,0,none⟩) 1 cap,I 0,S [],Bo true] ∧ L' = [.acc (.slice (some ⟨y,0,none⟩) 1 cap) qc 1 1 [S b]]):=by
 obtain ⟨hb,rfl⟩:=kJ.1 hj
 have hl:=je b oM
 have cx_lg:=sT (G:=G) (s:=frame b) oM
 refine jH [(0,_)] Tryz.func26 Tryz.ntmps26 fun B hB hW=>?_
 repeat' (first | refine jR ?_ | (refine jo ?_;(refine dl F F F cx_lg F ?_;rintro _ _ ⟨ub,j1,t1,xs1,rfl,rfl,hsh1,hJ1⟩;dsimp only [zA,fA])) | refine ad F (aC oM) ?_)
 obtain ⟨rfl,rfl,rfl⟩:=hJ1.2 b hb rfl
 obtain ⟨y,cap,rfl⟩:=hsh1.pos (by simp)
 exact aZ (vs:=[_,_,_,_]) F ⟨F,F,F,F,trivial⟩ F (List.Sublist.refl _) ⟨F,y,cap,F,F⟩
theorem zY {s : abL} (hs : s.length ≤ 1048576) (hj : dX s = none) : bQ abK 69 [S s] G [] (fun v L'=>∃ u j t xs ok,v = Tu [u,I (j : Nat),S t,Bo ok] ∧ L' = [.acc u jv 1 xs.length (g6 xs)] ∧ (ok = false ∨ 0 < j ∨ t ≠ [] ∨ xs.length ≠ 1)):=by
 refine (l5 (G:=G) (s:=s) oM).mono ?_
 rintro v G' L' ⟨h1,u,rfl,rfl,h4⟩
 refine ⟨h1,u,(ce s).2.1,(ce s).2.2,(ce s).1,decide (s.length ≤ 2000),F,F,?_⟩
 by_cases a1 : s.length ≤ 2000
 ·by_cases a2 : (ce s).2.1 = 0
  ·by_cases a3 : (ce s).2.2 = []
   ·refine .inr (.inr (.inr fun hx=>?_))
    obtain ⟨b,hb⟩:=List.length_eq_one_iff.1 hx
    unfold dX at hj
    rw [if_pos ⟨a1,a2,a3⟩,hb] at hj
    cases hj
   ·exact .inr (.inr (.inl a3))
  ·exact .inr (.inl oM)
 ·exact .inl (decide_eq_false a1)
theorem zZ {s b : abL} (hj : dX s = some b) : bQ abK 69 [S s] G [] (fun v L'=>∃ y cap,v = Tu [.slice (some ⟨y,0,none⟩) 1 cap,I 0,S [],Bo true] ∧ L' = [.acc (.slice (some ⟨y,0,none⟩) 1 cap) jv 1 1 [S b]]):=by
 obtain ⟨hb,rfl⟩:=kJ.1 hj
 have hl:=je b oM
 refine (l5 (G:=G) (s:=frame b) oM).mono ?_
 rintro v G' L' ⟨h1,u,rfl,rfl,h4⟩
 rw [jc hb] at h4 ⊢
 obtain ⟨y,cap,rfl⟩:=h4.pos (by simp)
 exact ⟨h1,y,cap,by rw [decide_eq_true oM];rfl,rfl⟩
theorem mU {s : abL} (hs : s.length ≤ 1048576) : am abK 32 [S s] G (· = i5 (dX s)):=by
 cases hj : dX s with
 | none =>
  have hFG:=zY (G:=G) hs hj
  refine jE [(0,_)] Tryz.func32 Tryz.ntmps32 fun B hB=>?_
  repeat' (refine jR ?_)
  refine jo ?_
  refine dl F F F hFG F ?_
  rintro _ _ ⟨ub,j1,t1,xs1,ok1,rfl,rfl,hbad⟩
  dsimp only [zA,fA]
  rcases hbad with rfl | h | h | h
  all_goals repeat' (first | refine jR ?_ | (refine jo ?_;first | refine aL F ?_ | refine av F ?_ | refine jV (wN F) ?_) | (refine aD F F (by first | rfl | (refine decide_eq_true ?_;first | assumption | omega)) ?_) | refine d5 F F (fun _=>?_) (fun _=>?_) | refine kG F F (fun _=>?_) (fun _=>?_) | (refine ac F (by first | rfl | (refine decide_eq_true ?_;(omega))) ?_))
  all_goals refine jY (vs:=[_,_]) ?_
  all_goals rfl
 | some b =>
  have cx_FramesGet:=zZ (G:=G) hj
  refine jE [(0,_)] Tryz.func32 Tryz.ntmps32 fun B hB=>?_
  repeat' (first | refine jR ?_ | (refine jo ?_;first | refine av F ?_ | refine jV (aw F) ?_ | refine jV (a9 F F oM) ?_ | refine jV (fL F F F) ?_ | (refine dl F F F cx_FramesGet F ?_;rintro _ _ ⟨b,cap,rfl,rfl⟩;dsimp only [zA,fA])) | refine al F F F ?_ | refine ad F F ?_)
  all_goals refine jY (vs:=[_,_]) ?_
  all_goals rfl
abbrev ui : TypeId:=42
abbrev abs : TypeId:=86
theorem xP {n : Nat} {u : Value} {vs : List b8} {k s : abL} {m : Nat} (hR : lh n u vs) (h : SchR G u vs) (hk : aP (ag vs) (91 :: k) = true) (hs : s.length ≤ 1000) (hn : n ≤ 999) (hm : m ≤ 999999) :
  bA abK 108 [Ag [u],S s,S (91 :: k),I (m : Nat),I (n + 1 : Nat)] G (cg (ag vs) (if m ≤ 20 then (bB (rb (ag vs) n k) m s []).map fun x=>(.nd 91 [] 0 x.1,x.2) else none) (91 :: k)):=by
 have edn : ((n + 1 : Nat) : Int) - 1 = (n : Nat):=oM
 have hki:=dP (.inl rfl) hk
 have hkk:=dc (dp hk)
 have hkl:=hkk.2
 simp only [List.length_cons] at hkl
 have hkl2 : (91 :: k).length = k.length + 1:=rfl
 by_cases h20 : m ≤ 20
 case neg =>
  rw [if_neg h20]
  refine jB [(0,_),(1,_),(2,_),(3,_),(4,_)] Tryz.func108 Tryz.ntmps108 fun B hok hB hW=>?_
  repeat' (first | refine jR ?_ | (refine jo ?_;first | refine jO fun _=>?_ | refine jV (ao F F) ?_) | refine ac F (ay oM) ?_)
  all_goals refine jZ (vs:=[_,_,_]) F ⟨F,F,F,trivial⟩ F ⟨Gh.le.refl _,F,?_⟩
  all_goals exact fu F
 rw [if_pos h20]
 refine jB [(0,_),(1,_),(2,_),(3,_),(4,_)] Tryz.func108 Tryz.ntmps108 fun B hok hB hW=>?_
 repeat' (first | refine jR ?_ | (refine jo ?_;first | refine jO fun _=>?_ | refine jV (ao F F) ?_) | refine ad F (aC oM) ?_)
 rename_i xr y
 refine Nx.addNil ui 1 ?_
 refine aR (ι:=List V × List Nat × Option Addr × Nat × abL × Gh) (fun q=>((q.2.1.length = q.1.length ∧ ∀ i,i < q.1.length → RepR q.2.2.2.2.2 (ag vs) (ae q.1 i) k (ae q.2.1 i)) ∧ Gh.le G q.2.2.2.2.2) ∧ (bB (rb (ag vs) n k) m s [] = bB (rb (ag vs) n k) (m - q.1.length) q.2.2.2.2.1 q.1 ∧ q.1.length ≤ m) ∧ q.2.2.2.2.1.length ≤ s.length) (fun q=>[(1,S q.2.2.2.2.1),(2,S (91 :: k)),(3,I (m : Nat)),(4,I (n + 1 : Nat)),(5,Pt xr 0),(13,Pt y 0),(14,I (q.1.length : Nat))]) (fun q=>q.2.2.2.2.2) (fun q=>[.acc (.slice q.2.2.1 q.1.length q.2.2.2.1) ui 1 q.1.length (aA fY q.2.1),.blk y (.cells (List.toArray [S (91 :: k),S [],aK,.slice q.2.2.1 q.1.length q.2.2.2.1]) uk (0,0)),.blk xr (.cells (List.toArray [u]) abs (0,0))]) (fun q=>m - q.1.length) ([],[],none,0,s,G) ?_ tU F aX (fun q Hq=>?_)
 ·exact ⟨⟨⟨F,fun i hi=>absurd hi (by simp)⟩,Gh.le.refl _⟩,⟨F,Nat.zero_le _⟩,Nat.le_refl _⟩
 obtain ⟨ws,bs,a,cap,t,Gq⟩:=q
 dsimp only at Hq ⊢
 obtain ⟨⟨⟨hbl,hreps⟩,hgq⟩,⟨hit,hwm⟩,htl⟩:=Hq
 by_cases hi : ws.length < m
 case neg =>
  have e0 : m - ws.length = 0:=oM
  rw [e0,bB] at hit
  repeat' (first | refine jR ?_ | refine ad F (aC oM) ?_)
  all_goals
   refine Nx.sealS (v:=.slice a ws.length cap) fun G2 hG2 hsl=>?_
   refine Nx.sealC (b:=y) fun G3 hG3 hsg=>?_
   refine jZ (vs:=[_,_,_]) F ⟨F,F,F,trivial⟩ F ⟨((hgq.trans hG2).trans hG3),F,?_⟩
   exact oo (by rw [hit];rfl) (.lst k y ws bs a cap hsg (hsl.mono hG3) hbl (fun i hi=>(hreps i hi).mono (hG2.trans hG3)))
 obtain ⟨m',hm'⟩ : ∃ m',m - ws.length = m' + 1:=⟨m - ws.length - 1,oM⟩
 rw [hm'] at hit
 have hop:=hR Gq k t (h.mono hgq) hki oM
 rw [← edn] at hop
 cases hf : rb (ag vs) n k t with
 | none =>
  rw [hf] at hop
  have cx_gt0 : bA abK 83 [Ag [u],S t,S k,I (((n + 1 : Nat) : Int) - 1)] Gq (fun v _=>∃ q1 r1,v = Tu [.pointer q1,S r1,Bo false]):=hop.mono fun v G' L' h=>⟨h.1,h.2.1,sE h.2.2⟩
  clear hop
  have hno2:=nZ (m:=m') (acc:=ws) hf
  repeat' (first | refine jR ?_ | (refine ac F (by first | rfl | (refine decide_eq_true ?_;(omega))) ?_) | (refine ai (an (id:=7) _ (fun _ h=>h) ah ?_);refine jW 9 [1,2,3,4,5] (aa 14 62) ?_;(refine jG (aa 14 63) 0 F (bq F F F F) ?_);refine jA 6 F ?_;(refine aJ F F F cx_gt0 F ?_;rintro _ G hle ⟨q1,r1,rfl⟩;skip);refine jS (aa 14 127) ?_;refine jT 0 [7,8,9,10,11,12,13] (aa 14 16383) ?_;refine jQ ?_))
  all_goals refine jZ (vs:=[_,_,_]) F ⟨F,F,F,trivial⟩ F ⟨(hgq.trans hle),F,?_⟩
  all_goals exact fu (by rw [hit,hno2];rfl)
 | some z =>
  obtain ⟨w,r'⟩:=z
  rw [hf] at hop
  have cx_gt1 : bA abK 83 [Ag [u],S t,S k,I (((n + 1 : Nat) : Int) - 1)] Gq (fun v G'=>∃ wb,v = Tu [Pt wb 0,S r',Bo true] ∧ RepR G' (ag vs) w k wb):=hop.mono fun v G' L' h=>⟨h.1,h.2.1,pb h.2.2⟩
  clear hop
  have hsh:=nX _ _ _ _ _ hf
  have hstep:=lF (m:=m') (acc:=ws) hf
  have hwl1 : (ws ++ [w]).length = ws.length + 1:=by simp
  have hm2 : m - (ws ++ [w]).length = m':=by rw [hwl1];omega
  repeat' (first | refine jM ?_ | (refine jo ?_;first | refine aj F ?_ | refine jF fun _=>?_ | refine cQ F F F F F F F F F oM fun _ _=>?_ | refine jD F F F ?_) | refine ac F (ay oM) ?_ | refine ad F F ?_ | (refine ai (an (id:=7) _ (fun _ h=>h) ah ?_);refine jW 9 [1,2,3,4,5] (aa 14 62) ?_;(refine jG (aa 14 63) 0 F (bq F F F F) ?_);refine jA 6 F ?_;(refine aJ F F F cx_gt1 F ?_;rintro _ G hle ⟨wb,rfl,hrep⟩;skip);refine jS (aa 14 127) ?_;refine jT 0 [7,8,9,10,11,12,13] (aa 14 16383) ?_;refine jQ ?_))
  have hgl:=hgq.trans hle
  have hrow : aA fY bs ++ [Pt wb 0] = aA fY (bs ++ [wb]):=(cy fY bs wb).symm
  have hbl1 : (bs ++ [wb]).length = (ws ++ [w]).length:=by simp [hbl]
  have hrp : ∀ i,i < (ws ++ [w]).length → RepR G (ag vs) (ae (ws ++ [w]) i) k (ae (bs ++ [wb]) i):=fun i hi=>by
   by_cases h1 : i < ws.length
   ·have e1 : ae (ws ++ [w]) i = ae ws i:=by rw [a6 hi,a6 h1,List.getElem_append_left h1]
    have e2 : ae (bs ++ [wb]) i = ae bs i:=by rw [a6 oM,a6 oM,List.getElem_append_left oM]
    rw [e1,e2];exact (hreps i h1).mono hle
   ·have h2 : i = ws.length:=oM
    have e1 : ae (ws ++ [w]) i = w:=by rw [a6 hi];simp [h2]
    have e2 : ae (bs ++ [wb]) i = wb:=by rw [a6 oM];simp [h2,hbl]
    rw [e1,e2];exact hrep
  rename_i y0 y1 yc
  rw [hrow]
  refine Nx.re (d:=14) (v':=I ((ws ++ [w]).length : Nat)) F (congrArg (Value.int .i64) (by rw [hwl1];omega)) ?_
  exact aW (ws ++ [w],bs ++ [wb],some ⟨y1,0,none⟩,yc,r',G) ⟨⟨⟨hbl1,hrp⟩,hgl⟩,⟨(by dsimp only;rw [hit,hstep,hm2]),(by dsimp only;omega)⟩,(by dsimp only;omega)⟩ (by dsimp only;omega) tU rfl (by rw [hwl1];repeat (first | exact List.Sublist.refl _ | apply List.Sublist.cons_cons | apply List.Sublist.cons))
theorem zN {n : Nat} {u : Value} {vs : List b8} {k s : abL} {e : UInt8} (hR : lh n u vs) (h : SchR G u vs) (hk : aP (ag vs) (91 :: k) = true) (hs : s.length ≤ 999) (hn : n ≤ 999) (hkl : k.length ≤ 1000) :
  bA abK 83 [Ag [u],S (e :: s),S (91 :: k),I (n + 1 : Nat)] G (cg (ag vs) (rb (ag vs) (n + 1) (91 :: k) (e :: s)) (91 :: k)):=by
 have hel : (e :: s).length = s.length + 1:=rfl
 have hk0 : bt (91 :: k) (Int.toNat 0) = 91:=be 91 k
 have hkl2 : (91 :: k).length = k.length + 1:=rfl
 rw [uu]
 have cx_ng0:=dR (G:=G) (s:=e :: s) oM
 cases hg : bc (e :: s) with
 | none =>
  rw [hg] at cx_ng0
  have cx_ng : am abK 71 [S (e :: s)] G (· = Tu [I 0,S [],Bo false]):=cx_ng0
  refine jB [(0,_),(1,_),(2,_),(3,_)] Tryz.func83 Tryz.ntmps83 fun B hok hB hW=>?_
  repeat' (first | refine jM ?_ | (refine jo ?_;first | refine jO fun _=>?_ | refine av F ?_ | refine ab F F F cx_ng F ?_) | refine al F F F ?_ | refine ac F F ?_ | refine ad F F ?_)
  all_goals refine jZ (vs:=[_,_,_]) F ⟨F,F,F,trivial⟩ F ⟨Gh.le.refl _,F,?_⟩
  all_goals exact fu F
 | some z =>
  obtain ⟨m0,r⟩:=z
  obtain ⟨h0,h1,_⟩:=cm hg
  have hl:=bx hg
  rw [hg] at cx_ng0
  obtain ⟨m,rfl⟩ : ∃ m : Nat,m0 = (m : Int):=⟨m0.toNat,oM⟩
  have cx_ng : am abK 71 [S (e :: s)] G (· = Tu [I (m : Nat),S r,Bo true]):=cx_ng0
  clear cx_ng0
  have cx_som:=xP (G:=G) (m:=m) (s:=r) hR h hk oM hn oM
  have hres : (if (m : Int) ≤ 20 then (bB (rb (ag vs) n k) (m : Int).toNat r []).map (fun x=>(V.nd 91 [] 0 x.1,x.2)) else none) = if m ≤ 20 then (bB (rb (ag vs) n k) m r []).map (fun x=>(V.nd 91 [] 0 x.1,x.2)) else none:=by
   rw [Int.toNat_natCast]
   by_cases h20 : m ≤ 20
   ·rw [if_pos h20,if_pos oM]
   ·rw [if_neg h20,if_neg oM]
  dsimp only
  rw [hres]
  generalize (if m ≤ 20 then (bB (rb (ag vs) n k) m r []).map (fun x=>(V.nd 91 [] 0 x.1,x.2)) else none) = o at cx_som ⊢
  refine jB [(0,_),(1,_),(2,_),(3,_)] Tryz.func83 Tryz.ntmps83 fun B hok hB hW=>?_
  repeat' (first | refine jM ?_ | (refine jo ?_;first | refine jO fun _=>?_ | refine av F ?_ | refine aG F ?_ | refine ab F F F cx_ng F ?_ | (refine aJ F F F cx_som F ?_;rintro _ G hle ⟨q1,r1,ok1,rfl,hyes,hno⟩;skip)) | refine al F F F ?_ | refine ac F F ?_ | refine ad F F ?_)
  all_goals refine jZ (vs:=[_,_,_]) F ⟨F,F,F,trivial⟩ F ⟨hle,F,?_⟩
  all_goals (rw [aB];exact ⟨_,_,_,F,hyes,hno⟩)
abbrev ul : TypeId:=3
abbrev uj : TypeId:=42
abbrev aad : TypeId:=86
abbrev aac : TypeId:=122
def oe (gs : List (Fld × V)) : List V:=gs.map cN
theorem vm {n : Nat} {u : Value} {vs : List b8} {a : Option Addr} {ca : Nat} {nm : abL} {fs : List Fld} {k s : abL} (hR : lh n u vs) (h : SchR G u vs) (hw : SchW (ag vs)) (hr : eH vs (64 :: k) = some ((a,ca),⟨82,nm,fs⟩)) (hk : eg (64 :: k) = true) (hkl : k.length ≤ 999) (hs : s.length ≤ 1000) (hn : n ≤ 999) :
  bA abK 149 [Ag [u],S s,S (64 :: k),Ag [U8 (82 : Nat),S nm,.slice a fs.length ca],I (n + 1 : Nat)] G (cg (ag vs) ((bI (ag vs) (rb (ag vs) n) ⟨82,nm,fs⟩ (s.length + 1) 0 s []).map fun x=>(.nd 82 [] 0 x.1,x.2)) (64 :: k)):=by
 have edn : ((n + 1 : Nat) : Int) - 1 = (n : Nat):=oM
 have hkl2 : (64 :: k).length = k.length + 1:=rfl
 have hvl : vs.length ≤ 8:=by have:=hw.len;unfold ag at this;simpa using this
 have href:=fW vs (64 :: k)
 rw [hr] at href
 have hxm:=fQ hr
 have hxt : (⟨82,nm,fs⟩ : Ty) ∈ ag vs:=List.mem_map_of_mem hxm
 have hTW:=hw.ty _ hxt
 have hfl:=hTW.len
 dsimp only at hfl
 refine jB [(0,_),(1,_),(2,_),(3,_),(4,_)] Tryz.func149 Tryz.ntmps149 fun B hok hB hW=>?_
 repeat' (first | refine jR ?_ | (refine jo ?_;first | refine jO fun _=>?_ | refine jV (ao F F) ?_))
 rename_i xr xt y
 refine Nx.addNil ul 1 (Nx.addNil uj 1 ?_)
 refine aR (ι:=List (Fld × V) × List Nat × Option Addr × Nat × Option Addr × Nat × abL × Nat × Int × Gh) (fun q=>((q.2.1.length = q.1.length ∧ (∀ i,i < q.1.length → (ae q.1 i).1 ∈ fs) ∧ ∀ i,i < q.1.length → RepR q.2.2.2.2.2.2.2.2.2 (ag vs) (ae q.1 i).2 (ae q.1 i).1.kind (ae q.2.1 i)) ∧ Gh.le G q.2.2.2.2.2.2.2.2.2) ∧ (bI (ag vs) (rb (ag vs) n) ⟨82,nm,fs⟩ (s.length + 1) 0 s [] = bI (ag vs) (rb (ag vs) n) ⟨82,nm,fs⟩ q.2.2.2.2.2.2.2.1 q.2.2.2.2.2.2.2.2.1 q.2.2.2.2.2.2.1 (oe q.1) ∧ q.2.2.2.2.2.2.1.length < q.2.2.2.2.2.2.2.1) ∧ q.1.length + q.2.2.2.2.2.2.1.length ≤ s.length ∧ (0 ≤ q.2.2.2.2.2.2.2.2.1 ∧ q.2.2.2.2.2.2.2.2.1 ≤ 999999)) (fun q=>[(1,S q.2.2.2.2.2.2.1),(2,S (64 :: k)),(4,I (n + 1 : Nat)),(5,Pt xr 0),(8,Pt xt 0),(13,Pt y 0),(14,I q.2.2.2.2.2.2.2.2.1)]) (fun q=>q.2.2.2.2.2.2.2.2.2) (fun q=>[.acc (.slice q.2.2.2.2.1 q.1.length q.2.2.2.2.2.1) uj 1 q.1.length (aA fY q.2.1),.acc (.slice q.2.2.1 q.1.length q.2.2.2.1) ul 1 q.1.length (aA hY (q.1.map fun p=>p.1.tag)),.blk y (.cells (List.toArray [S (64 :: k),S [82],.slice q.2.2.1 q.1.length q.2.2.2.1,.slice q.2.2.2.2.1 q.1.length q.2.2.2.2.2.1]) uk (0,0)),.blk xt (.cells (List.toArray [U8 (82 : Nat),S nm,.slice a fs.length ca]) aac (0,0)),.blk xr (.cells (List.toArray [u]) aad (0,0))]) (fun q=>q.2.2.2.2.2.2.1.length) ([],[],none,0,none,0,s,s.length + 1,0,G) ?_ tU F aX (fun q Hq=>?_)
 ·exact ⟨⟨⟨F,fun i hi=>absurd hi (by simp),fun i hi=>absurd hi (by simp)⟩,Gh.le.refl _⟩,⟨F,Nat.lt_succ_self _⟩,by simp,Int.le_refl 0,by show (0 : Int) ≤ 999999;omega⟩
 obtain ⟨gs,bs,a1,c1,a2,c2,t,m,la,Gq⟩:=q
 dsimp only at Hq ⊢
 obtain ⟨⟨⟨hbl,hfm,hreps⟩,hgq⟩,⟨hit,htm⟩,hwt,hla0,hla1⟩:=Hq
 obtain ⟨m,rfl⟩ : ∃ m',m = m' + 1:=⟨m - 1,oM⟩
 have cx_ng0:=dR (G:=Gq) (s:=t) oM
 cases hg : bc t with
 | none =>
  rw [hg] at cx_ng0
  have cx_ng : am abK 71 [S t] Gq (· = Tu [I 0,S [],Bo false]):=cx_ng0
  clear cx_ng0
  rw [n8 hg] at hit
  repeat' (first | refine jR ?_ | (refine jo ?_;refine ab F F F cx_ng F ?_) | refine ac F F ?_)
  all_goals refine jZ (vs:=[_,_,_]) F ⟨F,F,F,trivial⟩ F ⟨hgq,F,?_⟩
  all_goals exact fu (by rw [hit];rfl)
 | some z =>
  obtain ⟨tg,r⟩:=z
  obtain ⟨h0,h1,_⟩:=cm hg
  have hl:=bx hg
  rw [hg] at cx_ng0
  have cx_ng : am abK 71 [S t] Gq (· = Tu [I tg,S r,Bo true]):=cx_ng0
  clear cx_ng0
  by_cases htz : tg = 0
  ·subst htz
   rw [qu hg] at hit
   repeat' (first | refine jR ?_ | (refine jo ?_;refine ab F F F cx_ng F ?_) | refine ac F F ?_ | refine ad F F ?_)
   all_goals
    refine Nx.sealS (v:=.slice a1 gs.length c1) fun G2 hG2 hs1=>?_
    refine Nx.sealS (v:=.slice a2 gs.length c2) fun G3 hG3 hs2=>?_
    refine Nx.sealC (b:=y) fun G4 hG4 hsg=>?_
    refine jZ (vs:=[_,_,_]) F ⟨F,F,F,trivial⟩ F ⟨(((hgq.trans hG2).trans hG3).trans hG4),F,?_⟩
    exact oo (by rw [hit];rfl) (.recd (64 :: k) y ⟨82,nm,fs⟩ gs bs a1 a2 c1 c2 ⟨href.symm,rfl⟩ hsg ((hs1.mono hG3).mono hG4) (hs2.mono hG4) hbl hfm (fun i hi=>(hreps i hi).mono ((hG2.trans hG3).trans hG4)))
  have cx_tk0:=iU (G:=Gq) (s:=r) oM
  cases ht : bL r with
  | none =>
   rw [ht] at cx_tk0
   have cx_tk : am abK 38 [S r] Gq (· = Tu [S [],S [],Bo false]):=cx_tk0
   clear cx_tk0
   rw [kA hg htz ht] at hit
   repeat' (first | refine jR ?_ | (refine jo ?_;first | refine aL F ?_ | refine ab F F F cx_ng F ?_ | refine ab F F F cx_tk F ?_) | refine aD F F F ?_ | refine ac F F ?_ | (refine ad F (by first | rfl | (refine decide_eq_false ?_;(assumption))) ?_))
   all_goals refine jZ (vs:=[_,_,_]) F ⟨F,F,F,trivial⟩ F ⟨hgq,F,?_⟩
   all_goals exact fu (by rw [hit];rfl)
  | some z =>
   obtain ⟨p,r'⟩:=z
   have hl2:=dz ht
   rw [ht] at cx_tk0
   have cx_tk : am abK 38 [S r] Gq (· = Tu [S p,S r',Bo true]):=cx_tk0
   clear cx_tk0
   by_cases hlast : tg ≤ la
   ·rw [n7 hg htz ht hlast] at hit
    repeat' (first | refine jR ?_ | (refine jo ?_;first | refine av F ?_ | refine ab F F F cx_ng F ?_ | refine ab F F F cx_tk F ?_) | refine al F F F ?_ | refine ac F (ay ‹_›) ?_ | (refine ad F (by first | rfl | (refine decide_eq_false ?_;(assumption))) ?_))
    all_goals refine jZ (vs:=[_,_,_]) F ⟨F,F,F,trivial⟩ F ⟨hgq,F,?_⟩
    all_goals exact fu (by rw [hit];rfl)
   have cx_f0:=gG (G:=Gq) (x:=((a,ca),⟨82,nm,fs⟩)) (tag:=tg) ((h.mono hgq).fl _ hxm) (by dsimp only;omega)
   cases hd : bJ fs tg with
   | none =>
    rw [hd] at cx_f0
    have cx_fld : am abK 114 [Ag [U8 (82 : Nat),S nm,.slice a fs.length ca],I tg] Gq (· = Tu [Ag [I 0,S [],S [],S []],Bo false]):=cx_f0
    clear cx_f0
    rw [mQ hg htz ht hlast hd] at hit
    repeat' (first | refine jR ?_ | (refine jo ?_;first | refine av F ?_ | refine aG F ?_ | refine jL fun _=>?_ | refine jC F F F ?_ | refine ab F F F cx_ng F ?_ | refine ab F F F cx_tk F ?_ | refine ab F F F cx_fld F ?_) | refine al F F F ?_ | refine ac F F ?_ | (refine ad F (by first | rfl | (refine decide_eq_false ?_;(assumption))) ?_))
    all_goals exact aW (gs,bs,a1,c1,a2,c2,r',m,tg,Gq) ⟨⟨⟨hbl,hfm,hreps⟩,hgq⟩,⟨hit,by dsimp only;omega⟩,by dsimp only;omega,h0,h1⟩ (by dsimp only;omega) tU rfl sB
   | some d =>
    rw [hd] at cx_f0
    have cx_fld : am abK 114 [Ag [U8 (82 : Nat),S nm,.slice a fs.length ca],I tg] Gq (· = Tu [Ag [I d.tag,S d.name,S d.kind,S d.stand],Bo true]):=cx_f0
    clear cx_f0
    have hdm : d ∈ fs:=List.mem_of_find?_eq_some hd
    have hdt : d.tag = tg:=(gU hd).1
    have hdk : aP (ag vs) d.kind = true:=eS hw hxt (by dsimp only;omega) hdm
    cases hf : cG (rb (ag vs) n) d.kind p with
    | none =>
     have cx_wh0:=nz (G:=Gq) hR (h.mono hgq) hdk oM oM hf
     rw [← edn] at cx_wh0
     rw [n6 hg htz ht hlast hd hf] at hit
     repeat' (first | refine jM ?_ | (refine jo ?_;first | refine av F ?_ | refine aj F ?_ | refine aG F ?_ | refine jL fun _=>?_ | refine jC F F F ?_ | refine ab F F F cx_ng F ?_ | refine ab F F F cx_tk F ?_ | refine ab F F F cx_fld F ?_ | (refine aJ F F F cx_wh0 F ?_;rintro _ G hle ⟨q1,rfl⟩;skip)) | refine al F F F ?_ | refine ac F F ?_ | (refine ad F (by first | rfl | (refine decide_eq_false ?_;(assumption))) ?_))
     all_goals refine jZ (vs:=[_,_,_]) F ⟨F,F,F,trivial⟩ F ⟨(hgq.trans hle),F,?_⟩
     all_goals exact fu (by rw [hit];rfl)
    | some w =>
     have cx_wh1:=kZ (G:=Gq) hR (h.mono hgq) hdk oM oM hf
     rw [← edn] at cx_wh1
     have htot:=iH _ _ _ _ _ (cE hf)
     simp only [List.length_nil] at htot
     rw [n5 hg htz ht hlast hd hf] at hit
     repeat' (first | refine jM ?_ | (refine jo ?_;first | refine av F ?_ | refine aj F ?_ | refine aG F ?_ | refine jL fun _=>?_ | refine jC F F F ?_ | refine ab F F F cx_ng F ?_ | refine ab F F F cx_tk F ?_ | refine ab F F F cx_fld F ?_ | (refine aJ F F F cx_wh1 F ?_;rintro _ G hle ⟨wb,rfl,hrep⟩;skip)) | refine al F F F ?_ | (refine ad F (by first | rfl | (refine decide_eq_false ?_;(assumption))) ?_))
     have hgl:=hgq.trans hle
     have cx_out:=lY hw hrep oM
     have cx_sta:=rf (f:=d) (h.mono hgl) hw hdk
     have hl' : (gs ++ [(d,w)]).length = gs.length + 1:=by simp
     have hbl' : (bs ++ [wb]).length = (gs ++ [(d,w)]).length:=by simp [hbl]
     by_cases heq : w.out = cL (ag vs) d
     ·rw [if_pos heq] at hit
      repeat' (first | refine jR ?_ | (refine ad F ?_ ?_;(focus ((simp [*];done);done))) | (refine ai (an (id:=18) _ (fun _ h=>h) ah ?_);refine jT 5 [0,2] (aa 7 5) ?_;(refine jG (aa 7 13) 3 F (aq F F F) ?_);(refine jG (aa 7 29) 4 F (bq F F F F) ?_);refine jA 1 F ?_;(refine ab F F F cx_out F ?_);refine jS (aa 7 31) ?_;refine jA 5 F ?_;(refine ab F F F cx_sta F ?_);refine jS (aa 7 63) ?_;refine jT 0 [6] (aa 7 127) ?_;refine jQ ?_))
      all_goals exact aW (gs,bs,a1,c1,a2,c2,r',m,tg,G) ⟨⟨⟨hbl,hfm,fun i hi=>(hreps i hi).mono hle⟩,hgl⟩,⟨hit,by dsimp only;omega⟩,by dsimp only;omega,h0,h1⟩ (by dsimp only;omega) tU rfl sB
     ·rw [if_neg heq] at hit
      have hnth : ∀ i,i < (gs ++ [(d,w)]).length → (i < gs.length ∧ ae (gs ++ [(d,w)]) i = ae gs i ∧ ae (bs ++ [wb]) i = ae bs i) ∨ (ae (gs ++ [(d,w)]) i = (d,w) ∧ ae (bs ++ [wb]) i = wb):=fun i hi=>by
       by_cases h1 : i < gs.length
       ·exact .inl ⟨h1,by rw [a6 hi,a6 h1,List.getElem_append_left h1],by rw [a6 oM,a6 oM,List.getElem_append_left oM]⟩
       ·have h2 : i = gs.length:=oM
        exact .inr ⟨by rw [a6 hi];simp [h2],by rw [a6 oM];simp [h2,hbl]⟩
      have hfm' : ∀ i,i < (gs ++ [(d,w)]).length → (ae (gs ++ [(d,w)]) i).1 ∈ fs:=fun i hi=>by
       rcases hnth i hi with ⟨h1,h2,_⟩ | ⟨h2,_⟩
       ·rw [h2];exact hfm i h1
       ·rw [h2];exact hdm
      have hreps' : ∀ i,i < (gs ++ [(d,w)]).length → RepR G (ag vs) (ae (gs ++ [(d,w)]) i).2 (ae (gs ++ [(d,w)]) i).1.kind (ae (bs ++ [wb]) i):=fun i hi=>by
       rcases hnth i hi with ⟨h1,h2,h3⟩ | ⟨h2,h3⟩
       ·rw [h2,h3];exact (hreps i h1).mono hle
       ·rw [h2,h3];exact hrep
      have hnd : oe (gs ++ [(d,w)]) = oe gs ++ [.nd 61 [] d.tag [w]]:=by simp [oe]
      have hrow1 : aA hY (gs.map fun p=>p.1.tag) ++ [I tg] = aA hY ((gs ++ [(d,w)]).map fun p=>p.1.tag):=by rw [← hdt,List.map_append];exact (cy hY _ d.tag).symm
      have hrow2 : aA fY bs ++ [Pt wb 0] = aA fY (bs ++ [wb]):=(cy fY bs wb).symm
      repeat' (first | refine jR ?_ | (refine jo ?_;first | refine aj F ?_ | refine jD F F F ?_ | refine jF fun _=>?_ | refine cQ F F F F F F F F F oM fun _ _=>?_) | refine ac F (ay ‹_›) ?_ | (refine ai (an (id:=18) _ (fun _ h=>h) ah ?_);refine jT 5 [0,2] (aa 7 5) ?_;(refine jG (aa 7 13) 3 F (aq F F F) ?_);(refine jG (aa 7 29) 4 F (bq F F F F) ?_);refine jA 1 F ?_;(refine ab F F F cx_out F ?_);refine jS (aa 7 31) ?_;refine jA 5 F ?_;(refine ab F F F cx_sta F ?_);refine jS (aa 7 63) ?_;refine jT 0 [6] (aa 7 127) ?_;refine jQ ?_))
      all_goals
       rename_i _ y1 yc1 _ y2 yc2
       rw [hrow1,hrow2]
       exact aW (gs ++ [(d,w)],bs ++ [wb],some ⟨y1,0,none⟩,yc1,some ⟨y2,0,none⟩,yc2,r',m,tg,G) ⟨⟨⟨hbl',hfm',hreps'⟩,hgl⟩,⟨(by dsimp only;rw [hit,hnd]),(by dsimp only;omega)⟩,(by dsimp only;omega),h0,h1⟩ (by dsimp only;omega) tU rfl (by rw [hl'];repeat (first | exact List.Sublist.refl _ | apply List.Sublist.cons_cons | apply List.Sublist.cons))
theorem zQ {n : Nat} {u : Value} {vs : List b8} {a : Option Addr} {ca : Nat} {nm : abL} {fs : List Fld} {k s : abL} (h : SchR G u vs) (hw : SchW (ag vs)) (hr : eH vs (64 :: k) = some ((a,ca),⟨69,nm,fs⟩)) (hk : eg (64 :: k) = true) (hkl : k.length ≤ 999) (hs : s.length ≤ 1000) (hn : n ≤ 999) :
  bA abK 109 [Ag [u],S s,S (64 :: k),I (n + 1 : Nat)] G (cg (ag vs) (bP (ag vs) (rb (ag vs) n) ⟨69,nm,fs⟩ s) (64 :: k)):=by
 have hk0 : bt (64 :: k) (Int.toNat 0) = 64:=be 64 k
 have hkl2 : (64 :: k).length = k.length + 1:=rfl
 have hvl : vs.length ≤ 8:=by have:=hw.len;unfold ag at this;simpa using this
 have href:=fW vs (64 :: k)
 rw [hr] at href
 have cx_rf:=k4 (G:=G) (k:=64 :: k) h oM hk oM
 rw [hr] at cx_rf
 have cx_rf : am abK 113 [u,S (64 :: k)] G (· = Tu [Ag [U8 (69 : Nat),S nm,.slice a fs.length ca],Bo true]):=cx_rf
 have hxm:=fQ hr
 have hxt : (⟨69,nm,fs⟩ : Ty) ∈ ag vs:=List.mem_map_of_mem hxm
 have hTW:=hw.ty _ hxt
 have hfl:=hTW.len
 dsimp only at hfl
 have hrd : bP (ag vs) (rb (ag vs) n) ⟨69,nm,fs⟩ s = match bc s with
   | none=>none
   | some (m,r)=>match bJ fs m with
    | none=>none
    | some d=>some (.nd 69 [] d.tag [],r):=by
  unfold bP
  rw [if_neg (by simp)]
  rcases bc s with _ | ⟨m,r⟩
  ·rfl
  ·dsimp only
   rcases bJ fs m with _ | d
   ·rfl
   ·dsimp only;rw [if_pos rfl]
 rw [hrd]
 have cx_ng0:=dR (G:=G) (s:=s) oM
 cases hg : bc s with
 | none =>
  rw [hg] at cx_ng0
  have cx_ng : am abK 71 [S s] G (· = Tu [I 0,S [],Bo false]):=cx_ng0
  clear cx_ng0
  have cx_f0:=gG (G:=G) (x:=((a,ca),⟨69,nm,fs⟩)) (tag:=0) (h.fl _ hxm) (by dsimp only;omega)
  have hd : bJ fs 0 = none:=jg hTW
  rw [hd] at cx_f0
  have cx_fld : am abK 114 [Ag [U8 (69 : Nat),S nm,.slice a fs.length ca],I 0] G (· = Tu [Ag [I 0,S [],S [],S []],Bo false]):=cx_f0
  refine jB [(0,_),(1,_),(2,_),(3,_)] Tryz.func109 Tryz.ntmps109 fun B hok hB hW=>?_
  repeat' (first | refine jR ?_ | (refine jo ?_;first | refine jO fun _=>?_ | refine aj F ?_ | refine aG F ?_ | refine jL fun _=>?_ | refine jC F F F ?_ | refine aL F ?_ | refine ab F F F cx_rf F ?_ | refine ab F F F cx_ng F ?_ | refine ab F F F cx_fld F ?_) | refine aD F F F ?_ | refine ac F F ?_ | refine ad F F ?_)
  all_goals refine jZ (vs:=[_,_,_]) F ⟨F,F,F,trivial⟩ F ⟨Gh.le.refl _,F,?_⟩
  all_goals exact fu F
 | some z =>
  obtain ⟨m,r⟩:=z
  obtain ⟨h1,h2,_⟩:=cm hg
  have hl:=bx hg
  rw [hg] at cx_ng0
  have cx_ng : am abK 71 [S s] G (· = Tu [I m,S r,Bo true]):=cx_ng0
  clear cx_ng0
  have cx_f0:=gG (G:=G) (x:=((a,ca),⟨69,nm,fs⟩)) (tag:=m) (h.fl _ hxm) (by dsimp only;omega)
  dsimp only
  cases hd : bJ fs m with
  | none =>
   rw [hd] at cx_f0
   have cx_fld : am abK 114 [Ag [U8 (69 : Nat),S nm,.slice a fs.length ca],I m] G (· = Tu [Ag [I 0,S [],S [],S []],Bo false]):=cx_f0
   refine jB [(0,_),(1,_),(2,_),(3,_)] Tryz.func109 Tryz.ntmps109 fun B hok hB hW=>?_
   repeat' (first | refine jR ?_ | (refine jo ?_;first | refine jO fun _=>?_ | refine aj F ?_ | refine aG F ?_ | refine jL fun _=>?_ | refine jC F F F ?_ | refine av F ?_ | refine ab F F F cx_rf F ?_ | refine ab F F F cx_ng F ?_ | refine ab F F F cx_fld F ?_) | refine al F F F ?_ | refine ac F F ?_ | refine ad F F ?_)
   all_goals refine jZ (vs:=[_,_,_]) F ⟨F,F,F,trivial⟩ F ⟨Gh.le.refl _,F,?_⟩
   all_goals exact fu F
  | some d =>
   rw [hd] at cx_f0
   have cx_fld : am abK 114 [Ag [U8 (69 : Nat),S nm,.slice a fs.length ca],I m] G (· = Tu [Ag [I d.tag,S d.name,S d.kind,S d.stand],Bo true]):=cx_f0
   have hdm : d ∈ fs:=List.mem_of_find?_eq_some hd
   have hdt : d.tag = m:=(gU hd).1
   refine jB [(0,_),(1,_),(2,_),(3,_)] Tryz.func109 Tryz.ntmps109 fun B hok hB hW=>?_
   repeat' (first | refine jR ?_ | (refine jo ?_;first | refine jO fun _=>?_ | refine aj F ?_ | refine aG F ?_ | refine jL fun _=>?_ | refine jC F F F ?_ | refine av F ?_ | refine jF fun _=>?_ | refine jV (ao F F) ?_ | refine ab F F F cx_rf F ?_ | refine ab F F F cx_ng F ?_ | refine ab F F F cx_fld F ?_) | refine al F F F ?_ | refine ac F F ?_ | refine ad F F ?_)
   all_goals
    rename_i y1 y8
    refine Nx.sealC (b:=y1) fun G2 hG2 hs1=>?_
    refine Nx.sealC (b:=y8) fun G3 hG3 hsg=>?_
    refine jZ (vs:=[_,_,_]) F ⟨F,F,F,trivial⟩ F ⟨(hG2.trans hG3),F,?_⟩
    rw [← hdt] at hs1
    exact oo F (.enm (64 :: k) y8 y1 ⟨69,nm,fs⟩ d ⟨href.symm,F⟩ hdm hsg (hs1.mono hG3))
theorem zH {n : Nat} {u : Value} {vs : List b8} {a : Option Addr} {ca : Nat} {nm : abL} {fs : List Fld} {k s : abL} (hR : lh n u vs) (h : SchR G u vs) (hw : SchW (ag vs)) (hr : eH vs (64 :: k) = some ((a,ca),⟨85,nm,fs⟩)) (hk : eg (64 :: k) = true) (hkl : k.length ≤ 999) (hs : s.length ≤ 1000) (hn : n ≤ 999) :
  bA abK 109 [Ag [u],S s,S (64 :: k),I (n + 1 : Nat)] G (cg (ag vs) (bP (ag vs) (rb (ag vs) n) ⟨85,nm,fs⟩ s) (64 :: k)):=by
 have edn : ((n + 1 : Nat) : Int) - 1 = (n : Nat):=oM
 have hk0 : bt (64 :: k) (Int.toNat 0) = 64:=be 64 k
 have hkl2 : (64 :: k).length = k.length + 1:=rfl
 have hvl : vs.length ≤ 8:=by have:=hw.len;unfold ag at this;simpa using this
 have href:=fW vs (64 :: k)
 rw [hr] at href
 have cx_rf:=k4 (G:=G) (k:=64 :: k) h oM hk oM
 rw [hr] at cx_rf
 have cx_rf : am abK 113 [u,S (64 :: k)] G (· = Tu [Ag [U8 (85 : Nat),S nm,.slice a fs.length ca],Bo true]):=cx_rf
 have hxm:=fQ hr
 have hxt : (⟨85,nm,fs⟩ : Ty) ∈ ag vs:=List.mem_map_of_mem hxm
 have hTW:=hw.ty _ hxt
 have hfl:=hTW.len
 dsimp only at hfl
 have hrd : bP (ag vs) (rb (ag vs) n) ⟨85,nm,fs⟩ s = match bc s with
   | none=>none
   | some (m,r)=>match bJ fs m with
    | none=>none
    | some d=>match bL r with
     | none=>none
     | some (p,r')=>(cG (rb (ag vs) n) d.kind p).map fun v=>(.nd 85 [] d.tag [v],r'):=by
  unfold bP
  rw [if_neg (by simp)]
  rcases bc s with _ | ⟨m,r⟩
  ·rfl
  ·dsimp only
   rcases bJ fs m with _ | d
   ·rfl
   ·dsimp only;rw [if_neg (by simp)]
    all_goals (rcases bL r with _ | ⟨p,r'⟩ <;> rfl)
 rw [hrd]
 have cx_ng0:=dR (G:=G) (s:=s) oM
 cases hg : bc s with
 | none =>
  rw [hg] at cx_ng0
  have cx_ng : am abK 71 [S s] G (· = Tu [I 0,S [],Bo false]):=cx_ng0
  clear cx_ng0
  have cx_f0:=gG (G:=G) (x:=((a,ca),⟨85,nm,fs⟩)) (tag:=0) (h.fl _ hxm) (by dsimp only;omega)
  have hd : bJ fs 0 = none:=jg hTW
  rw [hd] at cx_f0
  have cx_fld : am abK 114 [Ag [U8 (85 : Nat),S nm,.slice a fs.length ca],I 0] G (· = Tu [Ag [I 0,S [],S [],S []],Bo false]):=cx_f0
  refine jB [(0,_),(1,_),(2,_),(3,_)] Tryz.func109 Tryz.ntmps109 fun B hok hB hW=>?_
  repeat' (first | refine jR ?_ | (refine jo ?_;first | refine jO fun _=>?_ | refine aj F ?_ | refine aG F ?_ | refine jL fun _=>?_ | refine jC F F F ?_ | refine aL F ?_ | refine ab F F F cx_rf F ?_ | refine ab F F F cx_ng F ?_ | refine ab F F F cx_fld F ?_) | refine aD F F F ?_ | refine ac F F ?_ | refine ad F F ?_)
  all_goals refine jZ (vs:=[_,_,_]) F ⟨F,F,F,trivial⟩ F ⟨Gh.le.refl _,F,?_⟩
  all_goals exact fu F
 | some z =>
  obtain ⟨m,r⟩:=z
  obtain ⟨h1,h2,_⟩:=cm hg
  have hl:=bx hg
  rw [hg] at cx_ng0
  have cx_ng : am abK 71 [S s] G (· = Tu [I m,S r,Bo true]):=cx_ng0
  clear cx_ng0
  have cx_f0:=gG (G:=G) (x:=((a,ca),⟨85,nm,fs⟩)) (tag:=m) (h.fl _ hxm) (by dsimp only;omega)
  dsimp only
  cases hd : bJ fs m with
  | none =>
   rw [hd] at cx_f0
   have cx_fld : am abK 114 [Ag [U8 (85 : Nat),S nm,.slice a fs.length ca],I m] G (· = Tu [Ag [I 0,S [],S [],S []],Bo false]):=cx_f0
   refine jB [(0,_),(1,_),(2,_),(3,_)] Tryz.func109 Tryz.ntmps109 fun B hok hB hW=>?_
   repeat' (first | refine jR ?_ | (refine jo ?_;first | refine jO fun _=>?_ | refine aj F ?_ | refine aG F ?_ | refine jL fun _=>?_ | refine jC F F F ?_ | refine av F ?_ | refine ab F F F cx_rf F ?_ | refine ab F F F cx_ng F ?_ | refine ab F F F cx_fld F ?_) | refine al F F F ?_ | refine ac F F ?_ | refine ad F F ?_)
   all_goals refine jZ (vs:=[_,_,_]) F ⟨F,F,F,trivial⟩ F ⟨Gh.le.refl _,F,?_⟩
   all_goals exact fu F
  | some d =>
   rw [hd] at cx_f0
   have cx_fld : am abK 114 [Ag [U8 (85 : Nat),S nm,.slice a fs.length ca],I m] G (· = Tu [Ag [I d.tag,S d.name,S d.kind,S d.stand],Bo true]):=cx_f0
   have hdm : d ∈ fs:=List.mem_of_find?_eq_some hd
   have hdt : d.tag = m:=(gU hd).1
   have hdk : aP (ag vs) d.kind = true:=eS hw hxt (by dsimp only;omega) hdm
   have cx_tk0:=iU (G:=G) (s:=r) oM
   dsimp only
   cases ht : bL r with
   | none =>
    rw [ht] at cx_tk0
    have cx_tk : am abK 38 [S r] G (· = Tu [S [],S [],Bo false]):=cx_tk0
    refine jB [(0,_),(1,_),(2,_),(3,_)] Tryz.func109 Tryz.ntmps109 fun B hok hB hW=>?_
    repeat' (first | refine jR ?_ | (refine jo ?_;first | refine jO fun _=>?_ | refine aj F ?_ | refine aG F ?_ | refine jL fun _=>?_ | refine jC F F F ?_ | refine av F ?_ | refine ab F F F cx_rf F ?_ | refine ab F F F cx_ng F ?_ | refine ab F F F cx_fld F ?_ | refine ab F F F cx_tk F ?_) | refine al F F F ?_ | refine ac F F ?_ | refine ad F F ?_)
    all_goals refine jZ (vs:=[_,_,_]) F ⟨F,F,F,trivial⟩ F ⟨Gh.le.refl _,F,?_⟩
    all_goals exact fu F
   | some y =>
    obtain ⟨p,r'⟩:=y
    have hl2:=dz ht
    rw [ht] at cx_tk0
    have cx_tk : am abK 38 [S r] G (· = Tu [S p,S r',Bo true]):=cx_tk0
    dsimp only
    cases hf : cG (rb (ag vs) n) d.kind p with
    | none =>
     have cx_wh0:=nz (G:=G) hR h hdk oM oM hf
     rw [← edn] at cx_wh0
     refine jB [(0,_),(1,_),(2,_),(3,_)] Tryz.func109 Tryz.ntmps109 fun B hok hB hW=>?_
     repeat' (first | refine jM ?_ | (refine jo ?_;first | refine jO fun _=>?_ | refine aj F ?_ | refine aG F ?_ | refine jL fun _=>?_ | refine jC F F F ?_ | refine av F ?_ | refine jF fun _=>?_ | refine jV (ao F F) ?_ | refine ab F F F cx_rf F ?_ | refine ab F F F cx_ng F ?_ | refine ab F F F cx_fld F ?_ | refine ab F F F cx_tk F ?_ | (refine aJ F F F cx_wh0 F ?_;rintro _ G hle ⟨q1,rfl⟩;skip)) | refine al F F F ?_ | refine ad F F ?_)
     all_goals refine jZ (vs:=[_,_,_]) F ⟨F,F,F,trivial⟩ F ⟨hle,F,?_⟩
     all_goals exact fu F
    | some w =>
     have cx_wh1:=kZ (G:=G) hR h hdk oM oM hf
     rw [← edn] at cx_wh1
     refine jB [(0,_),(1,_),(2,_),(3,_)] Tryz.func109 Tryz.ntmps109 fun B hok hB hW=>?_
     repeat' (first | refine jM ?_ | (refine jo ?_;first | refine jO fun _=>?_ | refine aj F ?_ | refine aG F ?_ | refine jL fun _=>?_ | refine jC F F F ?_ | refine av F ?_ | refine jF fun _=>?_ | refine jV (ao F F) ?_ | refine ab F F F cx_rf F ?_ | refine ab F F F cx_ng F ?_ | refine ab F F F cx_fld F ?_ | refine ab F F F cx_tk F ?_ | (refine aJ F F F cx_wh1 F ?_;rintro _ G hle ⟨wb,rfl,hrep⟩;skip)) | refine al F F F ?_ | refine ad F F ?_)
     all_goals
      rename_i y1 y2 y8
      refine Nx.sealC (b:=y1) fun G2 hG2 hs1=>?_
      refine Nx.sealC (b:=y2) fun G3 hG3 hs2=>?_
      refine Nx.sealC (b:=y8) fun G4 hG4 hsg=>?_
      refine jZ (vs:=[_,_,_]) F ⟨F,F,F,trivial⟩ F ⟨(((hle.trans hG2).trans hG3).trans hG4),F,?_⟩
      rw [← hdt] at hs1
      exact oo F (.uni (64 :: k) y8 y1 y2 wb 1 ⟨85,nm,fs⟩ d w (Nat.le_refl _) ⟨href.symm,F⟩ hdm hsg ((hs1.mono hG3).mono hG4) (hs2.mono hG4) (hrep.mono ((hG2.trans hG3).trans hG4)))
theorem zJ {n : Nat} {u : Value} {vs : List b8} {a : Option Addr} {ca : Nat} {nm : abL} {fs : List Fld} {k s : abL} (hR : lh n u vs) (h : SchR G u vs) (hw : SchW (ag vs)) (hr : eH vs (64 :: k) = some ((a,ca),⟨82,nm,fs⟩)) (hk : eg (64 :: k) = true) (hkl : k.length ≤ 999) (hs : s.length ≤ 1000) (hn : n ≤ 999) :
  bA abK 109 [Ag [u],S s,S (64 :: k),I (n + 1 : Nat)] G (cg (ag vs) (bP (ag vs) (rb (ag vs) n) ⟨82,nm,fs⟩ s) (64 :: k)):=by
 have hk0 : bt (64 :: k) (Int.toNat 0) = 64:=be 64 k
 have hkl2 : (64 :: k).length = k.length + 1:=rfl
 have hvl : vs.length ≤ 8:=by have:=hw.len;unfold ag at this;simpa using this
 have cx_rf:=k4 (G:=G) (k:=64 :: k) h oM hk oM
 rw [hr] at cx_rf
 have cx_rf : am abK 113 [u,S (64 :: k)] G (· = Tu [Ag [U8 (82 : Nat),S nm,.slice a fs.length ca],Bo true]):=cx_rf
 have cx_fds:=vm (G:=G) (s:=s) hR h hw hr hk hkl hs hn
 have hrd : bP (ag vs) (rb (ag vs) n) ⟨82,nm,fs⟩ s = (bI (ag vs) (rb (ag vs) n) ⟨82,nm,fs⟩ (s.length + 1) 0 s []).map fun x=>(.nd 82 [] 0 x.1,x.2):=by
  unfold bP;rw [if_pos rfl]
 rw [hrd]
 refine jB [(0,_),(1,_),(2,_),(3,_)] Tryz.func109 Tryz.ntmps109 fun B hok hB hW=>?_
 repeat' (first | refine jR ?_ | (refine jo ?_;first | refine jO fun _=>?_ | refine aj F ?_ | refine aG F ?_ | refine jL fun _=>?_ | refine jC F F F ?_ | refine ab F F F cx_rf F ?_ | (refine aJ F F F cx_fds F ?_;rintro _ G hle ⟨q1,r1,ok1,rfl,hyes,hno⟩;skip)) | refine ac F F ?_)
 all_goals refine jZ (vs:=[_,_,_]) F ⟨F,F,F,trivial⟩ F ⟨hle,F,?_⟩
 all_goals (rw [aB];exact ⟨_,_,_,F,hyes,hno⟩)
theorem zR {n : Nat} {u : Value} {ts : List Ty} {k s : abL} {c e : UInt8} (hc : c = 64) (hu : u.oneCell' = true)
  (cx_typ : bA abK 109 [Ag [u],S (e :: s),S (c :: k),I (n + 1 : Nat)] G (cg ts (rb ts (n + 1) (c :: k) (e :: s)) (c :: k))) (hs : s.length ≤ 999) (hkl : k.length ≤ 1000) (hn : n ≤ 999) :
  bA abK 83 [Ag [u],S (e :: s),S (c :: k),I (n + 1 : Nat)] G (cg ts (rb ts (n + 1) (c :: k) (e :: s)) (c :: k)):=by
 have hel : (e :: s).length = s.length + 1:=rfl
 have hkl2 : (c :: k).length = k.length + 1:=rfl
 subst hc
 have hk0 : bt (64 :: k) (Int.toNat 0) = 64:=be 64 k
 refine jB [(0,_),(1,_),(2,_),(3,_)] Tryz.func83 Tryz.ntmps83 fun B hok hB hW=>?_
 repeat' (first | refine jM ?_ | (refine jo ?_;first | refine jO fun _=>?_ | refine av F ?_ | refine aG F ?_ | (refine aJ F F F cx_typ F ?_;rintro _ G hle ⟨q1,r1,ok1,rfl,hyes,hno⟩;skip)) | refine al F F F ?_ | refine ad F F ?_)
 all_goals refine jZ (vs:=[_,_,_]) F ⟨F,F,F,trivial⟩ F ⟨hle,F,?_⟩
 all_goals (rw [aB];exact ⟨_,_,_,F,hyes,hno⟩)
theorem kN {u : Value} {vs : List b8} (hw : SchW (ag vs)) : ∀ n,n ≤ 1000 → lh n u vs
 | 0,_=>fun G k s _ _ _=>vj (.inr rfl) oM
 | n + 1,hn=>fun G k s h hk hs=>by
  have hR:=kN (u:=u) (vs:=vs) hw n oM
  have hkk:=dc (dp hk)
  have hvl : vs.length ≤ 8:=by have:=hw.len;unfold ag at this;simpa using this
  match s,hs with
  | [],_=>exact vj (.inl F) hn
  | e :: s,hs =>
   have hs1:=hs
   simp only [List.length_cons] at hs
   match k,hk,hkk with
   | [],hk,_=>cases hk
   | c :: k,hk,hkk =>
    have hkl:=hkk.2
    simp only [List.length_cons] at hkl
    by_cases h1 : c.toNat = 91
    ·obtain rfl : c = 91:=bo h1 dC
     exact zN hR h hk oM oM oM
    by_cases h2 : c.toNat = 63
    ·obtain rfl : c = 63:=bo h2 dC
     exact zK hR h hk oM oM
    have h91 : ¬ (c.toNat = 91 ∨ c.toNat = 63):=fun h=>by rcases h with h | h <;> omega
    cases hr : aV (ag vs) (c :: k) with
    | some t =>
     obtain ⟨r,e1⟩:=fX hr
     simp only [List.cons.injEq] at e1
     obtain ⟨rfl,rfl⟩:=e1
     have href:=fW vs (64 :: k)
     rcases hrv : eH vs (64 :: k) with _ | x
     ·rw [hrv,hr] at href;cases href
     obtain ⟨⟨a,ca⟩,⟨so,nm,fs⟩⟩:=x
     have hso:=(hw.ty _ (List.mem_map_of_mem (fQ hrv))).sort
     dsimp only at hso
     rw [hrv] at href
     refine zR F h.sl.one ?_ oM oM oM
     rw [vO href.symm]
     rcases hso with rfl | rfl | rfl
     ·exact zJ hR h hw hrv hkk.1 oM hs1 oM
     ·exact zH hR h hw hrv hkk.1 oM hs1 oM
     ·exact zQ h hw hrv hkk.1 oM hs1 oM
    | none =>
     rcases gL hk h91 hr with e1 | e1 | e1
     ·simp only [List.cons.injEq] at e1
      obtain ⟨rfl,rfl⟩:=e1
      rw [yD hr]
      exact zL h.sl.one (by simp) hs1 oM
     ·simp only [List.cons.injEq] at e1
      obtain ⟨rfl,rfl⟩:=e1
      rw [yB hr]
      exact zI h.sl.one (by simp) hs1 oM
     ·simp only [List.cons.injEq] at e1
      obtain ⟨rfl,rfl⟩:=e1
      rw [yE hr]
      exact zO h.sl.one oM oM
theorem sV {s k b : abL} (h : s.length ≤ 1048576 ∧ k.length ≤ 1048576 ∧ b.length ≤ 1048576) (hg : gg s k b = none) : bA abK 18 [S s,S k,S b] G (fun v _=>∃ u q,v = Tu [u,.pointer q,Bo false]):=by
 by_cases hk : bV s k = true
 case neg =>
  have hk2 : bV s k = false:=by simpa using hk
  have cx_lk1 : ∀ G,bA abK 51 [S s,S k] G (fun v _=>∃ u,v = Tu [u,Bo false]):=fun G=>by
   refine (iV (G:=G) (s:=s) (k:=k) oM oM).mono ?_
   rintro v G' L' ⟨h1,h2,u,vs,rfl,_⟩
   exact ⟨h1,h2,u,by rw [hk2]⟩
  refine jB [(0,_),(1,_),(2,_)] Tryz.func18 Tryz.ntmps18 fun B hok hB hW=>?_
  repeat' (first | refine jR ?_ | (refine jo ?_;first | refine aL F ?_ | (refine aJ F F F (cx_lk1 _) F ?_;rintro _ G hle ⟨u1,rfl⟩;skip)) | refine aD F F F ?_ | refine ac F F ?_)
  all_goals refine jZ (vs:=[_,_,_]) F ⟨F,F,F,trivial⟩ F ⟨hle,F,?_⟩
  all_goals exact ⟨_,_,F⟩
 obtain ⟨ts,hs,hki,hw⟩:=mR hk
 have cx_lka : ∀ G,bA abK 51 [S s,S k] G (fun v G'=>∃ a c vs,v = Tu [.slice a vs.length c,Bo true] ∧ SchR G' (.slice a vs.length c) vs ∧ ag vs = ts):=fun G=>by
  refine (iV (G:=G) (s:=s) (k:=k) oM oM).mono ?_
  rintro v G' L' ⟨h1,h2,u,vs,rfl,h4,_,h6⟩
  obtain ⟨_,⟨rfl,h0⟩ | ⟨b,o,cap,rfl,_,_⟩⟩:=h4.sl
  ·exact ⟨h1,h2,none,0,vs,by rw [hk,h0],by rw [h0];exact h4,h6 ts hs hki⟩
  ·exact ⟨h1,h2,_,cap,vs,by rw [hk],h4,h6 ts hs hki⟩
 by_cases hl : b.length ≤ 600
 case neg =>
  refine jB [(0,_),(1,_),(2,_)] Tryz.func18 Tryz.ntmps18 fun B hok hB hW=>?_
  repeat' (first | refine jR ?_ | (refine jo ?_;first | refine av F ?_ | (refine aJ F F F (cx_lka _) F ?_;rintro _ G hle ⟨av1,cv1,vs1,rfl,hR1,hT1⟩;skip)) | refine al F F F ?_ | refine ac F (ay oM) ?_)
  all_goals refine jZ (vs:=[_,_,_]) F ⟨F,F,F,trivial⟩ F ⟨hle,F,?_⟩
  all_goals exact ⟨_,_,F⟩
 unfold gg at hg
 rw [hs] at hg
 dsimp only at hg
 rw [if_pos ⟨hki,hl⟩] at hg
 refine jB [(0,_),(1,_),(2,_)] Tryz.func18 Tryz.ntmps18 fun B hok hB hW=>?_
 repeat' (first | refine jR ?_ | (refine jo ?_;first | refine av F ?_ | refine jV (ao F F) ?_ | (refine aJ F F F (cx_lka _) F ?_;rintro _ G hle ⟨av1,cv1,vs1,rfl,hR1,hT1⟩;skip)) | refine al F F F ?_ | refine ad F (aC oM) ?_)
 subst hT1
 have hle0:=hle
 cases hf : cG (rb (ag vs1) 12) k b with
 | none =>
  have cx_wh0:=nz (kN (u:=.slice av1 vs1.length cv1) (vs:=vs1) hw 12 oM) hR1 hki oM oM hf
  repeat' (first | refine jR ?_ | (refine jo ?_;(refine aJ F F F cx_wh0 F ?_;rintro _ G hle ⟨q1,rfl⟩;skip)) | refine ac F F ?_)
  all_goals refine jZ (vs:=[_,_,_]) F ⟨F,F,F,trivial⟩ F ⟨(hle0.trans hle),F,?_⟩
  all_goals exact ⟨_,_,F⟩
 | some v =>
  rw [hf] at hg
  have htot:=iH _ _ _ _ _ (cE hf)
  simp only [List.length_nil] at htot
  have hvn : cj (ag vs1) k v.out = none:=rM hw (ky _ _ _ _ (cE hf)).1 fun h=>by dsimp only at hg;rw [if_pos h.1] at hg;cases hg
  have cx_wh1:=kZ (kN (u:=.slice av1 vs1.length cv1) (vs:=vs1) hw 12 oM) hR1 hki oM oM hf
  refine jo ?_
  refine aJ F F F cx_wh1 F ?_
  rintro _ G2 hle2 ⟨wb,rfl,hrep⟩
  have hR2:=hR1.mono hle2
  have cx_out:=lY hw hrep oM
  have cx_bk:=rk (k:=k) (s:=v.out) hw hR2 hki
  rw [hvn] at cx_bk
  repeat' (first | refine jR ?_ | (refine jo ?_;first | refine ab F F F cx_out F ?_ | (refine aJ F F F cx_bk F ?_;rintro _ G hle rfl;skip)) | refine ad F F ?_)
  all_goals refine jZ (vs:=[_,_,_]) F ⟨F,F,F,trivial⟩ F ⟨((hle0.trans hle2).trans hle),F,?_⟩
  all_goals exact ⟨_,_,F⟩
theorem sU {s k b : abL} {v : V} (h : s.length ≤ 1048576 ∧ k.length ≤ 1048576 ∧ b.length ≤ 1048576) (hg : gg s k b = some v) : bA abK 18 [S s,S k,S b] G (fun r G'=>∃ a c vs wb,r = Tu [.slice a vs.length c,Pt wb 0,Bo true] ∧ SchR G' (.slice a vs.length c) vs ∧ aN s = some (ag vs) ∧ RepR G' (ag vs) v k wb):=by
 obtain ⟨ts,hs,hki,hl,hf,ho⟩:=o9 hg
 have hw:=cU hs
 have hk : bV s k = true:=by unfold bV;rw [hs];exact hki
 have cx_lka : ∀ G,bA abK 51 [S s,S k] G (fun v G'=>∃ a c vs,v = Tu [.slice a vs.length c,Bo true] ∧ SchR G' (.slice a vs.length c) vs ∧ ag vs = ts):=fun G=>by
  refine (iV (G:=G) (s:=s) (k:=k) oM oM).mono ?_
  rintro v G' L' ⟨h1,h2,u,vs,rfl,h4,_,h6⟩
  obtain ⟨_,⟨rfl,h0⟩ | ⟨b,o,cap,rfl,_,_⟩⟩:=h4.sl
  ·exact ⟨h1,h2,none,0,vs,by rw [hk,h0],by rw [h0];exact h4,h6 ts hs hki⟩
  ·exact ⟨h1,h2,_,cap,vs,by rw [hk],h4,h6 ts hs hki⟩
 have htot:=iH _ _ _ _ _ (cE hf)
 simp only [List.length_nil] at htot
 obtain ⟨hk1,hd⟩:=ky _ _ _ _ (cE hf)
 have hvs:=m4 hw hk1 ho hd
 refine jB [(0,_),(1,_),(2,_)] Tryz.func18 Tryz.ntmps18 fun B hok hB hW=>?_
 repeat' (first | refine jR ?_ | (refine jo ?_;first | refine av F ?_ | refine jV (ao F F) ?_ | (refine aJ F F F (cx_lka _) F ?_;rintro _ G hle ⟨av1,cv1,vs1,rfl,hR1,hT1⟩;skip)) | refine al F F F ?_ | refine ad F (aC oM) ?_)
 subst hT1
 have hle0:=hle
 have cx_wh1:=kZ (kN (u:=.slice av1 vs1.length cv1) (vs:=vs1) hw 12 oM) hR1 hki oM oM hf
 refine jo ?_
 refine aJ F F F cx_wh1 F ?_
 rintro _ G2 hle2 ⟨wb,rfl,hrep⟩
 have hR2:=hR1.mono hle2
 have cx_out:=lY hw hrep oM
 have cx_bk:=rk (k:=k) (s:=v.out) hw hR2 hki
 rw [hvs] at cx_bk
 repeat' (first | refine jR ?_ | (refine jo ?_;first | refine ab F F F cx_out F ?_ | (refine aJ F F F cx_bk F ?_;rintro _ G hle rfl;skip)) | refine ad F F ?_)
 all_goals refine jZ (vs:=[_,_,_]) F ⟨F,F,F,trivial⟩ F ⟨((hle0.trans hle2).trans hle),F,?_⟩
 all_goals exact ⟨_,_,_,_,F,hR2.mono hle,hs,hrep.mono hle⟩
theorem sA {s k b : abL} {v : V} (h : gg s k b = some v) : v.wf ∧ v.tot ≤ 60000:=by
 obtain ⟨ts,hs,hki,hl,hf,ho⟩:=o9 h
 have htot:=iH _ _ _ _ _ (cE hf)
 simp only [List.length_nil] at htot
 obtain ⟨hk1,hd⟩:=ky _ _ _ _ (cE hf)
 exact ⟨(qi (m4 (cU hs) hk1 ho hd)).1,oM⟩
theorem r5 {s k b : abL} (h : s.length ≤ 1048576 ∧ k.length ≤ 1048576 ∧ b.length ≤ 1048576) : am abK 31 [S s,S k,S b] G (· = i5 ((gg s k b).map V.out)):=by
 cases hg : gg s k b with
 | none =>
  have cx_l50:=sV (G:=G) h hg
  refine jB (Post:=fun v G' L'=>G' = G ∧ L' = [] ∧ _) [(0,_),(1,_),(2,_)] Tryz.func31 Tryz.ntmps31 fun B hok hB hW=>?_
  repeat' (first | refine jR ?_ | (refine jo ?_;(refine aJ F F F cx_l50 F ?_;rintro _ G hle ⟨u5,q5,rfl⟩;skip)) | refine ac F F ?_)
  all_goals refine Nx.base hok hB ?_
  all_goals refine jY (vs:=[_,_]) ?_
  all_goals rfl
 | some v =>
  obtain ⟨hwf,htot⟩:=sA hg
  have cx_l5:=sU (G:=G) h hg
  refine jB (Post:=fun v G' L'=>G' = G ∧ L' = [] ∧ _) [(0,_),(1,_),(2,_)] Tryz.func31 Tryz.ntmps31 fun B hok hB hW=>?_
  repeat' (first | refine jR ?_ | (refine jo ?_;(refine aJ F F F cx_l5 F ?_;rintro _ G hle ⟨a5,c5,vs5,wb5,rfl,hR5,hs5,hrep5⟩;skip)) | refine ad F F ?_)
  have cx_out:=lY (cU hs5) hrep5 oM
  repeat' (first | refine jR ?_ | (refine jo ?_;refine ab F F F cx_out F ?_))
  all_goals refine Nx.base hok hB ?_
  all_goals refine jY (vs:=[_,_]) ?_
  all_goals rfl
theorem qb {s k b : abL} (h : s.length ≤ 1048576 ∧ k.length ≤ 1048576 ∧ b.length ≤ 1048576) : am abK 30 [S s,S k,S b] G (· = Bo (cB s k b).isSome):=by
 cases hg : gg s k b with
 | none =>
  have cx_l50:=sV (G:=G) h hg
  rw [sC hg]
  refine jB (Post:=fun v G' L'=>G' = G ∧ L' = [] ∧ _) [(0,_),(1,_),(2,_)] Tryz.func30 Tryz.ntmps30 fun B hok hB hW=>?_
  repeat' (first | refine jR ?_ | (refine jo ?_;first | refine av F ?_ | (refine aJ F F F cx_l50 F ?_;rintro _ G hle ⟨u5,q5,rfl⟩;skip)) | refine al F F F ?_)
  all_goals refine Nx.base hok hB ?_
  all_goals refine jY (vs:=[_]) ?_
  all_goals rfl
 | some v =>
  obtain ⟨hwf,htot⟩:=sA hg
  have hl5:=sU (G:=G) h hg
  have hres : (cB s k b).isSome = decide (v.bys = b):=by
   rw [om hg]
   by_cases h1 : v.bys = b
   ·rw [if_pos h1,decide_eq_true h1];rfl
   ·rw [if_neg h1,decide_eq_false h1];rfl
  rw [hres]
  refine jB (Post:=fun v G' L'=>G' = G ∧ L' = [] ∧ _) [(0,_),(1,_),(2,_)] Tryz.func30 Tryz.ntmps30 fun B hok hB hW=>?_
  repeat' (refine jR ?_)
  refine jo ?_
  refine aJ F F F hl5 F ?_
  rintro _ G2 hle ⟨a5,c5,vs5,wb5,rfl,hR5,hs5,hrep5⟩
  have cx_bys:=zU (cU hs5) hrep5 hwf oM
  generalize v.bys = vb at cx_bys ⊢
  clear hrep5 hR5 hg hwf htot hres hl5
  repeat' (first | refine jR ?_ | (refine jo ?_;first | refine aL F ?_ | refine ab F F F cx_bys F ?_) | refine aD F F F ?_)
  all_goals refine Nx.base hok hB ?_
  all_goals refine jY (vs:=[_]) ?_
  all_goals rfl
def prF (p : Pr) : List Value:=[S p.1,S p.2]
instance : RowF prF 2:=⟨fun _=>rfl⟩
abbrev Mt:=abL × abL × abL
def c9 (m : Mt) : List Value:=[S m.1,S m.2.1,S m.2.2]
instance : RowF c9 3:=⟨fun _=>rfl⟩
abbrev mY (m : Mt) : Prop:=m.1.length ≤ 9223372036854775807 ∧ m.2.1.length ≤ 9223372036854775807 ∧ m.2.2.length ≤ 9223372036854775807
abbrev mZ (m : Mt) : Prop:=m.1.length ≤ 1048576 ∧ m.2.1.length ≤ 1048576 ∧ m.2.2.length ≤ 1048576
theorem tQ {c : Mt} : am abK 74 [Ag (c9 c)] G (· = Ag (c9 c)):=by
 refine jE [(0,_)] Tryz.func74 Tryz.ntmps74 fun B hB=>?_
 repeat' (first | refine jR ?_ | (refine jo ?_;first | refine jO fun _=>?_ | refine jL fun _=>?_ | refine aj F ?_ | refine aG F ?_ | refine jD F F F ?_ | refine jC F F F ?_))
 refine jZ (vs:=[_]) F ⟨aE F F F F,trivial⟩ F ⟨F,F,?_⟩
 rfl
theorem tY {c e : Mt} : am abK 77 [Ag (c9 c),Ag (c9 e)] G (· = Bo (decide (c = e))):=by
 obtain ⟨c1,c2,c3⟩:=c
 obtain ⟨e1,e2,e3⟩:=e
 refine jE [(0,_),(1,_)] Tryz.func77 Tryz.ntmps77 fun B hB=>?_
 repeat' (first | refine jR ?_ | (refine jo ?_;first | refine jO fun _=>?_ | refine aj F ?_) | refine cT F (fun _=>?_) (fun _=>?_))
 all_goals refine jY (vs:=[_]) ?_
 all_goals (rw [ar];simp_all)
theorem tR {c : Mt} {z : Int} (h : (0 ≤ z ∧ z ≤ 1048576) ∧ mY c) :
  am abK 70 [Ag (c9 c),I z] G (fun v=>∃ z',v = I z' ∧ (0 ≤ z' → z' = z - c.1.length - c.2.1.length - c.2.2.length) ∧ -1 ≤ z'):=by
 obtain ⟨⟨h1,h2⟩,h3,h4,h5⟩:=h
 refine jE [(0,_),(1,_)] Tryz.func70 Tryz.ntmps70 fun B hB=>?_
 repeat' (first | refine jM ?_ | (refine jo ?_;first | refine jO fun _=>?_ | refine aj F ?_) | refine cT F (fun _=>?_) (fun _=>?_))
 all_goals refine jY (vs:=[_]) ?_
 all_goals exact ⟨_,F,oM,oM⟩
theorem rS {u : Value} {a : List Mt} {z : Int} (h : (0 ≤ z ∧ z ≤ 1048576) ∧ a.length ≤ 9223372036854775807) (hu : bh G u 3 a.length (aA c9 a)) (ha : ∀ x ∈ a,mY x) :
  am abK 36 [u,I z] G (fun v=>v = I (-1) ∨ ∃ z',v = I z' ∧ (0 ≤ z' ∧ z' ≤ z ∧ a.length ≤ 1048576) ∧ ∀ x ∈ a,mZ x):=by
 refine jE [(0,_),(1,_)] Tryz.func36 Tryz.ntmps36 fun B hB=>?_
 repeat' (first | refine jM ?_ | (refine jo ?_;refine jV (cY F aS) ?_) | refine cT F (fun _=>?_) (fun _=>?_))
 ·refine jY (vs:=[_]) ?_
  exact .inl F
 ·refine aR (ι:=Nat × Int) (fun i=>i.1 ≤ a.length ∧ 0 ≤ i.2 ∧ i.2 ≤ z - a.length ∧ ∀ k,k < i.1 → mZ (ae a k)) (fun i=>[(0,u),(1,I i.2),(5,I i.1)]) (fun _=>G) (fun i=>[]) (fun i=>a.length - i.1) (0,z - a.length) ?_ tU F aX (fun i Hi=>?_)
  ·refine ⟨oM,by dsimp only;omega,by dsimp only;omega,fun k hk=>absurd hk (by simp)⟩
  obtain ⟨i,m⟩:=i
  dsimp only at Hi ⊢
  by_cases hi : i < a.length
  ·obtain ⟨ba,oa,ca,rfl,sa⟩:=hu.expl oM
   have hx:=ha _ (bT hi)
   repeat' (first | refine jM ?_ | (refine jo ?_;first | refine jV (aw F) ?_ | refine jV (ax F F oM) ?_ | (refine jV (cD F F aS ?_) ?_;focus omega) | (refine cn F F F (tR oM) F ?_;rintro _ ⟨z,rfl,hz1,hz2⟩)) | refine ac F (ay oM) ?_ | refine cT F (fun _=>?_) (fun _=>?_))
   ·refine jY (vs:=[_]) ?_
    exact .inl F
   ·rename_i hz3
    have hz4:=hz1 oM
    refine aW (i + 1,z) ?_ ?_ tU F aX
    ·refine ⟨by dsimp only;omega,by dsimp only;omega,by dsimp only;omega,fun k hk=>?_⟩
     rcases Nat.lt_or_ge k i with h1 | h1
     ·exact Hi.2.2.2 k h1
     ·have : k = i:=by dsimp only at hk;omega
      subst this;unfold mZ;omega
    ·dsimp only;omega
  ·repeat' (first | refine jR ?_ | (refine jo ?_;refine jV (cY F aS) ?_) | refine ad F (aC oM) ?_)
   refine jY (vs:=[_]) ?_
   refine .inr ⟨_,F,oM,fun x hx=>?_⟩
   obtain ⟨k,hk,rfl⟩:=j9 hx
   exact Hi.2.2.2 k oM
theorem rV {u v : Value} {a b : List Mt} (hu : bh G u 3 a.length (aA c9 a)) (hv : bh G v 3 b.length (aA c9 b)) (hn : a.length ≤ 1048576) :
  am abK 48 [u,v] G (· = Bo (decide (a = b))):=by
 refine jE [(0,_),(1,_)] Tryz.func48 Tryz.ntmps48 fun B hB=>?_
 repeat' (first | refine jR ?_ | (refine jo ?_;refine jV (cY F aS) ?_) | refine cT F (fun _=>?_) (fun _=>?_))
 ·refine jY (vs:=[_]) ?_
  rw [ar]
  exact congrArg Bo (decide_eq_false (fun h=>by subst h;simp_all)).symm
 ·have hl : a.length = b.length:=by simp_all;omega
  refine aR (ι:=Nat) (fun i=>i ≤ a.length ∧ a.take i = b.take i) (fun i=>[(0,u),(1,v),(5,I i)]) (fun _=>G) (fun i=>[]) (fun i=>a.length - i) 0 ?_ tU F aX (fun i Hi=>?_)
  ·exact ⟨oM,F⟩
  by_cases hi : i < a.length
  ·obtain ⟨ba,oa,ca,rfl,sa⟩:=hu.expl oM
   obtain ⟨bb,ob,cb,rfl,sb⟩:=hv.expl oM
   repeat' (first | refine jM ?_ | (refine jo ?_;refine jV (aw F) ?_) | refine ac F (ay oM) ?_ | refine kH F (fun _=>?_) (fun _=>?_) | (refine ai (an (id:=6) _ (fun _ h=>h) ah ?_);refine jT 6 [0,1,4,5] (aa 10 51) ?_;(refine jG (aa 10 55) 2 F (ax F F oM) ?_);((refine jG (aa 10 63) 3 F (cD F F aS ?_) ?_;focus omega));(refine jG (aa 10 127) 6 F (ax F F oM) ?_);((refine jG (aa 10 255) 7 F (cD F F aS ?_) ?_;focus omega));refine jA 8 F ?_;(refine ab F F F tY F ?_);refine jS (aa 10 511) ?_;refine jT 0 [9] (aa 10 1023) ?_;refine jQ ?_))
   ·rename_i hne
    refine jY (vs:=[_]) ?_
    rw [ar]
    refine congrArg Bo (decide_eq_false fun h=>?_).symm
    subst h
    simp at hne
   ·rename_i hne
    have he : ae a i = ae b i:=by simpa using hne
    refine aW (i + 1) ?_ ?_ tU F aX
    ·refine ⟨oM,?_⟩
     rw [dK hi,dK oM,Hi.2,he]
    ·omega
  ·repeat' (first | refine jR ?_ | (refine jo ?_;refine jV (cY F aS) ?_) | refine ad F (aC oM) ?_)
   refine jY (vs:=[_]) ?_
   have ei : i = a.length:=oM
   rw [ar]
   refine congrArg Bo (decide_eq_true ?_).symm
   have:=Hi.2
   rw [ei,List.take_length,hl,List.take_length] at this
   exact this
abbrev abt : TypeId:=67
theorem rR {u : Value} {a : List Mt} (hu : bh G u 3 a.length (aA c9 a)) (hn : a.length ≤ 1048576) :
  bA abK 42 [u] G (fun v G'=>∃ u',v = u' ∧ bh G' u' 3 a.length (aA c9 a)):=by
 refine jB [(0,_)] Tryz.func42 Tryz.ntmps42 fun B hok hB hW=>?_
 repeat' (first | refine jR ?_ | (refine jo ?_;first | refine jV (cY F aS) ?_ | refine zC F F F F oM (fun _=>?_)))
 rename_i x
 refine aR (ι:=Nat) (fun i=>i ≤ a.length) (fun i=>[(0,u),(3,.slice (some ⟨x,0,none⟩) a.length a.length),(4,I i)]) (fun _=>G) (fun i=>[.blk x (.cells (aA c9 (a.take i) ++ bw [S [],S [],S []] (a.length - i)).toArray abt (0,0))]) (fun i=>a.length - i) 0 ?_ tU F aX (fun i Hi=>?_)
 ·exact Nat.zero_le _
 by_cases hi : i < a.length
 ·obtain ⟨ba,oa,ca,rfl,sa⟩:=hu.expl oM
  repeat' (first | refine jM ?_ | (refine jo ?_;first | refine jV (aw F) ?_ | refine jV (ax F F oM) ?_ | (refine jV (cD F F aS ?_) ?_;focus omega) | (refine aaO F F F F F F ?_ ?_ ?_;(focus ((simp only [List.length_append,List.length_cons,List.length_nil,List.length_take];omega);done));focus omega) | refine ab F F F tQ F ?_) | refine ac F (ay oM) ?_)
  refine aW (i + 1) oM oM tU F (by rw [dK hi];exact List.Sublist.refl _)
 ·repeat' (first | refine jR ?_ | (refine jo ?_;refine jV (cY F aS) ?_) | refine ad F (aC oM) ?_)
  have ei : i = a.length:=oM
  subst ei
  refine Nx.sealB .here fun G' hle hseg=>?_
  simp only [List.take_length,Nat.sub_self,bw,List.append_nil] at hseg
  exact jZ (vs:=[_]) F ⟨F,trivial⟩ F ⟨hle,F,_,F,⟨iE a,.inr ⟨_,_,_,F,Nat.le_refl _,hseg⟩⟩⟩
end Go.E
