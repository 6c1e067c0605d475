/- Contracts and plain laws that the statement rests on, part 5. Conditions: as each says. -/
import Derived.Test.YtlkjjgmfhafnaabGreatDoorU4
set_option linter.unusedVariables false
set_option linter.unusedSimpArgs false
namespace Go.E
set_option maxRecDepth 20000
set_option maxHeartbeats 2000000
open Go.Proofs
variable {G : Gh}
abbrev xl : TypeId:=77
theorem p7 {k : ye} (hr : a9 (ay k) = none) : bs k = ay k:=by
 unfold bs
 cases hc : ay k with
 | nil=>rfl
 | cons c r =>
  rw [hc] at hr
  have h64 : ¬ c.toNat = 64:=by intro h64;simp [a9,h64] at hr
  simp [lf,h64]
theorem py {ts : List Ty} {k : ye} {t : Ty} (h : aK ts (ay k) = some t) : dc ts (nm k) = some t:=by
 unfold aK at h
 unfold nm
 cases hc : a9 (ay k) with
 | none=>rw [hc] at h;cases h
 | some x=>rw [hc] at h;exact h
theorem oH {qs : List cn} {x : ye} {t : Ty} (h : dc (ag qs) x = some t) : ∃ p,(p,t) ∈ qs ∧ mh (gU qs) x = some (Pt p 0):=by
 have hkv:=dA qs x
 rw [← eV] at h
 rcases hq : dq qs x with _ | ⟨p,t'⟩
 ·rw [hq] at h;cases h
 ·rw [hq] at h hkv
  obtain rfl:=Option.some.inj h
  exact ⟨p,e8 hq,hkv⟩
theorem oZ {eb mb ba bb : Nat} {qs rs : List cn} (hE : bE G eb 0 [Pt ba 0,Pt bb 0,.map (some mb)]) (h1 : ScI G ba qs) (h2 : ScI G bb rs) (w1 : SchW (ag qs)) (w2 : SchW (ag rs)) : ∀ n,r5 G eb mb (ag qs) (ag rs) n:=by
 intro n
 induction n with
 | zero=>intro k1 k2 m hm hf;have:=hm.len;omega
 | succ n ih =>
  intro k1 k2 m hm hf hk1 hk2
  obtain ⟨ua,ma,ga1,ga2,ga3⟩:=h1.at'
  obtain ⟨ub,mb2,gb1,gb2,gb3⟩:=h2.at'
  have at1:=fX (cG hk1)
  have at2:=fX (cG hk2)
  unfold cQ
  by_cases hs : sg k1 = sg k2
  case neg =>
   rw [if_pos hs]
   refine jH [(0,_),(1,_),(2,_)] Tryz.func118 Tryz.ntmps118 fun B hB hW=>?_
   repeat' (first | refine jR ?_ | (refine jo ?_;first | refine jO fun _=>?_ | refine am F ?_ | refine aV F ?_) | refine aU F F (aC ‹_›) ?_ | refine ae F F ?_)
   all_goals exact aM (vs:=[_]) (L':=[.blk mb (bU m)]) F ⟨F,trivial⟩ F sB ⟨F,F,F⟩
  rw [if_neg (by simp [hs])]
  have hs2 : ¬ sg k1 ≠ sg k2:=fun h=>h hs
  have hno : ∀ {k : ye} {ts : List Ty},aO ts k = true → aK ts (ay k) = none → bs k = ay k ∧ ¬ bs k = [64]:=fun hk hr=>by
   have hn:=f4 hk hr
   refine ⟨p7 hn,fun e=>?_⟩
   have:=(fX (cG hk)).1 e
   rw [hn] at this;cases this
  cases r1 : aK (ag qs) (ay k1) with
  | none =>
   obtain ⟨e1,e3⟩:=hno hk1 r1
   dsimp only
   by_cases hcc : ay k1 = ay k2
   ·have hn1:=f4 hk1 r1
    have e2 : bs k2 = ay k2:=p7 (by rw [← hcc];exact hn1)
    have hbb : ¬ bs k1 ≠ bs k2:=fun h=>h (by rw [e1,e2,hcc])
    have hbb2 : bs k1 = bs k2:=by rw [e1,e2,hcc]
    rw [decide_eq_true hcc]
    clear e1 e2
    refine jH [(0,_),(1,_),(2,_)] Tryz.func118 Tryz.ntmps118 fun B hB hW=>?_
    repeat' (first | refine jR ?_ | (refine jo ?_;first | refine jO fun _=>?_ | refine am F ?_ | refine aG F ?_) | refine aE F F (aF ‹_›) ?_ | refine af F (aF ‹_›) ?_ | (refine al (aw (id:=3) _ (fun _ h=>h) ak ?_);refine jT 27 [0] (aa 28 1) ?_;(refine jG (aa 28 3) 1 F (aD F F F) ?_);refine jT 24 [2,3] (aa 28 15) ?_;(try (refine Nx.re (d:=22) (v':=Bo true) F (congrArg Value.bool (aC ‹_›)) ?_));refine jT 15 [4,5,6,7,12,15,16,17,22] (aa 28 4428031) ?_;(refine jN (aa 28 4428287) 8 F ?_);refine jT 12 [9,10] (aa 28 4429823) ?_;(refine jN (aa 28 4431871) 11 F ?_);(refine jN (aa 28 4440063) 13 F ?_);(refine jN (aa 28 4456447) 14 F ?_);(refine jN (aa 28 4718591) 18 F ?_);refine jT 6 [19,20] (aa 28 6291455) ?_;(refine jN (aa 28 8388607) 21 F ?_);(refine jN (aa 28 16777215) 23 F ?_);(refine jN (aa 28 33554431) 24 F ?_);(refine jN (aa 28 67108863) 25 F ?_);(refine jG (aa 28 134217727) 26 F (bL F F F) ?_);refine jT 0 [27] (aa 28 268435455) ?_;refine jQ ?_))
    all_goals exact aM (vs:=[_]) (L':=[.blk mb (bU m)]) F ⟨F,trivial⟩ F sB ⟨F,F,F⟩
   ·have hbb : bs k1 ≠ bs k2:=fun h=>by
     cases r2 : aK (ag rs) (ay k2) with
     | none=>have e4:=(hno hk2 r2).1;rw [e1,e4] at h;exact hcc h
     | some u=>rw [at2.2 (em r2)] at h;exact e3 h
    rw [decide_eq_false hcc]
    clear e1
    refine jH [(0,_),(1,_),(2,_)] Tryz.func118 Tryz.ntmps118 fun B hB hW=>?_
    repeat' (first | refine jR ?_ | (refine jo ?_;first | refine jO fun _=>?_ | refine am F ?_ | refine aG F ?_) | refine aE F F (aF ‹_›) ?_ | refine ae F (aC ‹_›) ?_)
    all_goals exact aM (vs:=[_]) (L':=[.blk mb (bU m)]) F ⟨F,trivial⟩ F sB ⟨F,F,F⟩
  | some t =>
   have b1 : bs k1 = [64]:=at1.2 (em r1)
   cases r2 : aK (ag rs) (ay k2) with
   | none =>
    obtain ⟨e1,e3⟩:=hno hk2 r2
    have hbb : bs k1 ≠ bs k2:=fun h=>e3 (by rw [← h,b1])
    have hcc : ¬ ay k1 = ay k2:=fun e=>by have:=em r1;rw [e,f4 hk2 r2] at this;cases this
    dsimp only
    rw [decide_eq_false hcc]
    clear e1 e3 b1
    refine jH [(0,_),(1,_),(2,_)] Tryz.func118 Tryz.ntmps118 fun B hB hW=>?_
    repeat' (first | refine jR ?_ | (refine jo ?_;first | refine jO fun _=>?_ | refine am F ?_ | refine aG F ?_) | refine aE F F (aF ‹_›) ?_ | refine ae F (aC ‹_›) ?_)
    all_goals exact aM (vs:=[_]) (L':=[.blk mb (bU m)]) F ⟨F,trivial⟩ F sB ⟨F,F,F⟩
   | some u =>
    have b2 : bs k2 = [64]:=at2.2 (em r2)
    obtain ⟨p1,hq1,kv1⟩:=oH (py r1)
    obtain ⟨p2,hq2,kv2⟩:=oH (py r2)
    dsimp only
    have cx_t0:=sR hE h1 h2 w1 w2 ih hq1 hq2 hm hf
    generalize gF (ag qs) (ag rs) (cQ (ag qs) (ag rs) n) t u m = r at cx_t0
    have cx_ts : cg yd 158 [Pt eb 0,Pt p1 0,Pt p2 0] G [.blk mb (bU m)] (fun v L'=>v = Bo r.1 ∧ L' = [.blk mb (bU r.2)]):=cx_t0
    rw [b1,b2]
    refine jH [(0,_),(1,_),(2,_)] Tryz.func118 Tryz.ntmps118 fun B hB hW=>?_
    repeat' (first | refine jR ?_ | (refine jo ?_;first | refine jO fun _=>?_ | refine am F ?_ | refine aG F ?_) | refine aE F F (aF ‹_›) ?_ | refine af F F ?_)
    rename_i x4 x5
    (refine al (aw (id:=3) [.blk x5 (.cells (List.toArray [S (sg k2),S [64],S (nm k2)]) xl (0,0)),.blk x4 (.cells (List.toArray [S (sg k1),S [64],S (nm k1)]) xl (0,0))] (by intro y hy;simp only [List.mem_cons,List.not_mem_nil,or_false] at hy ⊢;rcases hy with hy | hy <;> simp [hy]) ak ?_);refine jW 27 [0] (aa 28 1) ?_;(refine jG (aa 28 3) 1 F (aD F F F) ?_);refine jW 24 [2,3] (aa 28 15) ?_;(try (refine Nx.re (d:=22) (v':=Bo false) F (congrArg Value.bool F) ?_));refine jW 15 [4,5,6,7,12,15,16,17,22] (aa 28 4428031) ?_;(refine jG (aa 28 4428287) 8 F (aA F F aS F F) ?_);refine jW 12 [9,10] (aa 28 4429823) ?_;(refine jG (aa 28 4431871) 11 F (aA F F aS F F) ?_);(refine jG (aa 28 4440063) 13 F (aD F F F) ?_);((refine jG (aa 28 4456447) 14 F (bX F F (dP aS) aS F) ?_));(refine jG (aa 28 4718591) 18 F (aA F F aS F F) ?_);refine jW 6 [19,20] (aa 28 6291455) ?_;(refine jG (aa 28 8388607) 21 F (aA F F aS F F) ?_);(refine jG (aa 28 16777215) 23 F (aD F F F) ?_);((refine jG (aa 28 33554431) 24 F (bX F F (dP aS) aS F) ?_));(refine jA 25 F ?_;(refine gJ F F F cx_ts F ?_;rintro _ _ ⟨rfl,rfl⟩;dsimp only [zA,fA]);refine jS (aa 28 67108863) ?_);(refine jG (aa 28 134217727) 26 F (aP F F F) ?_);refine jT 0 [27] (aa 28 268435455) ?_;refine jQ ?_)
    repeat' (refine jR ?_)
    all_goals exact aM (vs:=[_]) (L':=[.blk mb (bU r.2)]) F ⟨F,trivial⟩ F sB ⟨F,F,F⟩
theorem Nx.addNilP {n : Nat} {D : List Deferred} {E : a8} {B : Base} {L : List Own} {K : Act → World → Prop} (h : Nx n D E B G (.acc ax dl 2 ([] : List Pr).length (aj dE []) :: L) K) : Nx n D E B G L K:=Nx.mk fun a w hs hw=>h.go a w hs (hw.addNil dl 2)
theorem eE {s k r l : ye} (h : bo s k = false ∨ bo r l = false) : bP s k r l = false:=by
 unfold bP
 unfold bo at h
 cases h1 : ar s with
 | none=>rfl
 | some ts =>
  cases h2 : ar r with
  | none=>rfl
  | some us =>
   rw [h1,h2] at h
   dsimp only at h ⊢
   rcases h with h | h <;> rw [h] <;> simp
theorem eD {s k : ye} (h : bo s k = true) : ∃ ts,ar s = some ts ∧ aO ts k = true ∧ SchW ts:=by
 unfold bo at h
 cases h1 : ar s with
 | none=>rw [h1] at h;cases h
 | some ts=>rw [h1] at h;exact ⟨ts,F,h,cS h1⟩
theorem ig {s k r l : ye} {ts us : List Ty} (h1 : ar s = some ts) (h2 : ar r = some us) (k1 : aO ts k = true) (k2 : aO us l = true) : bP s k r l = (cQ ts us (ts.length * us.length + 1) k l []).1:=by
 unfold bP;rw [h1,h2];dsimp only;rw [k1,k2];rfl
theorem sU {s k r l : ye} (hs : s.length ≤ 1048576) (hk : k.length ≤ 1048576) (hr : r.length ≤ 1048576) (hl : l.length ≤ 1048576) :
  ce yd 86 [S s,S k,S r,S l] G (fun v _=>∃ a b,v = Tu [a,b,Bo (bP s k r l)]):=by
 have k0 : ∀ {s k : ye},s.length ≤ 1048576 → k.length ≤ 1048576 → ∀ G,ce yd 62 [S s,S k] G (fun v _=>∃ u,v = Tu [u,Bo (bo s k)]):=fun hs hk G=>by
  refine (gK (G:=G) oM oM).mono ?_
  rintro v G' L' ⟨h1,h2,u,vs,rfl,_⟩
  exact ⟨h1,h2,u,F⟩
 cases e1 : bo s k with
 | false =>
  have cx_lk1:=k0 hs hk
  have cx_lk2:=k0 hr hl
  rw [e1] at cx_lk1
  rw [eE (.inl e1)]
  refine jB [(0,_),(1,_),(2,_),(3,_)] Tryz.func86 Tryz.ntmps86 fun B hok hB hW=>?_
  repeat' (first | refine jR ?_ | (refine jo ?_;first | refine aV F ?_ | (refine aJ F F F (cx_lk1 _) F ?_;rintro _ G hle ⟨u1,rfl⟩;((try have hR1:=SchR.mono hR1 hle);(try have hR1:=ScI.mono hR1 hle))) | (refine aJ F F F (cx_lk2 _) F ?_;rintro _ G hle ⟨u2,rfl⟩;((try have hR1:=SchR.mono hR1 hle);(try have hR1:=ScI.mono hR1 hle)))) | refine aU F F F ?_ | refine ae F F ?_)
  all_goals refine jZ (vs:=[_,_,_]) F ⟨F,F,F,trivial⟩ F ⟨(Gh.le.trans aS hle),F,?_⟩
  all_goals exact ⟨_,_,F⟩
 | true =>
  cases e2 : bo r l with
  | false =>
   have cx_lk1:=k0 hs hk
   have cx_lk2:=k0 hr hl
   rw [e1] at cx_lk1
   rw [e2] at cx_lk2
   rw [eE (.inr e2)]
   refine jB [(0,_),(1,_),(2,_),(3,_)] Tryz.func86 Tryz.ntmps86 fun B hok hB hW=>?_
   repeat' (first | refine jR ?_ | (refine jo ?_;first | refine aG F ?_ | (refine aJ F F F (cx_lk1 _) F ?_;rintro _ G hle ⟨u1,rfl⟩;((try have hR1:=SchR.mono hR1 hle);(try have hR1:=ScI.mono hR1 hle))) | (refine aJ F F F (cx_lk2 _) F ?_;rintro _ G hle ⟨u2,rfl⟩;((try have hR1:=SchR.mono hR1 hle);(try have hR1:=ScI.mono hR1 hle)))) | refine aE F F F ?_ | refine ae F F ?_)
   all_goals refine jZ (vs:=[_,_,_]) F ⟨F,F,F,trivial⟩ F ⟨(Gh.le.trans aS hle),F,?_⟩
   all_goals exact ⟨_,_,F⟩
  | true =>
   obtain ⟨ts,t1,t2,t3⟩:=eD e1
   obtain ⟨us,u1,u2,u3⟩:=eD e2
   have k1 : ∀ {s k : ye} {ts : List Ty},s.length ≤ 1048576 → k.length ≤ 1048576 → ar s = some ts → aO ts k = true → bo s k = true → ∀ G,ce yd 62 [S s,S k] G (fun v G'=>∃ a c vs,v = Tu [.slice a (vs : List cx).length c,Bo true] ∧ SchR G' (.slice a (vs : List cx).length c) vs ∧ aL vs = ts):=fun hs hk h1 h2 h3 G=>by
    refine (gK (G:=G) oM oM).mono ?_
    rintro v G' L' ⟨g1,g2,u,vs,rfl,g3,_,g4⟩
    obtain ⟨a,c,rfl⟩:=g3.sl.sl
    exact ⟨g1,g2,a,c,vs,by rw [h3],g3,g4 _ h1 h2⟩
   have cx_lka:=k1 hs hk t1 t2 e1
   have cx_lkb:=k1 hr hl u1 u2 e2
   rw [ig t1 u1 t2 u2]
   refine jB [(0,_),(1,_),(2,_),(3,_)] Tryz.func86 Tryz.ntmps86 fun B hok hB hW=>?_
   repeat' (first | refine jR ?_ | (refine jo ?_;first | refine aG F ?_ | refine jV (aq F F) ?_ | refine jO fun _=>?_ | (refine aJ F F F (cx_lka _) F ?_;rintro _ G hle ⟨av1,cv1,vs1,rfl,hR1,hT1⟩;((try have hR1:=SchR.mono hR1 hle);(try have hR1:=ScI.mono hR1 hle))) | (refine aJ F F F (cx_lkb _) F ?_;rintro _ G hle ⟨av2,cv2,vs2,rfl,hR2,hT2⟩;((try have hR1:=SchR.mono hR1 hle);(try have hR1:=ScI.mono hR1 hle)))) | refine aE F F F ?_ | refine af F F ?_)
   rename_i ab
   subst hT1
   subst hT2
   have cx_k0:=sZ (ab:=ab) hR1 hR2 t3 u3 ((aL vs1).length * (aL vs2).length + 1) k l [] ax AskW.nil (by simp) t2 u2
   generalize cQ (aL vs1) (aL vs2) ((aL vs1).length * (aL vs2).length + 1) k l [] = q at cx_k0 ⊢
   have cx_ks : cg yd 119 [Pt ab 0,S k,S l] G [.blk ab (.cells (List.toArray [.slice av1 vs1.length cv1,.slice av2 vs2.length cv2,ax]) c5 (0,0)),.acc ax dl 2 ([] : List Pr).length (aj dE [])] (fun v L'=>∃ v',v = Bo q.1 ∧ L' = [.blk ab (.cells (List.toArray [.slice av1 vs1.length cv1,.slice av2 vs2.length cv2,v']) c5 (0,0)),.acc v' dl 2 q.2.length (aj dE q.2)]):=cx_k0
   refine Nx.addNilP ?_
   repeat' (first | refine jR ?_ | (refine jo ?_;(refine gk F F F cx_ks F ?_;rintro _ _ ⟨v2,rfl,rfl⟩;dsimp only [zA,fA])))
   all_goals refine jZ (vs:=[_,_,_]) F ⟨F,F,F,trivial⟩ F ⟨(Gh.le.trans aS hle),F,?_⟩
   all_goals exact ⟨_,_,F⟩
theorem iy {s k r l : ye} (hs : s.length ≤ 1048576) (hk : k.length ≤ 1048576) (hr : r.length ≤ 1048576) (hl : l.length ≤ 1048576) :
  aI yd 51 [S s,S k,S r,S l] G (· = Bo (bP s k r l)):=by
 have cx_l8:=fun G=>sU (G:=G) hs hk hr hl
 refine jB (Post:=fun v G' L'=>G' = G ∧ L' = [] ∧ _) [(0,_),(1,_),(2,_),(3,_)] Tryz.func51 Tryz.ntmps51 fun B hok hB hW=>?_
 repeat' (first | refine jR ?_ | (refine jo ?_;(refine aJ F F F (cx_l8 _) F ?_;rintro _ G hle ⟨x1,x2,rfl⟩;((try have hR1:=SchR.mono hR1 hle);(try have hR1:=ScI.mono hR1 hle)))))
 all_goals refine Nx.base hok hB ?_
 all_goals refine jY (vs:=[_]) ?_
 all_goals rfl
abbrev xj : TypeId:=77
theorem o6 {s k r l : ye} (hs : s.length ≤ 1048576) (hk : k.length ≤ 1048576) (hr : r.length ≤ 1048576) (hl : l.length ≤ 1048576) :
  ce yd 85 [S s,S k,S r,S l] G (fun v _=>∃ p a1 b1 c1 a2 b2 c2,v = Tu [p,Ag [S a1,S b1,S c1],Ag [S a2,S b2,S c2],Bo (bP s k r l)]):=by
 have k0 : ∀ {s k : ye},s.length ≤ 1048576 → k.length ≤ 1048576 → ∀ G,ce yd 52 [S s,S k] G (fun v _=>∃ p a' b c,v = Tu [p,Ag [S a',S b,S c],Bo (bo s k)]):=fun hs hk G=>by
  refine (gM (G:=G) oM oM).mono ?_
  rintro v G' L' ⟨h1,h2,⟨h3,p,a',b,c,rfl⟩ | ⟨b,qs,rfl,h3,h4,_⟩⟩
  ·exact ⟨h1,h2,p,a',b,c,by rw [h3]⟩
  ·exact ⟨h1,h2,_,_,_,_,by unfold bo;rw [h3];dsimp only;rw [h4];rfl⟩
 cases e1 : bo s k with
 | false =>
  have cx_bo1:=k0 hs hk
  have cx_bo2:=k0 hr hl
  rw [e1] at cx_bo1
  rw [eE (.inl e1)]
  refine jB [(0,_),(1,_),(2,_),(3,_)] Tryz.func85 Tryz.ntmps85 fun B hok hB hW=>?_
  repeat' (first | refine jR ?_ | (refine jo ?_;first | refine jL fun _=>?_ | refine jC F F F ?_ | refine aV F ?_ | refine jV (aq F F) ?_ | (refine aJ F F F (cx_bo1 _) F ?_;rintro _ G hle ⟨p1,a1,b1,c1,rfl⟩;((try have hR1:=SchR.mono hR1 hle);(try have hR1:=ScI.mono hR1 hle))) | (refine aJ F F F (cx_bo2 _) F ?_;rintro _ G hle ⟨p2,a2,b2,c2,rfl⟩;((try have hR1:=SchR.mono hR1 hle);(try have hR1:=ScI.mono hR1 hle)))) | refine aU F F F ?_ | refine ae F F ?_)
  all_goals refine jZ (vs:=[_,_,_,_]) F ⟨F,aB F F F F,aB F F F F,F,trivial⟩ F ⟨(Gh.le.trans aS hle),F,?_⟩
  all_goals exact ⟨_,_,_,_,_,_,_,F⟩
 | true =>
  cases e2 : bo r l with
  | false =>
   have cx_bo1:=k0 hs hk
   have cx_bo2:=k0 hr hl
   rw [e1] at cx_bo1
   rw [e2] at cx_bo2
   rw [eE (.inr e2)]
   refine jB [(0,_),(1,_),(2,_),(3,_)] Tryz.func85 Tryz.ntmps85 fun B hok hB hW=>?_
   repeat' (first | refine jR ?_ | (refine jo ?_;first | refine jL fun _=>?_ | refine jC F F F ?_ | refine aG F ?_ | refine jV (aq F F) ?_ | (refine aJ F F F (cx_bo1 _) F ?_;rintro _ G hle ⟨p1,a1,b1,c1,rfl⟩;((try have hR1:=SchR.mono hR1 hle);(try have hR1:=ScI.mono hR1 hle))) | (refine aJ F F F (cx_bo2 _) F ?_;rintro _ G hle ⟨p2,a2,b2,c2,rfl⟩;((try have hR1:=SchR.mono hR1 hle);(try have hR1:=ScI.mono hR1 hle)))) | refine aE F F F ?_ | refine ae F F ?_)
   all_goals refine jZ (vs:=[_,_,_,_]) F ⟨F,aB F F F F,aB F F F F,F,trivial⟩ F ⟨(Gh.le.trans aS hle),F,?_⟩
   all_goals exact ⟨_,_,_,_,_,_,_,F⟩
  | true =>
   obtain ⟨ts,t1,t2,t3⟩:=eD e1
   obtain ⟨us,u1,u2,u3⟩:=eD e2
   have k1 : ∀ {s k : ye} {ts : List Ty},s.length ≤ 1048576 → k.length ≤ 1048576 → ar s = some ts → bo s k = true → ∀ G,ce yd 52 [S s,S k] G (fun v G'=>∃ b qs,v = Tu [Pt b 0,Ag [S (sg k),S (bs k),S (nm k)],Bo true] ∧ ag qs = ts ∧ ScI G' b qs):=fun hs hk h1 h3 G=>by
    refine (gM (G:=G) oM oM).mono ?_
    rintro v G' L' ⟨g1,g2,⟨g3,_⟩ | ⟨b,qs,rfl,g4,g5,g6⟩⟩
    ·rw [h3] at g3;cases g3
    ·rw [h1] at g4;exact ⟨g1,g2,b,qs,F,(Option.some.inj g4).symm,g6⟩
   have cx_boa:=k1 hs hk t1 e1
   have cx_bob:=k1 hr hl u1 e2
   rw [ig t1 u1 t2 u2]
   refine jB [(0,_),(1,_),(2,_),(3,_)] Tryz.func85 Tryz.ntmps85 fun B hok hB hW=>?_
   repeat' (first | refine jR ?_ | (refine jo ?_;first | refine jL fun _=>?_ | refine jC F F F ?_ | refine aG F ?_ | refine jV (aq F F) ?_ | refine tN F fun _=>?_ | refine jO fun _=>?_ | (refine aJ F F F (cx_boa _) F ?_;rintro _ G hle ⟨ba,qa,rfl,hT1,hR1⟩;((try have hR1:=SchR.mono hR1 hle);(try have hR1:=ScI.mono hR1 hle))) | (refine aJ F F F (cx_bob _) F ?_;rintro _ G hle ⟨bb,qb,rfl,hT2,hR2⟩;((try have hR1:=SchR.mono hR1 hle);(try have hR1:=ScI.mono hR1 hle)))) | refine aE F F F ?_ | refine af F F ?_)
   rename_i x9 x10 G1 hle1 hR0 x13 x16 mb eb
   refine Nx.sealC (b:=eb) fun G2 hle2 hE=>?_
   subst hT1
   subst hT2
   have cx_k0:=oZ (mb:=mb) hE (hR1.mono hle2) (hR2.mono hle2) t3 u3 ((ag qa).length * (ag qb).length + 1) k l [] AskW.nil (by simp) t2 u2
   generalize cQ (ag qa) (ag qb) ((ag qa).length * (ag qb).length + 1) k l [] = q at cx_k0 ⊢
   have cx_ks : cg yd 118 [Pt eb 0,Ag [S (sg k),S (bs k),S (nm k)],Ag [S (sg l),S (bs l),S (nm l)]] G2 [.blk mb (bU [])] (fun v L'=>v = Bo q.1 ∧ L' = [.blk mb (bU q.2)]):=cx_k0
   (refine al (aw (id:=6) [.blk x16 (.cells (List.toArray [S (sg l),S (bs l),S (nm l)]) xj (0,0)),.blk x13 (.cells (List.toArray [S (sg k),S (bs k),S (nm k)]) xj (0,0))] (by intro y hy;simp only [List.mem_cons,List.not_mem_nil,or_false] at hy ⊢;rcases hy with hy | hy <;> simp [hy]) ak ?_);refine jW 9 [0,3] (aa 11 9) ?_;(refine jG (aa 11 11) 1 F (bJ F F F F) ?_);(refine jG (aa 11 15) 2 F (bJ F F F F) ?_);(refine jG (aa 11 31) 4 F (bJ F F F F) ?_);(refine jG (aa 11 63) 5 F (bJ F F F F) ?_);refine jA 6 F ?_;(refine gJ F F F cx_ks F ?_;rintro _ _ ⟨rfl,rfl⟩;dsimp only [zA,fA]);refine jK (aa 11 127) ?_;refine jW 3 [7] (aa 11 255) ?_;refine jA 8 F ?_;(refine jC F F F ?_);refine jK (aa 11 511) ?_;refine jA 9 F ?_;(refine jC F F F ?_);refine jK (aa 11 1023) ?_;refine jW 0 [10] (aa 11 2047) ?_;refine jQ ?_)
   repeat' (refine jR ?_)
   all_goals refine jZ (vs:=[_,_,_,_]) F ⟨F,aB F F F F,aB F F F F,F,trivial⟩ F ⟨((Gh.le.trans hle1 hle).trans hle2),F,?_⟩
   all_goals exact ⟨_,_,_,_,_,_,_,F⟩
theorem iz {s k r l : ye} (hs : s.length ≤ 1048576) (hk : k.length ≤ 1048576) (hr : r.length ≤ 1048576) (hl : l.length ≤ 1048576) :
  aI yd 50 [S s,S k,S r,S l] G (· = Bo (bP s k r l)):=by
 have cx_ev:=fun G=>o6 (G:=G) hs hk hr hl
 refine jB (Post:=fun v G' L'=>G' = G ∧ L' = [] ∧ _) [(0,_),(1,_),(2,_),(3,_)] Tryz.func50 Tryz.ntmps50 fun B hok hB hW=>?_
 repeat' (first | refine jR ?_ | (refine jo ?_;first | refine jL fun _=>?_ | refine jC F F F ?_ | (refine aJ F F F (cx_ev _) F ?_;rintro _ G hle ⟨x1,y1,y2,y3,y4,y5,y6,rfl⟩;((try have hR1:=SchR.mono hR1 hle);(try have hR1:=ScI.mono hR1 hle)))))
 all_goals refine Nx.base hok hB ?_
 all_goals refine jY (vs:=[_]) ?_
 all_goals rfl
abbrev Mt:=ye × ye × ye
def eK (m : Mt) : List Value:=[S m.1,S m.2.1,S m.2.2]
instance : RowF eK 3:=⟨fun _=>rfl⟩
abbrev iB (m : Mt) : Prop:=m.1.length ≤ 1048576 ∧ m.2.1.length ≤ 1048576 ∧ m.2.2.length ≤ 1048576
def kh (ss : ye) (m : Mt) : Bool:=bo ss m.2.1 && bo ss m.2.2 && bH m.1
def ck (s : ye) (a : List Mt) (i : Nat) : Bool:=kh s (ac a i) && (i == 0 || Op.bytesLess (ac a (i - 1)).1 (ac a i).1)
def cq (s : ye) (a : List Mt) : Bool:=(ar s).isSome && decide (a.length ≤ 6) && (List.range a.length).all (ck s a)
theorem lU {s : ye} {a : List Mt} {i : Nat} (hi : i < a.length) (h : ck s a i = false) : cq s a = false:=by
 unfold cq
 rw [Bool.and_eq_false_iff];right
 rw [List.all_eq_false]
 exact ⟨i,List.mem_range.2 hi,by rw [h];simp⟩
theorem pw {s : ye} {a : List Mt} (hs : (ar s).isSome = true) (h6 : a.length ≤ 6) (h : ∀ k,k < a.length → ck s a k = true) : cq s a = true:=by
 unfold cq
 rw [hs,decide_eq_true h6]
 simp only [Bool.true_and,List.all_eq_true,List.mem_range]
 exact h
abbrev xY : TypeId:=25
theorem fB {s : ye} {u : Value} {a : List Mt} (h : s.length ≤ 1048576) (hu : bh G u 3 a.length (aj eK a)) (hn : a.length ≤ 1048576) (ha : ∀ x ∈ a,iB x) :
  aI yd 37 [Ag [S s,u]] G (· = Bo (cq s a)):=by
 have hs : s.length ≤ 10000000:=oM
 refine jB (Post:=fun v G' L'=>G' = G ∧ L' = [] ∧ _) [(0,_)] Tryz.func37 Tryz.ntmps37 fun B hok hB hW=>?_
 repeat' (first | refine jR ?_ | (refine jo ?_;first | refine jO fun _=>?_ | refine am F ?_ | refine jV (cJ F aS) ?_ | refine aV F ?_ | refine aG F ?_ | refine ad F F F (lb ‹_›) F ?_) | refine iS F F (fun _=>?_) (fun _=>?_) | refine ae F F ?_ | refine cz F (fun _=>?_) (fun _=>?_))
 ·rename_i h1
  refine Nx.base hok hB ?_
  refine jY (vs:=[_]) ?_
  have h2 : (ar s).isSome = false:=by simpa using h1
  unfold cq;rw [h2];rfl
 ·rename_i h1
  refine Nx.base hok hB ?_
  refine jY (vs:=[_]) ?_
  have h2 : decide (a.length ≤ 6) = false:=by simp;omega
  unfold cq;rw [h2];simp
 rename_i x h1 h2
 refine aT (ι:=Nat × Gh) (fun i=>(i.1 ≤ a.length ∧ Gh.le G i.2) ∧ ∀ k,k < i.1 → ck s a k = true) (fun i=>[(1,Pt x 0),(3,I i.1)]) (fun i=>i.2) (fun i=>[.blk x (.cells #[S s,u] xY (0,0))]) (fun i=>a.length - i.1) (0,G) ?_ tU F bd (fun i Hi=>?_)
 ·exact ⟨⟨Nat.zero_le _,Gh.le.refl _⟩,fun k hk=>absurd hk (by simp)⟩
 obtain ⟨i,G1⟩:=i
 dsimp only at Hi ⊢
 obtain ⟨⟨hi1,hg⟩,hgood⟩:=Hi
 by_cases hi : i < a.length
 ·obtain ⟨ba,oa,ca,rfl,sa⟩:=(hu.mono hg).expl oM
  have hx:=ha _ (a6 hi)
  cases e1 : bo s (ac a i).2.1 <;> cases e2 : bo s (ac a i).2.2 <;> cases e3 : bH (ac a i).1
  all_goals
   have cx_lk1 : ∀ G,ce yd 62 [S s,S (ac a i).2.1] G (fun v _=>∃ u,v = Tu [u,Bo (bo s (ac a i).2.1)]):=fun G=>by
    refine (gK (G:=G) hs oM).mono ?_
    rintro v G' L' ⟨h1,h2,u,vs,rfl,_⟩
    exact ⟨h1,h2,u,F⟩
   have cx_lk2 : ∀ G,ce yd 62 [S s,S (ac a i).2.2] G (fun v _=>∃ u,v = Tu [u,Bo (bo s (ac a i).2.2)]):=fun G=>by
    refine (gK (G:=G) hs oM).mono ?_
    rintro v G' L' ⟨h1,h2,u,vs,rfl,_⟩
    exact ⟨h1,h2,u,F⟩
   have cx_nm2 : ∀ G,aI yd 70 [S (ac a i).1] G (· = Bo (bH (ac a i).1)):=fun G=>dR oM
   rw [e1] at cx_lk1
   rw [e2] at cx_lk2
   rw [e3] at cx_nm2
  case true.true.true =>
   rcases i with _ | j
   ·repeat' (first | refine jM ?_ | (refine jo ?_;first | refine am F ?_ | (refine jV (bq F F aS ?_) ?_;focus omega) | refine jV (ai F) ?_ | refine jV (ah F F oM) ?_ | refine jL fun _=>?_ | refine jC F F F ?_ | (refine aJ F F F (cx_lk1 _) F ?_;rintro _ G hle ⟨u1,rfl⟩;((try have sa:=bE.mono sa hle);(try have hg:=Gh.le.trans hg hle))) | (refine aJ F F F (cx_lk2 _) F ?_;rintro _ G hle ⟨u2,rfl⟩;((try have sa:=bE.mono sa hle);(try have hg:=Gh.le.trans hg hle)))) | refine ae F (aC oM) ?_ | refine af F F ?_ | (refine al (aw (id:=9) _ (fun _ h=>h) ak ?_);refine jT 25 [0,1,2] (aa 28 7) ?_;(try (refine Nx.re (d:=49) (v':=Bo false) F (congrArg Value.bool F) ?_));refine jT 23 [3,4] (aa 28 31) ?_;(refine jG (aa 28 63) 5 F (aP F F F) ?_);refine jT 21 [6] (aa 28 127) ?_;(try (refine Nx.re (d:=53) (v':=Bo false) F (congrArg Value.bool F) ?_));refine jT 20 [7] (aa 28 255) ?_;(refine jG (aa 28 511) 8 F (aD F F F) ?_);(refine jA 9 F ?_;(refine ad F F F (cx_nm2 _) F ?_);refine jS (aa 28 1023) ?_);refine jT 17 [10] (aa 28 2047) ?_;(refine jG (aa 28 4095) 11 F (aP F F F) ?_);refine jT 15 [12] (aa 28 8191) ?_;(try (refine Nx.re (d:=59) (v':=Bo false) F (congrArg Value.bool F) ?_));refine jT 12 [13,14,15] (aa 28 65535) ?_;(try (refine Nx.re (d:=62) (v':=Bo false) F (congrArg Value.bool F) ?_));refine jT 8 [16,18,19,23] (aa 28 9306111) ?_;(refine jN (aa 28 9437183) 17 F ?_);(refine jN (aa 28 10485759) 20 F ?_);refine jT 5 [21] (aa 28 12582911) ?_;(refine jN (aa 28 16777215) 22 F ?_);(refine jN (aa 28 33554431) 24 F ?_);refine jT 2 [25] (aa 28 67108863) ?_;(refine jG (aa 28 134217727) 26 F (aP F F F) ?_);(refine jG (aa 28 268435455) 27 F (aP F F F) ?_);refine jQ ?_))
    refine aW (1,G) ⟨⟨by dsimp only;omega,hg⟩,fun k hk=>?_⟩ (by dsimp only;omega) tU rfl sB
    have : k = 0:=by dsimp only at hk;omega
    subst this
    simp [ck,kh,e1,e2,e3]
   ·have ej : ((((j + 1 : Nat) : Int) - 1).toNat) = j:=oM
    cases e5 : Op.bytesLess (ac a j).1 (ac a (j + 1)).1
    ·have hb : ck s a (j + 1) = false:=by simp [ck,e5]
     have e6 : Op.bytesLess (ac a (((j + 1 : Nat) : Int) - 1).toNat).1 (ac a (j + 1)).1 = false:=by rw [ej];exact e5
     repeat' (first | refine jR ?_ | (refine jo ?_;first | refine am F ?_ | (refine jV (bq F F aS ?_) ?_;focus omega) | refine jV (ai F) ?_ | refine jV (ah F F oM) ?_ | refine jL fun _=>?_ | refine jC F F F ?_ | (refine aJ F F F (cx_lk1 _) F ?_;rintro _ G hle ⟨u1,rfl⟩;((try have sa:=bE.mono sa hle);(try have hg:=Gh.le.trans hg hle))) | (refine aJ F F F (cx_lk2 _) F ?_;rintro _ G hle ⟨u2,rfl⟩;((try have sa:=bE.mono sa hle);(try have hg:=Gh.le.trans hg hle)))) | (refine ae F ?_ ?_;(focus ((first | (refine decide_eq_true ?_;(omega)) | (simp [*];done));done))) | (refine al (aw (id:=9) _ (fun _ h=>h) ak ?_);refine jT 25 [0,1,2] (aa 28 7) ?_;(try (refine Nx.re (d:=49) (v':=Bo false) F (congrArg Value.bool F) ?_));refine jT 23 [3,4] (aa 28 31) ?_;(refine jG (aa 28 63) 5 F (aP F F F) ?_);refine jT 21 [6] (aa 28 127) ?_;(try (refine Nx.re (d:=53) (v':=Bo false) F (congrArg Value.bool F) ?_));refine jT 20 [7] (aa 28 255) ?_;(refine jG (aa 28 511) 8 F (aD F F F) ?_);(refine jA 9 F ?_;(refine ad F F F (cx_nm2 _) F ?_);refine jS (aa 28 1023) ?_);refine jT 17 [10] (aa 28 2047) ?_;(refine jG (aa 28 4095) 11 F (aP F F F) ?_);refine jT 15 [12] (aa 28 8191) ?_;(try (refine Nx.re (d:=59) (v':=Bo false) F (congrArg Value.bool F) ?_));refine jT 12 [13,14,15] (aa 28 65535) ?_;(try ((refine Nx.re (d:=62) (v':=Bo true) F (congrArg Value.bool (aC oM)) ?_)));refine jW 8 [16,18,19,23] (aa 28 9306111) ?_;(refine jG (aa 28 9437183) 17 F (aD F F F) ?_);(refine jG (aa 28 10485759) 20 F (aY F F oM) ?_);refine jT 5 [21] (aa 28 12582911) ?_;((refine jG (aa 28 16777215) 22 F (bi F F aS ?_ F F) ?_;focus omega));(refine jG (aa 28 33554431) 24 F (aD F F F) ?_);refine jT 2 [25] (aa 28 67108863) ?_;(refine jG (aa 28 134217727) 26 F (bL F F F) ?_);(refine jG (aa 28 268435455) 27 F (aP F F F) ?_);refine jQ ?_))
     all_goals refine Nx.base hok hB ?_
     all_goals refine jY (vs:=[_]) ?_
     all_goals rw [aH,lU hi hb]
    ·have hb : ck s a (j + 1) = true:=by simp [ck,kh,e1,e2,e3,e5]
     have e6 : Op.bytesLess (ac a (((j + 1 : Nat) : Int) - 1).toNat).1 (ac a (j + 1)).1 = true:=by rw [ej];exact e5
     repeat' (first | refine jM ?_ | (refine jo ?_;first | refine am F ?_ | (refine jV (bq F F aS ?_) ?_;focus omega) | refine jV (ai F) ?_ | refine jV (ah F F oM) ?_ | refine jL fun _=>?_ | refine jC F F F ?_ | (refine aJ F F F (cx_lk1 _) F ?_;rintro _ G hle ⟨u1,rfl⟩;((try have sa:=bE.mono sa hle);(try have hg:=Gh.le.trans hg hle))) | (refine aJ F F F (cx_lk2 _) F ?_;rintro _ G hle ⟨u2,rfl⟩;((try have sa:=bE.mono sa hle);(try have hg:=Gh.le.trans hg hle)))) | refine ae F (aC oM) ?_ | (refine af F ?_ ?_;(focus ((simp [*];done);done))) | (refine al (aw (id:=9) _ (fun _ h=>h) ak ?_);refine jT 25 [0,1,2] (aa 28 7) ?_;(try (refine Nx.re (d:=49) (v':=Bo false) F (congrArg Value.bool F) ?_));refine jT 23 [3,4] (aa 28 31) ?_;(refine jG (aa 28 63) 5 F (aP F F F) ?_);refine jT 21 [6] (aa 28 127) ?_;(try (refine Nx.re (d:=53) (v':=Bo false) F (congrArg Value.bool F) ?_));refine jT 20 [7] (aa 28 255) ?_;(refine jG (aa 28 511) 8 F (aD F F F) ?_);(refine jA 9 F ?_;(refine ad F F F (cx_nm2 _) F ?_);refine jS (aa 28 1023) ?_);refine jT 17 [10] (aa 28 2047) ?_;(refine jG (aa 28 4095) 11 F (aP F F F) ?_);refine jT 15 [12] (aa 28 8191) ?_;(try (refine Nx.re (d:=59) (v':=Bo false) F (congrArg Value.bool F) ?_));refine jT 12 [13,14,15] (aa 28 65535) ?_;(try ((refine Nx.re (d:=62) (v':=Bo true) F (congrArg Value.bool (aC oM)) ?_)));refine jW 8 [16,18,19,23] (aa 28 9306111) ?_;(refine jG (aa 28 9437183) 17 F (aD F F F) ?_);(refine jG (aa 28 10485759) 20 F (aY F F oM) ?_);refine jT 5 [21] (aa 28 12582911) ?_;((refine jG (aa 28 16777215) 22 F (bi F F aS ?_ F F) ?_;focus omega));(refine jG (aa 28 33554431) 24 F (aD F F F) ?_);refine jT 2 [25] (aa 28 67108863) ?_;(refine jG (aa 28 134217727) 26 F (bL F F F) ?_);(refine jG (aa 28 268435455) 27 F (aP F F F) ?_);refine jQ ?_))
     all_goals
      refine aW (j + 1 + 1,G) ⟨⟨by dsimp only;omega,hg⟩,fun k hk=>?_⟩ (by dsimp only;omega) tU rfl sB
      rcases Nat.lt_or_ge k (j + 1) with h1 | h1
      ·exact hgood k h1
      ·have : k = j + 1:=by dsimp only at hk;omega
       subst this;exact hb
  all_goals
   have hb : ck s a i = false:=by simp [ck,kh,e1,e2,e3]
   repeat' (first | refine jR ?_ | (refine jo ?_;first | refine am F ?_ | (refine jV (bq F F aS ?_) ?_;focus omega) | refine jV (ai F) ?_ | refine jV (ah F F oM) ?_ | refine jL fun _=>?_ | refine jC F F F ?_ | (refine aJ F F F (cx_lk1 _) F ?_;rintro _ G hle ⟨u1,rfl⟩;((try have sa:=bE.mono sa hle);(try have hg:=Gh.le.trans hg hle))) | (refine aJ F F F (cx_lk2 _) F ?_;rintro _ G hle ⟨u2,rfl⟩;((try have sa:=bE.mono sa hle);(try have hg:=Gh.le.trans hg hle)))) | (refine ae F (by first | rfl | (refine decide_eq_true ?_;(omega))) ?_) | (refine al (aw (id:=9) _ (fun _ h=>h) ak ?_);refine jT 25 [0,1,2] (aa 28 7) ?_;(try (first | refine Nx.re (d:=49) (v':=Bo true) F (congrArg Value.bool F) ?_ | refine Nx.re (d:=49) (v':=Bo false) F (congrArg Value.bool F) ?_));refine jT 23 [3,4] (aa 28 31) ?_;(first | refine jG (aa 28 63) 5 F (bL F F F) ?_ | refine jG (aa 28 63) 5 F (aP F F F) ?_);refine jT 21 [6] (aa 28 127) ?_;(try (first | refine Nx.re (d:=53) (v':=Bo true) F (congrArg Value.bool F) ?_ | refine Nx.re (d:=53) (v':=Bo false) F (congrArg Value.bool F) ?_));refine jT 20 [7] (aa 28 255) ?_;(first | refine jG (aa 28 511) 8 F (aD F F F) ?_ | refine jN (aa 28 511) 8 F ?_);(first | refine jN (aa 28 1023) 9 F ?_ | (refine jA 9 F ?_;(refine ad F F F (cx_nm2 _) F ?_);refine jS (aa 28 1023) ?_));refine jT 17 [10] (aa 28 2047) ?_;(first | refine jG (aa 28 4095) 11 F (bL F F F) ?_ | refine jG (aa 28 4095) 11 F (aP F F F) ?_);refine jT 15 [12] (aa 28 8191) ?_;(try (refine Nx.re (d:=59) (v':=Bo true) F (congrArg Value.bool F) ?_));refine jT 12 [13,14,15] (aa 28 65535) ?_;(try (fail));refine jT 8 [16,18,19,23] (aa 28 9306111) ?_;(refine jN (aa 28 9437183) 17 F ?_);(refine jN (aa 28 10485759) 20 F ?_);refine jT 5 [21] (aa 28 12582911) ?_;(refine jN (aa 28 16777215) 22 F ?_);(refine jN (aa 28 33554431) 24 F ?_);refine jT 2 [25] (aa 28 67108863) ?_;(refine jN (aa 28 134217727) 26 F ?_);(refine jG (aa 28 268435455) 27 F (bL F F F) ?_);refine jQ ?_))
   refine Nx.base hok hB ?_
   refine jY (vs:=[_]) ?_
   rw [aH,lU hi hb]
 ·repeat' (first | refine jR ?_ | (refine jo ?_;first | refine am F ?_ | refine jV (cJ F aS) ?_) | refine af F (aF oM) ?_)
  refine Nx.base hok hB ?_
  refine jY (vs:=[_]) ?_
  rw [aH,pw (by simpa using h1) oM (fun k hk=>hgood k oM)]
abbrev xF : TypeId:=25
theorem fC {s : ye} {u : Value} {a : List Mt} (h : s.length ≤ 1048576) (hu : bh G u 3 a.length (aj eK a)) (hn : a.length ≤ 1048576) (ha : ∀ x ∈ a,iB x) :
  aI yd 32 [Ag [S s,u]] G (· = Bo (cq s a)):=by
 have hs : s.length ≤ 10000000:=oM
 refine jB (Post:=fun v G' L'=>G' = G ∧ L' = [] ∧ _) [(0,_)] Tryz.func32 Tryz.ntmps32 fun B hok hB hW=>?_
 repeat' (first | refine jR ?_ | (refine jo ?_;first | refine jO fun _=>?_ | refine am F ?_ | refine jV (cJ F aS) ?_ | refine aV F ?_ | refine aG F ?_ | refine ad F F F (pp oM) F ?_) | refine iS F F (fun _=>?_) (fun _=>?_) | refine ae F F ?_ | refine cz F (fun _=>?_) (fun _=>?_))
 ·rename_i h1
  refine Nx.base hok hB ?_
  refine jY (vs:=[_]) ?_
  have h2 : (ar s).isSome = false:=by simpa using h1
  unfold cq;rw [h2];rfl
 ·rename_i h1
  refine Nx.base hok hB ?_
  refine jY (vs:=[_]) ?_
  have h2 : decide (a.length ≤ 6) = false:=by simp;omega
  unfold cq;rw [h2];simp
 rename_i x h1 h2
 refine aT (ι:=Nat × Gh) (fun i=>(i.1 ≤ a.length ∧ Gh.le G i.2) ∧ ∀ k,k < i.1 → ck s a k = true) (fun i=>[(1,Pt x 0),(22,u),(23,I a.length),(24,I i.1)]) (fun i=>i.2) (fun i=>[.blk x (.cells #[S s,u] xF (0,0))]) (fun i=>a.length - i.1) (0,G) ?_ tU F bd (fun i Hi=>?_)
 ·exact ⟨⟨Nat.zero_le _,Gh.le.refl _⟩,fun k hk=>absurd hk (by simp)⟩
 obtain ⟨i,G1⟩:=i
 dsimp only at Hi ⊢
 obtain ⟨⟨hi1,hg⟩,hgood⟩:=Hi
 by_cases hi : i < a.length
 ·obtain ⟨ba,oa,ca,rfl,sa⟩:=(hu.mono hg).expl oM
  have hx:=ha _ (a6 hi)
  cases e1 : bo s (ac a i).2.1 <;> cases e2 : bo s (ac a i).2.2 <;> cases e3 : bH (ac a i).1
  all_goals
   have cx_bo1 : ∀ G,ce yd 52 [S s,S (ac a i).2.1] G (fun v _=>∃ p a' b c,v = Tu [p,Ag [S a',S b,S c],Bo (bo s (ac a i).2.1)]):=fun G=>by
    refine (gM (G:=G) hs oM).mono ?_
    rintro v G' L' ⟨h1,h2,⟨h3,p,a',b,c,rfl⟩ | ⟨b,qs,rfl,h3,h4,_⟩⟩
    ·exact ⟨h1,h2,p,a',b,c,by rw [h3]⟩
    ·exact ⟨h1,h2,_,_,_,_,by unfold bo;rw [h3];dsimp only;rw [h4];rfl⟩
   have cx_bo2 : ∀ G,ce yd 52 [S s,S (ac a i).2.2] G (fun v _=>∃ p a' b c,v = Tu [p,Ag [S a',S b,S c],Bo (bo s (ac a i).2.2)]):=fun G=>by
    refine (gM (G:=G) hs oM).mono ?_
    rintro v G' L' ⟨h1,h2,⟨h3,p,a',b,c,rfl⟩ | ⟨b,qs,rfl,h3,h4,_⟩⟩
    ·exact ⟨h1,h2,p,a',b,c,by rw [h3]⟩
    ·exact ⟨h1,h2,_,_,_,_,by unfold bo;rw [h3];dsimp only;rw [h4];rfl⟩
   have cx_nm2 : ∀ G,aI yd 66 [S (ac a i).1] G (· = Bo (bH (ac a i).1)):=fun G=>co oM
   rw [e1] at cx_bo1
   rw [e2] at cx_bo2
   rw [e3] at cx_nm2
  case true.true.true =>
   rcases i with _ | j
   ·repeat' (first | refine jM ?_ | (refine jo ?_;first | refine am F ?_ | (refine jV (bq F F aS ?_) ?_;focus omega) | refine jV (ah F F oM) ?_ | refine jL fun _=>?_ | refine jC F F F ?_ | (refine aJ F F F (cx_bo1 _) F ?_;rintro _ G hle ⟨p1,a1,b1,c1,rfl⟩;((try have sa:=bE.mono sa hle);(try have hg:=Gh.le.trans hg hle))) | (refine aJ F F F (cx_bo2 _) F ?_;rintro _ G hle ⟨p2,a2,b2,c2,rfl⟩;((try have sa:=bE.mono sa hle);(try have hg:=Gh.le.trans hg hle)))) | refine ae F (aC oM) ?_ | refine af F F ?_ | (refine al (aw (id:=8) _ (fun _ h=>h) ak ?_);refine jT 25 [0,1,2] (aa 28 7) ?_;(try (refine Nx.re (d:=49) (v':=Bo false) F (congrArg Value.bool F) ?_));refine jT 23 [3,4] (aa 28 31) ?_;(refine jG (aa 28 63) 5 F (aP F F F) ?_);refine jT 21 [6] (aa 28 127) ?_;(try (refine Nx.re (d:=53) (v':=Bo false) F (congrArg Value.bool F) ?_));refine jT 20 [7] (aa 28 255) ?_;(refine jG (aa 28 511) 8 F (aD F F F) ?_);(refine jA 9 F ?_;(refine ad F F F (cx_nm2 _) F ?_);refine jS (aa 28 1023) ?_);refine jT 17 [10] (aa 28 2047) ?_;(refine jG (aa 28 4095) 11 F (aP F F F) ?_);refine jT 15 [12] (aa 28 8191) ?_;(try (refine Nx.re (d:=59) (v':=Bo false) F (congrArg Value.bool F) ?_));refine jT 12 [13,14,15] (aa 28 65535) ?_;(try (refine Nx.re (d:=62) (v':=Bo false) F (congrArg Value.bool F) ?_));refine jT 8 [16,18,19,23] (aa 28 9306111) ?_;(refine jN (aa 28 9437183) 17 F ?_);(refine jN (aa 28 10485759) 20 F ?_);refine jT 5 [21] (aa 28 12582911) ?_;(refine jN (aa 28 16777215) 22 F ?_);(refine jN (aa 28 33554431) 24 F ?_);refine jT 2 [25] (aa 28 67108863) ?_;(refine jG (aa 28 134217727) 26 F (aP F F F) ?_);(refine jG (aa 28 268435455) 27 F (aP F F F) ?_);refine jQ ?_))
    refine aW (1,G) ⟨⟨by dsimp only;omega,hg⟩,fun k hk=>?_⟩ (by dsimp only;omega) tU rfl sB
    have : k = 0:=by dsimp only at hk;omega
    subst this
    simp [ck,kh,e1,e2,e3]
   ·have ej : ((((j + 1 : Nat) : Int) - 1).toNat) = j:=oM
    cases e5 : Op.bytesLess (ac a j).1 (ac a (j + 1)).1
    ·have hb : ck s a (j + 1) = false:=by simp [ck,e5]
     have e6 : Op.bytesLess (ac a (((j + 1 : Nat) : Int) - 1).toNat).1 (ac a (j + 1)).1 = false:=by rw [ej];exact e5
     repeat' (first | refine jR ?_ | (refine jo ?_;first | refine am F ?_ | (refine jV (bq F F aS ?_) ?_;focus omega) | refine jV (ah F F oM) ?_ | refine jL fun _=>?_ | refine jC F F F ?_ | (refine aJ F F F (cx_bo1 _) F ?_;rintro _ G hle ⟨p1,a1,b1,c1,rfl⟩;((try have sa:=bE.mono sa hle);(try have hg:=Gh.le.trans hg hle))) | (refine aJ F F F (cx_bo2 _) F ?_;rintro _ G hle ⟨p2,a2,b2,c2,rfl⟩;((try have sa:=bE.mono sa hle);(try have hg:=Gh.le.trans hg hle)))) | (refine ae F ?_ ?_;(focus ((first | (refine decide_eq_true ?_;(omega)) | (simp [*];done));done))) | (refine al (aw (id:=8) _ (fun _ h=>h) ak ?_);refine jT 25 [0,1,2] (aa 28 7) ?_;(try (refine Nx.re (d:=49) (v':=Bo false) F (congrArg Value.bool F) ?_));refine jT 23 [3,4] (aa 28 31) ?_;(refine jG (aa 28 63) 5 F (aP F F F) ?_);refine jT 21 [6] (aa 28 127) ?_;(try (refine Nx.re (d:=53) (v':=Bo false) F (congrArg Value.bool F) ?_));refine jT 20 [7] (aa 28 255) ?_;(refine jG (aa 28 511) 8 F (aD F F F) ?_);(refine jA 9 F ?_;(refine ad F F F (cx_nm2 _) F ?_);refine jS (aa 28 1023) ?_);refine jT 17 [10] (aa 28 2047) ?_;(refine jG (aa 28 4095) 11 F (aP F F F) ?_);refine jT 15 [12] (aa 28 8191) ?_;(try (refine Nx.re (d:=59) (v':=Bo false) F (congrArg Value.bool F) ?_));refine jT 12 [13,14,15] (aa 28 65535) ?_;(try ((refine Nx.re (d:=62) (v':=Bo true) F (congrArg Value.bool (aC oM)) ?_)));refine jW 8 [16,18,19,23] (aa 28 9306111) ?_;(refine jG (aa 28 9437183) 17 F (aD F F F) ?_);(refine jG (aa 28 10485759) 20 F (aY F F oM) ?_);refine jT 5 [21] (aa 28 12582911) ?_;((refine jG (aa 28 16777215) 22 F (bi F F aS ?_ F F) ?_;focus omega));(refine jG (aa 28 33554431) 24 F (aD F F F) ?_);refine jT 2 [25] (aa 28 67108863) ?_;(refine jG (aa 28 134217727) 26 F (bL F F F) ?_);(refine jG (aa 28 268435455) 27 F (aP F F F) ?_);refine jQ ?_))
     all_goals refine Nx.base hok hB ?_
     all_goals refine jY (vs:=[_]) ?_
     all_goals rw [aH,lU hi hb]
    ·have hb : ck s a (j + 1) = true:=by simp [ck,kh,e1,e2,e3,e5]
     have e6 : Op.bytesLess (ac a (((j + 1 : Nat) : Int) - 1).toNat).1 (ac a (j + 1)).1 = true:=by rw [ej];exact e5
     repeat' (first | refine jM ?_ | (refine jo ?_;first | refine am F ?_ | (refine jV (bq F F aS ?_) ?_;focus omega) | refine jV (ah F F oM) ?_ | refine jL fun _=>?_ | refine jC F F F ?_ | (refine aJ F F F (cx_bo1 _) F ?_;rintro _ G hle ⟨p1,a1,b1,c1,rfl⟩;((try have sa:=bE.mono sa hle);(try have hg:=Gh.le.trans hg hle))) | (refine aJ F F F (cx_bo2 _) F ?_;rintro _ G hle ⟨p2,a2,b2,c2,rfl⟩;((try have sa:=bE.mono sa hle);(try have hg:=Gh.le.trans hg hle)))) | refine ae F (aC oM) ?_ | (refine af F ?_ ?_;(focus ((simp [*];done);done))) | (refine al (aw (id:=8) _ (fun _ h=>h) ak ?_);refine jT 25 [0,1,2] (aa 28 7) ?_;(try (refine Nx.re (d:=49) (v':=Bo false) F (congrArg Value.bool F) ?_));refine jT 23 [3,4] (aa 28 31) ?_;(refine jG (aa 28 63) 5 F (aP F F F) ?_);refine jT 21 [6] (aa 28 127) ?_;(try (refine Nx.re (d:=53) (v':=Bo false) F (congrArg Value.bool F) ?_));refine jT 20 [7] (aa 28 255) ?_;(refine jG (aa 28 511) 8 F (aD F F F) ?_);(refine jA 9 F ?_;(refine ad F F F (cx_nm2 _) F ?_);refine jS (aa 28 1023) ?_);refine jT 17 [10] (aa 28 2047) ?_;(refine jG (aa 28 4095) 11 F (aP F F F) ?_);refine jT 15 [12] (aa 28 8191) ?_;(try (refine Nx.re (d:=59) (v':=Bo false) F (congrArg Value.bool F) ?_));refine jT 12 [13,14,15] (aa 28 65535) ?_;(try ((refine Nx.re (d:=62) (v':=Bo true) F (congrArg Value.bool (aC oM)) ?_)));refine jW 8 [16,18,19,23] (aa 28 9306111) ?_;(refine jG (aa 28 9437183) 17 F (aD F F F) ?_);(refine jG (aa 28 10485759) 20 F (aY F F oM) ?_);refine jT 5 [21] (aa 28 12582911) ?_;((refine jG (aa 28 16777215) 22 F (bi F F aS ?_ F F) ?_;focus omega));(refine jG (aa 28 33554431) 24 F (aD F F F) ?_);refine jT 2 [25] (aa 28 67108863) ?_;(refine jG (aa 28 134217727) 26 F (bL F F F) ?_);(refine jG (aa 28 268435455) 27 F (aP F F F) ?_);refine jQ ?_))
     all_goals
      refine aW (j + 1 + 1,G) ⟨⟨by dsimp only;omega,hg⟩,fun k hk=>?_⟩ (by dsimp only;omega) tU rfl sB
      rcases Nat.lt_or_ge k (j + 1) with h1 | h1
      ·exact hgood k h1
      ·have : k = j + 1:=by dsimp only at hk;omega
       subst this;exact hb
  all_goals
   have hb : ck s a i = false:=by simp [ck,kh,e1,e2,e3]
   repeat' (first | refine jR ?_ | (refine jo ?_;first | refine am F ?_ | (refine jV (bq F F aS ?_) ?_;focus omega) | refine jV (ah F F oM) ?_ | refine jL fun _=>?_ | refine jC F F F ?_ | (refine aJ F F F (cx_bo1 _) F ?_;rintro _ G hle ⟨p1,a1,b1,c1,rfl⟩;((try have sa:=bE.mono sa hle);(try have hg:=Gh.le.trans hg hle))) | (refine aJ F F F (cx_bo2 _) F ?_;rintro _ G hle ⟨p2,a2,b2,c2,rfl⟩;((try have sa:=bE.mono sa hle);(try have hg:=Gh.le.trans hg hle)))) | (refine ae F (by first | rfl | (refine decide_eq_true ?_;(omega))) ?_) | (refine al (aw (id:=8) _ (fun _ h=>h) ak ?_);refine jT 25 [0,1,2] (aa 28 7) ?_;(try (first | refine Nx.re (d:=49) (v':=Bo true) F (congrArg Value.bool F) ?_ | refine Nx.re (d:=49) (v':=Bo false) F (congrArg Value.bool F) ?_));refine jT 23 [3,4] (aa 28 31) ?_;(first | refine jG (aa 28 63) 5 F (bL F F F) ?_ | refine jG (aa 28 63) 5 F (aP F F F) ?_);refine jT 21 [6] (aa 28 127) ?_;(try (first | refine Nx.re (d:=53) (v':=Bo true) F (congrArg Value.bool F) ?_ | refine Nx.re (d:=53) (v':=Bo false) F (congrArg Value.bool F) ?_));refine jT 20 [7] (aa 28 255) ?_;(first | refine jG (aa 28 511) 8 F (aD F F F) ?_ | refine jN (aa 28 511) 8 F ?_);(first | refine jN (aa 28 1023) 9 F ?_ | (refine jA 9 F ?_;(refine ad F F F (cx_nm2 _) F ?_);refine jS (aa 28 1023) ?_));refine jT 17 [10] (aa 28 2047) ?_;(first | refine jG (aa 28 4095) 11 F (bL F F F) ?_ | refine jG (aa 28 4095) 11 F (aP F F F) ?_);refine jT 15 [12] (aa 28 8191) ?_;(try (refine Nx.re (d:=59) (v':=Bo true) F (congrArg Value.bool F) ?_));refine jT 12 [13,14,15] (aa 28 65535) ?_;(try (fail));refine jT 8 [16,18,19,23] (aa 28 9306111) ?_;(refine jN (aa 28 9437183) 17 F ?_);(refine jN (aa 28 10485759) 20 F ?_);refine jT 5 [21] (aa 28 12582911) ?_;(refine jN (aa 28 16777215) 22 F ?_);(refine jN (aa 28 33554431) 24 F ?_);refine jT 2 [25] (aa 28 67108863) ?_;(refine jN (aa 28 134217727) 26 F ?_);(refine jG (aa 28 268435455) 27 F (bL F F F) ?_);refine jQ ?_))
   refine Nx.base hok hB ?_
   refine jY (vs:=[_]) ?_
   rw [aH,lU hi hb]
 ·repeat' (first | refine jR ?_ | refine af F (aF oM) ?_)
  refine Nx.base hok hB ?_
  refine jY (vs:=[_]) ?_
  rw [aH,pw (by simpa using h1) oM (fun k hk=>hgood k oM)]
def fp (a : List Mt) (x : ye) : Option Mt:=a.find? fun m=>decide (m.1 = x)
def dY (s : ye) (a : List Mt) (r : ye) (o : Mt) : Bool:=match fp a o.1 with
 | none=>false
 | some m=>bP s m.2.1 r o.2.1 && bP r o.2.2 s m.2.2
def cP (s : ye) (a : List Mt) (r : ye) (b : List Mt) : Bool:=(cq s a && cq r b) && b.all (dY s a r)
theorem lx {a : List Mt} {x : ye} {i : Nat} (hi : i < a.length) (hno : ∀ k,k < i → (ac a k).1 ≠ x) (h : (ac a i).1 = x) : fp a x = some (ac a i) :=
 mW hi (fun k hk=>by simpa using hno k hk) (by simpa using h)
theorem od {a : List Mt} {x : ye} (hno : ∀ k,k < a.length → (ac a k).1 ≠ x) : fp a x = none:=pN fun k hk=>by simpa using hno k hk
abbrev zM : Mt:=([],[],[])
abbrev xL : TypeId:=42
abbrev xG : TypeId:=25
theorem uG {s x : ye} {u : Value} {a : List Mt} (hu : bh G u 3 a.length (aj eK a)) (hn : a.length ≤ 1048576) :
  aI yd 29 [Ag [S s,u],S x] G (· = Tu [Ag (eK ((fp a x).getD zM)),Bo (fp a x).isSome]):=by
 refine jE [(0,_),(1,_)] Tryz.func29 Tryz.ntmps29 fun B hB=>?_
 repeat' (first | refine jR ?_ | (refine jo ?_;first | refine jO fun _=>?_ | refine jL fun _=>?_))
 rename_i x2 x4
 refine aT (ι:=Nat) (fun i=>i ≤ a.length ∧ ∀ k,k < i → (ac a k).1 ≠ x) (fun i=>[(1,S x),(2,Pt x2 0),(4,Pt x4 0),(6,I i)]) (fun _=>G) (fun i=>[.blk x4 (.cells (List.toArray [S [],S [],S []]) xL (0,0)),.blk x2 (.cells (List.toArray [S s,u]) xG (0,0))]) (fun i=>a.length - i) 0 ?_ tU F bd (fun i Hi=>?_)
 ·exact ⟨Nat.zero_le _,fun k hk=>absurd hk oM⟩
 by_cases hi : i < a.length
 ·obtain ⟨ba,oa,ca,rfl,sa⟩:=hu.expl oM
  repeat' (first | refine jM ?_ | (refine jo ?_;first | refine am F ?_ | (refine jV (bq F F aS ?_) ?_;focus omega) | (refine jV (bi F F aS ?_ F F) ?_;focus omega) | refine jV (ai F) ?_ | refine jV (ah F F oM) ?_ | refine jC F F F ?_) | refine ae F (aC oM) ?_ | refine cz F (fun _=>?_) (fun _=>?_))
  ·rename_i he
   refine jZ (vs:=[_,_]) F ⟨aB F F F F,F,trivial⟩ F ⟨F,F,?_⟩
   rw [lx hi Hi.2 he];rfl
  ·rename_i he
   refine aW (i + 1) ⟨oM,fun k hk=>?_⟩ oM tU F bd
   rcases Nat.lt_or_ge k i with h3 | h3
   ·exact Hi.2 k h3
   ·have : k = i:=oM
    subst this;exact he
 ·repeat' (first | refine jR ?_ | (refine jo ?_;first | refine am F ?_ | refine jV (cJ F aS) ?_ | refine jC F F F ?_ | refine jV (aq F F) ?_) | refine af F (aF oM) ?_)
  refine jZ (vs:=[_,_]) F ⟨aB F F F F,F,trivial⟩ F ⟨F,F,?_⟩
  rw [od fun k hk=>Hi.2 k oM];rfl
abbrev xM : TypeId:=42
abbrev xH : TypeId:=25
theorem sT {s x : ye} {u : Value} {a : List Mt} (hu : bh G u 3 a.length (aj eK a)) (hn : a.length ≤ 1048576) :
  aI yd 31 [Ag [S s,u],S x] G (· = Tu [Ag (eK ((fp a x).getD zM)),Bo (fp a x).isSome]):=by
 refine jE [(0,_),(1,_)] Tryz.func31 Tryz.ntmps31 fun B hB=>?_
 repeat' (first | refine jR ?_ | (refine jo ?_;first | refine jO fun _=>?_ | refine jL fun _=>?_ | refine am F ?_ | refine jV (cJ F aS) ?_))
 rename_i x2 x4
 refine aT (ι:=Nat) (fun i=>i ≤ a.length ∧ ∀ k,k < i → (ac a k).1 ≠ x) (fun i=>[(1,S x),(2,Pt x2 0),(4,Pt x4 0),(9,u),(10,I a.length),(11,I i)]) (fun _=>G) (fun i=>[.blk x4 (.cells (List.toArray [S [],S [],S []]) xM (0,0)),.blk x2 (.cells (List.toArray [S s,u]) xH (0,0))]) (fun i=>a.length - i) 0 ?_ tU F bd (fun i Hi=>?_)
 ·exact ⟨Nat.zero_le _,fun k hk=>absurd hk oM⟩
 by_cases hi : i < a.length
 ·obtain ⟨ba,oa,ca,rfl,sa⟩:=hu.expl oM
  repeat' (first | refine jM ?_ | (refine jo ?_;first | refine jL fun _=>?_ | refine am F ?_ | (refine jV (bq F F aS ?_) ?_;focus omega) | refine aZ F ?_ | refine jV (ah F F oM) ?_ | refine jC F F F ?_) | refine ae F (aC oM) ?_ | refine cz F (fun _=>?_) (fun _=>?_))
  ·rename_i he
   refine jZ (vs:=[_,_]) F ⟨aB F F F F,F,trivial⟩ F ⟨F,F,?_⟩
   rw [lx hi Hi.2 he];rfl
  ·rename_i he
   refine aW (i + 1) ⟨oM,fun k hk=>?_⟩ oM tU F sB
   rcases Nat.lt_or_ge k i with h3 | h3
   ·exact Hi.2 k h3
   ·have : k = i:=oM
    subst this;exact he
 ·repeat' (first | refine jR ?_ | (refine jo ?_;first | refine jC F F F ?_ | refine jV (aq F F) ?_) | refine af F (aF oM) ?_)
  refine jZ (vs:=[_,_]) F ⟨aB F F F F,F,trivial⟩ F ⟨F,F,?_⟩
  rw [od fun k hk=>Hi.2 k oM];rfl
theorem fU {s r : ye} {a b : List Mt} (h : cq s a = false ∨ cq r b = false) : cP s a r b = false:=by
 unfold cP
 rcases h with h | h <;> rw [h] <;> simp
theorem dX {s r : ye} {a b : List Mt} {i : Nat} (hi : i < b.length) (h : dY s a r (ac b i) = false) : cP s a r b = false:=by
 unfold cP
 have : b.all (dY s a r) = false:=by
  rw [List.all_eq_false]
  exact ⟨_,a6 hi,by rw [h];simp⟩
 rw [this,Bool.and_false]
theorem jy {s r : ye} {a b : List Mt} (h1 : cq s a = true) (h2 : cq r b = true) (h : ∀ k,k < b.length → dY s a r (ac b k) = true) : cP s a r b = true:=by
 unfold cP
 have : b.all (dY s a r) = true:=by
  rw [List.all_eq_true]
  intro x hx
  obtain ⟨k,hk,rfl⟩:=gq hx
  exact h k hk
 rw [h1,h2,this];rfl
abbrev uX : TypeId:=25
theorem d8 {s r : ye} {u v : Value} {a b : List Mt} (h : (s.length ≤ 1048576 ∧ a.length ≤ 1048576) ∧ (r.length ≤ 1048576 ∧ b.length ≤ 1048576) ∧ (∀ x ∈ a,iB x) ∧ ∀ x ∈ b,iB x) (hu : bh G u 3 a.length (aj eK a)) (hv : bh G v 3 b.length (aj eK b)) :
  aI yd 21 [Ag [S s,u],Ag [S r,v]] G (· = Bo (cP s a r b)):=by
 obtain ⟨⟨hs,ha⟩,⟨hr,hb⟩,hma,hmb⟩:=h
 cases e1 : cq s a
 ·have cx_so1 : aI yd 37 [Ag [S s,u]] G (· = Bo false):=by rw [← e1];exact fB hs hu ha hma
  rw [fU (.inl e1)]
  refine jE [(0,_),(1,_)] Tryz.func21 Tryz.ntmps21 fun B hB=>?_
  repeat' (first | refine jR ?_ | (refine jo ?_;first | refine jO fun _=>?_ | refine aZ F ?_ | refine aV F ?_ | refine ad F F F cx_so1 F ?_) | refine aU F F F ?_ | refine ae F F ?_)
  all_goals refine jY (vs:=[_]) ?_
  all_goals rfl
 have cx_so1 : aI yd 37 [Ag [S s,u]] G (· = Bo true):=by rw [← e1];exact fB hs hu ha hma
 cases e2 : cq r b
 ·have cx_so2 : aI yd 37 [Ag [S r,v]] G (· = Bo false):=by rw [← e2];exact fB hr hv hb hmb
  rw [fU (.inr e2)]
  refine jE [(0,_),(1,_)] Tryz.func21 Tryz.ntmps21 fun B hB=>?_
  repeat' (first | refine jR ?_ | (refine jo ?_;first | refine jO fun _=>?_ | refine aZ F ?_ | refine aG F ?_ | refine ad F F F cx_so1 F ?_ | refine ad F F F cx_so2 F ?_) | refine aE F F F ?_ | refine ae F F ?_)
  all_goals refine jY (vs:=[_]) ?_
  all_goals rfl
 have cx_so2 : aI yd 37 [Ag [S r,v]] G (· = Bo true):=by rw [← e2];exact fB hr hv hb hmb
 refine jE [(0,_),(1,_)] Tryz.func21 Tryz.ntmps21 fun B hB=>?_
 repeat' (first | refine jR ?_ | (refine jo ?_;first | refine jO fun _=>?_ | refine aZ F ?_ | refine aG F ?_ | refine ad F F F cx_so1 F ?_ | refine ad F F F cx_so2 F ?_) | refine aE F F F ?_ | refine af F F ?_)
 rename_i x2 x3
 refine aT (ι:=Nat) (fun i=>i ≤ b.length ∧ ∀ k,k < i → dY s a r (ac b k) = true) (fun i=>[(2,Pt x2 0),(3,Pt x3 0),(5,I i)]) (fun _=>G) (fun i=>[.blk x3 (.cells (List.toArray [S r,v]) uX (0,0)),.blk x2 (.cells (List.toArray [S s,u]) uX (0,0))]) (fun i=>b.length - i) 0 ?_ tU F bd (fun i Hi=>?_)
 ·exact ⟨Nat.zero_le _,fun k hk=>absurd hk oM⟩
 by_cases hi : i < b.length
 case neg =>
  repeat' (first | refine jR ?_ | (refine jo ?_;first | refine am F ?_ | refine jV (cJ F aS) ?_) | refine af F (aF oM) ?_)
  refine jY (vs:=[_]) ?_
  rw [aH,jy e1 e2 (fun k hk=>Hi.2 k oM)]
 obtain ⟨bb,ob,cb,rfl,sb⟩:=hv.expl oM
 have hxo:=hmb _ (a6 hi)
 have cx_f0:=uG (s:=s) (x:=(ac b i).1) hu ha
 cases hf : fp a (ac b i).1 with
 | none =>
  rw [hf] at cx_f0
  have cx_find : aI yd 29 [Ag [S s,u],S (ac b i).1] G (· = Tu [Ag [S [],S [],S []],Bo false]):=cx_f0
  have hb2 : dY s a r (ac b i) = false:=by unfold dY;rw [hf]
  repeat' (first | refine jR ?_ | (refine jo ?_;first | refine am F ?_ | (refine jV (bq F F aS ?_) ?_;focus omega) | refine aZ F ?_ | refine aV F ?_ | refine jV (ai F) ?_ | refine jV (ah F F oM) ?_ | refine jL fun _=>?_ | refine jC F F F ?_ | refine ad F F F cx_find F ?_) | refine aU F F F ?_ | (refine ae F (by first | rfl | (refine decide_eq_true ?_;(omega))) ?_))
  all_goals refine jY (vs:=[_]) ?_
  all_goals rw [aH,dX hi hb2]
 | some m =>
  rw [hf] at cx_f0
  have cx_find : aI yd 29 [Ag [S s,u],S (ac b i).1] G (· = Tu [Ag [S m.1,S m.2.1,S m.2.2],Bo true]):=cx_f0
  have hxm:=hma _ (List.mem_of_find?_eq_some hf)
  have cx_eva:=iy (G:=G) (s:=s) (k:=m.2.1) (r:=r) (l:=(ac b i).2.1) oM oM oM oM
  have cx_evb:=iy (G:=G) (s:=r) (k:=(ac b i).2.2) (r:=s) (l:=m.2.2) oM oM oM oM
  have hrd : dY s a r (ac b i) = (bP s m.2.1 r (ac b i).2.1 && bP r (ac b i).2.2 s m.2.2):=by unfold dY;rw [hf]
  generalize bP s m.2.1 r (ac b i).2.1 = qa at cx_eva hrd
  generalize bP r (ac b i).2.2 s m.2.2 = qb at cx_evb hrd
  cases qa
  ·repeat' (first | refine jR ?_ | (refine jo ?_;first | refine am F ?_ | (refine jV (bq F F aS ?_) ?_;focus omega) | refine aZ F ?_ | refine aV F ?_ | refine aG F ?_ | refine jV (ai F) ?_ | refine jV (ah F F oM) ?_ | refine jL fun _=>?_ | refine jC F F F ?_ | refine ad F F F cx_find F ?_ | refine ad F F F cx_eva F ?_) | refine aU F F F ?_ | refine aE F F F ?_ | (refine ae F (by first | rfl | (refine decide_eq_true ?_;(omega))) ?_))
   all_goals refine jY (vs:=[_]) ?_
   all_goals rw [aH,dX hi hrd]
  cases qb
  ·repeat' (first | refine jR ?_ | (refine jo ?_;first | refine am F ?_ | (refine jV (bq F F aS ?_) ?_;focus omega) | refine aZ F ?_ | refine aG F ?_ | refine jV (ai F) ?_ | refine jV (ah F F oM) ?_ | refine jL fun _=>?_ | refine jC F F F ?_ | refine ad F F F cx_find F ?_ | refine ad F F F cx_eva F ?_ | refine ad F F F cx_evb F ?_) | refine aE F F F ?_ | (refine ae F (by first | rfl | (refine decide_eq_true ?_;(omega))) ?_))
   all_goals refine jY (vs:=[_]) ?_
   all_goals rw [aH,dX hi hrd]
  repeat' (first | refine jM ?_ | (refine jo ?_;first | refine am F ?_ | (refine jV (bq F F aS ?_) ?_;focus omega) | refine aZ F ?_ | refine aG F ?_ | refine jV (ai F) ?_ | refine jV (ah F F oM) ?_ | refine jL fun _=>?_ | refine jC F F F ?_ | refine ad F F F cx_find F ?_ | refine ad F F F cx_eva F ?_ | refine ad F F F cx_evb F ?_) | refine aE F F F ?_ | refine ae F (aC oM) ?_ | refine af F F ?_)
  all_goals
   refine aW (i + 1) ⟨oM,fun k hk=>?_⟩ oM tU F sB
   rcases Nat.lt_or_ge k i with h3 | h3
   ·exact Hi.2 k h3
   ·have : k = i:=oM
    subst this;exact hrd
theorem rY : ∀ x : ye,Op.bytesLess x x = false
 | []=>rfl
 | a :: x=>by rw [Op.bytesLess,rY x];simp
theorem rX : ∀ {x y z : ye},Op.bytesLess x y = true → Op.bytesLess y z = true → Op.bytesLess x z = true
 | _,[],_,h,_=>by simp [Op.bytesLess] at h
 | _,_ :: _,[],_,h=>by simp [Op.bytesLess] at h
 | [],_ :: _,_ :: _,_,_=>rfl
 | a :: x,b :: y,c :: z,h1,h2=>by
  simp only [Op.bytesLess,Bool.or_eq_true,Bool.and_eq_true,decide_eq_true_eq,beq_iff_eq] at h1 h2 ⊢
  rcases h1 with h1 | ⟨rfl,h1⟩
  ·rcases h2 with h2 | ⟨rfl,h2⟩
   ·exact .inl (UInt8.lt_trans h1 h2)
   ·exact .inl h1
  ·rcases h2 with h2 | ⟨rfl,h2⟩
   ·exact .inl h2
   ·exact .inr ⟨F,rX h1 h2⟩
theorem sD {s : ye} {a : List Mt} (h : ∀ k,k < a.length → ck s a k = true) {i : Nat} : ∀ j,i < j → j < a.length → Op.bytesLess (ac a i).1 (ac a j).1 = true:=by
 intro j
 induction j with
 | zero=>intro h1;omega
 | succ j ih =>
  intro h1 h2
  have hg:=h (j + 1) h2
  unfold ck at hg
  simp only [Bool.and_eq_true,Bool.or_eq_true,Nat.add_sub_cancel] at hg
  have h3 : Op.bytesLess (ac a j).1 (ac a (j + 1)).1 = true:=by
   rcases hg.2 with h4 | h4
   ·simp at h4
   ·exact h4
  by_cases hij : i = j
  ·subst hij;exact h3
  ·exact rX (ih oM oM) h3
theorem lV {s : ye} {a : List Mt} (h : cq s a = true) : ∀ k,k < a.length → ck s a k = true:=by
 unfold cq at h
 simp only [Bool.and_eq_true,List.all_eq_true,List.mem_range] at h
 exact h.2
theorem qv {s : ye} {a : List Mt} (h : cq s a = true) {i : Nat} (hi : i < a.length) : fp a (ac a i).1 = some (ac a i) :=
 lx hi (fun k hk e=>by
  have:=sD (lV h) (i:=k) i hk hi
  rw [e,rY] at this;cases this) rfl
theorem r8 {ts : List Ty} {k s : ye} {u : V} {t : ye} {N : Nat} (hN : 12 ≤ N) (hl : s.length ≤ 400) (h : rd ts N k s = some (u,t)) : cW ts k s = if t = [] ∧ V.deep u ≤ 12 then some u else none:=by
 unfold cW
 rw [if_pos hl]
 cases h12 : rd ts 12 k s with
 | none =>
  dsimp only
  rw [if_neg]
  rintro ⟨_,hd⟩
  have:=tu _ 12 k s _ h hd
  rw [h12] at this;cases this
 | some x =>
  have h1:=tq (m:=N) hN h12
  rw [h] at h1
  have hd:=l6 _ _ _ _ h12
  obtain rfl:=Option.some.inj h1
  dsimp only at hd ⊢
  cases t with
  | nil=>dsimp only;rw [if_pos ⟨rfl,hd⟩]
  | cons c t=>dsimp only;rw [if_neg (fun h=>by cases h.1)]
theorem r9 {ts : List Ty} {k s : ye} {N : Nat} (hN : 12 ≤ N) (hl : s.length ≤ 400) (h : rd ts N k s = none) : cW ts k s = none:=by
 unfold cW
 rw [if_pos hl]
 cases h12 : rd ts 12 k s with
 | none=>rfl
 | some x=>rw [tq (m:=N) hN h12] at h;cases h
theorem uA {b : Nat} {qs : List cn} {k s : ye} (hS : ScI G b qs) (hw : SchW (ag qs)) (hk : aO (ag qs) k = true) (hs : s.length ≤ 10000000) :
  ce yd 92 [Pt b 0,Ag (eH k),S s] G (fun v G'=>(cW (ag qs) k s = none ∧ v = Tu [zP,Bo false]) ∨ ∃ u c,cW (ag qs) k s = some u ∧ v = Tu [Ag (cE c),Bo true] ∧ V.rep G' u c):=by
 unfold eH
 by_cases hl : s.length ≤ 400
 case neg =>
  have hno : cW (ag qs) k s = none:=by unfold cW;rw [if_neg hl]
  refine jB [(0,_),(1,_),(2,_)] Tryz.func92 Tryz.ntmps92 fun B hok hB hW=>?_
  repeat' (first | refine jR ?_ | (refine jo ?_;first | refine jO fun _=>?_ | refine jL fun _=>?_ | refine jV (aq F F) ?_ | refine jC F F F ?_) | refine ae F (aC oM) ?_)
  all_goals refine jZ (vs:=[_,_]) F ⟨aB F F F F,F,trivial⟩ F ⟨Gh.le.refl _,F,?_⟩
  all_goals exact .inl ⟨hno,F⟩
 obtain ⟨N,hN⟩ : ∃ N,s.length + 12 ≤ N:=⟨_,Nat.le_refl _⟩
 have hN2 : 12 ≤ N:=oM
 have hV:=nO (sc:=b) hw N
 have cy_vl : ∀ {r : Nat},ec yd 126 [Pt r 0,Ag (eH k)] G [cX r b s false] (fQ (rd (ag qs) N k) r b s false):=fun {r}=>hV G r k s false hS hk oM oM
 refine jB [(0,_),(1,_),(2,_)] Tryz.func92 Tryz.ntmps92 fun B hok hB hW=>?_
 repeat' (first | refine jR ?_ | (refine jo ?_;first | refine jO fun _=>?_ | refine jL fun _=>?_ | refine jV (aq F F) ?_ | refine aZ F ?_) | refine af F (aF oM) ?_)
 refine jo ?_
 rename_i r
 refine d7 F F F (cy_vl (r:=r)) F ?_
 rintro _ G1 _ hle ⟨u1,c1,t1,b1,rfl,hrep,rfl,hP⟩
 dsimp only [zA,fA]
 obtain ⟨hPl,hP0,hP1⟩:=hP
 cases b1 with
 | true =>
  have hno : cW (ag qs) k s = none:=r9 hN2 hl (by rcases (hP1 rfl).1 with h | h;cases h;exact h)
  repeat' (first | refine jR ?_ | (refine jo ?_;first | refine jL fun _=>?_ | refine jV (aq F F) ?_ | refine jC F F F ?_ | refine am F ?_ | refine aV F ?_) | refine aU F F F ?_ | refine ae F F ?_)
  all_goals refine jZ (vs:=[_,_]) F ⟨aB F F F F,F,trivial⟩ F ⟨hle,F,?_⟩
  all_goals exact .inl ⟨hno,F⟩
 | false =>
  have hrd:=(hP0 rfl).2
  have hof:=r8 hN2 hl hrd
  have htt:=ip _ _ _ _ hrd
  dsimp only at htt
  by_cases ht : t1 = []
  case neg =>
   have hno : cW (ag qs) k s = none:=by rw [hof,if_neg (fun h=>ht h.1)]
   repeat' (first | refine jR ?_ | (refine jo ?_;first | refine jL fun _=>?_ | refine jV (aq F F) ?_ | refine jC F F F ?_ | refine am F ?_ | refine aV F ?_ | refine aG F ?_) | refine aU F F (aC ‹_›) ?_ | refine aE F F F ?_ | refine ae F F ?_)
   all_goals refine jZ (vs:=[_,_]) F ⟨aB F F F F,F,trivial⟩ F ⟨hle,F,?_⟩
   all_goals exact .inl ⟨hno,F⟩
  have hnn : ¬ t1 ≠ []:=fun h=>h ht
  have cx_dp:=wc (G:=G1) u1.tot (Nat.le_refl _) oM hrep
  have hdt:=oN u1
  by_cases hd : V.deep u1 ≤ 12
  ·have hyes : cW (ag qs) k s = some u1:=by rw [hof,if_pos ⟨ht,hd⟩]
   repeat' (first | refine jR ?_ | (refine jo ?_;first | refine jL fun _=>?_ | refine jC F F F ?_ | refine am F ?_ | refine aZ F ?_ | refine aG F ?_ | refine ad F F F cx_dp F ?_) | (refine aE F F (by first | rfl | (refine decide_eq_false ?_;(assumption))) ?_) | refine af F (aF oM) ?_)
   all_goals refine jZ (vs:=[_,_]) F ⟨aB F F F F,F,trivial⟩ F ⟨hle,F,?_⟩
   all_goals exact .inr ⟨u1,c1,hyes,F,hrep⟩
  ·have hno : cW (ag qs) k s = none:=by rw [hof,if_neg (fun h=>hd h.2)]
   repeat' (first | refine jR ?_ | (refine jo ?_;first | refine jL fun _=>?_ | refine jV (aq F F) ?_ | refine jC F F F ?_ | refine am F ?_ | refine aZ F ?_ | refine aG F ?_ | refine ad F F F cx_dp F ?_) | (refine aE F F (by first | rfl | (refine decide_eq_false ?_;(assumption))) ?_) | refine ae F (aC oM) ?_)
   all_goals refine jZ (vs:=[_,_]) F ⟨aB F F F F,F,trivial⟩ F ⟨hle,F,?_⟩
   all_goals exact .inl ⟨hno,F⟩
theorem pl {s k : ye} (h : bo s k = true) : ∃ ts,ar s = some ts ∧ aO ts k = true ∧ SchW ts:=by
 unfold bo at h
 cases h1 : ar s with
 | none=>rw [h1] at h;cases h
 | some ts=>rw [h1] at h;exact ⟨ts,F,h,cS h1⟩
def oA (s k v : ye) : Option V:=match ar s with
 | some ts=>if aO ts k = true then cW ts k v else none
 | none=>none
def vh (b : Nat) : List Value:=[Pt b 0]
instance : RowF vh 1:=⟨fun _=>rfl⟩
def xu (n : Int) : List Value:=[I n]
instance : RowF xu 1:=⟨fun _=>rfl⟩
inductive RepR (G : Gh) (ts : List Ty) : V → ye → Nat → Prop
 | leaf (w : Nat) (x k tx : ye) (b : Nat) : bE G b 0 [S k,S tx,ax,ax] → ((w = 110 ∧ k = [110] ∧ tx = x ∧ ∀ c ∈ x,bj c = true) ∨ (w = 116 ∧ k = [116] ∧ tx = 39 :: (x ++ [39])) ∨ (w = 102 ∧ k = [102] ∧ tx = x ∧ (x = [121,101,115] ∨ x = [110,111]))) → RepR G ts (.nd w x 0 []) k b
 | lst (k : ye) (b : Nat) (ks : List V) (bs : List Nat) (a : Option Addr) (c : Nat) : bE G b 0 [S (91 :: k),S [],ax,.slice a ks.length c] → bh G (.slice a ks.length c) 1 ks.length (aj vh bs) → bs.length = ks.length → (∀ i,i < ks.length → RepR G ts (ac ks i) k (ac bs i)) → RepR G ts (.nd 91 [] 0 ks) (91 :: k) b
 | non (k : ye) (b : Nat) : bE G b 0 [S (63 :: k),S [],ax,ax] → RepR G ts (.nd 63 [] 0 []) (63 :: k) b
 | opt (k : ye) (b kb b' cc : Nat) (v : V) : 1 ≤ cc → bE G b 0 [S (63 :: k),S [],ax,.slice (some ⟨kb,0,none⟩) 1 cc] → bE G kb 0 [Pt b' 0] → RepR G ts v k b' → RepR G ts (.nd 63 [] 0 [v]) (63 :: k) b
 | recd (k : ye) (b : Nat) (t : Ty) (fs : List (Fld × V)) (bs : List Nat) (a a2 : Option Addr) (c c2 : Nat) : aK ts k = some t ∧ t.sort = 82 → bE G b 0 [S k,S [82],.slice a fs.length c,.slice a2 fs.length c2] → bh G (.slice a fs.length c) 1 fs.length (aj xu (fs.map fun p=>p.1.tag)) → bh G (.slice a2 fs.length c2) 1 fs.length (aj vh bs) → bs.length = fs.length → (∀ i,i < fs.length → (ac fs i).1 ∈ t.fields) → (∀ i,i < fs.length → RepR G ts (ac fs i).2 (ac fs i).1.kind (ac bs i)) → RepR G ts (.nd 82 [] 0 (fs.map fun p=>.nd 61 [] p.1.tag [p.2])) k b
 | enm (k : ye) (b tb : Nat) (t : Ty) (d : Fld) {tc : Nat} : aK ts k = some t ∧ t.sort = 69 → d ∈ t.fields → bE G b 0 [S k,S [69],.slice (some ⟨tb,0,none⟩) 1 (tc + 1),ax] → bE G tb 0 [I d.tag] → RepR G ts (.nd 69 [] d.tag []) k b
 | uni (k : ye) (b tb kb b' cc : Nat) (t : Ty) (d : Fld) (v : V) {tc : Nat} : 1 ≤ cc → aK ts k = some t ∧ t.sort = 85 → d ∈ t.fields → bE G b 0 [S k,S [85],.slice (some ⟨tb,0,none⟩) 1 (tc + 1),.slice (some ⟨kb,0,none⟩) 1 cc] → bE G tb 0 [I d.tag] → bE G kb 0 [Pt b' 0] → RepR G ts v d.kind b' → RepR G ts (.nd 85 [] d.tag [v]) k b
theorem RepR.mono {G G' : Gh} {ts : List Ty} (hl : Gh.le G G') {v : V} {k : ye} {b : Nat} (h : RepR G ts v k b) : RepR G' ts v k b:=by
 induction h with
 | leaf w x k tx b h1 h2=>exact .leaf w x k tx b (h1.mono hl) h2
 | lst k b ks bs a c h1 h2 h3 _ ih=>exact .lst k b ks bs a c (h1.mono hl) (h2.mono hl) h3 ih
 | non k b h1=>exact .non k b (h1.mono hl)
 | opt k b kb b' cc v h0 h1 h2 _ ih=>exact .opt k b kb b' cc v h0 (h1.mono hl) (h2.mono hl) ih
 | recd k b t fs bs a a2 c c2 h0 h1 h2 h3 h4 h5 _ ih=>exact .recd k b t fs bs a a2 c c2 h0 (h1.mono hl) (h2.mono hl) (h3.mono hl) h4 h5 ih
 | enm k b tb t d h0 h1 h2 h3=>exact .enm k b tb t d h0 h1 (h2.mono hl) (h3.mono hl)
 | uni k b tb kb b' cc t d v hcc h0 h1 h2 h3 h4 _ ih=>exact .uni k b tb kb b' cc t d v hcc h0 h1 (h2.mono hl) (h3.mono hl) (h4.mono hl) ih
theorem t6 {ts : List Ty} {k : ye} {t : Ty} (h : aK ts k = some t) : ∃ r,k = 64 :: r:=by
 unfold aK at h
 cases k with
 | nil=>cases h
 | cons c r =>
  unfold a9 at h
  dsimp only at h
  by_cases h64 : c.toNat = 64
  ·exact ⟨r,by rw [show c = 64 from UInt8.toNat_inj.1 h64]⟩
  ·rw [if_neg h64] at h;cases h
theorem qA {s k w : ye} {u : V} (hg : oA s k w = some u) : ∃ ts,ar s = some ts ∧ aO ts k = true ∧ cW ts k w = some u ∧ u.tot ≤ 40000 ∧ u.wf:=by
 obtain ⟨ts,hs,hki,hvo⟩ : ∃ ts,ar s = some ts ∧ aO ts k = true ∧ cW ts k w = some u:=by
  unfold oA at hg
  cases hs : ar s with
  | none=>rw [hs] at hg;cases hg
  | some ts =>
   rw [hs] at hg
   dsimp only at hg
   by_cases hk : aO ts k = true
   ·rw [if_pos hk] at hg;exact ⟨ts,F,hk,hg⟩
   ·rw [if_neg hk] at hg;cases hg
 refine ⟨ts,hs,hki,hvo,?_,(r7 hvo).1⟩
 unfold cW at hvo
 split at hvo
 ·split at hvo
  ·rename_i v hv
   obtain rfl:=Option.some.inj hvo
   have:=ip _ _ _ _ hv
   dsimp only at this;omega
  ·cases hvo
 ·cases hvo
def dU (s k : ye) : Option ye:=match ar s with
 | some ts=>if aO ts k = true then some (jP ts k) else none
 | none=>none
variable {ts : List Ty}
inductive LoK (ts : List Ty) : ye → V → Prop
 | num (k : ye) (n : Int) : 0 ≤ n → LoK ts (110 :: k) (.nd 110 (a7 n) 0 [])
 | txt (k x : ye) : db (39 :: (x ++ [39])) = true → LoK ts (116 :: k) (.nd 116 x 0 [])
 | flg (k x : ye) : x = [121,101,115] ∨ x = [110,111] → LoK ts (102 :: k) (.nd 102 x 0 [])
 | lst (k : ye) (ks : List V) : (∀ v ∈ ks,LoK ts k v) → LoK ts (91 :: k) (.nd 91 [] 0 ks)
 | non (k : ye) : LoK ts (63 :: k) (.nd 63 [] 0 [])
 | opt (k : ye) (v : V) : LoK ts k v → LoK ts (63 :: k) (.nd 63 [] 0 [v])
 | recd (k : ye) (t : Ty) (fs : List (Fld × V)) : aK ts k = some t → t.sort = 82 → (∀ p ∈ fs,p.1 ∈ t.fields) → (∀ p ∈ fs,LoK ts p.1.kind p.2) → LoK ts k (.nd 82 [] 0 (fs.map eU))
 | enm (k : ye) (t : Ty) (d : Fld) : aK ts k = some t → t.sort = 69 → d ∈ t.fields → LoK ts k (.nd 69 [] d.tag [])
 | uni (k : ye) (t : Ty) (d : Fld) (v : V) : aK ts k = some t → t.sort ≠ 82 → t.sort ≠ 69 → d ∈ t.fields → LoK ts d.kind v → LoK ts k (.nd 85 [] d.tag [v])
inductive Thin : V → Prop
 | leaf (w : Nat) (x : ye) (t : Int) : w ≠ 85 → x.length ≤ 20 → 0 ≤ t ∧ t ≤ 999 → Thin (.nd w x t [])
 | uni (t : Int) (v : V) : 0 ≤ t ∧ t ≤ 999 → Thin v → Thin (.nd 85 [] t [v])
theorem ph {ts : List Ty} (hw : SchW ts) : ∀ (n : Nat) {k : ye},aO ts k = true → (∀ t,aK ts k = some t → bA ts n t = true) → ∃ u,OfK ts k u ∧ u.out = bN ts (n + 1) k ∧ u.deep ≤ n + 1 ∧ u.out.length ≤ 30 * (n + 1) ∧ Thin u:=by
 intro n
 induction n with
 | zero =>
  intro k hk he
  obtain ⟨c,r,rfl⟩:=pI hk
  unfold bN
  by_cases h91 : c.toNat = 91
  ·obtain rfl:=cO h91 dC
   exact ⟨_,.lst _ [] (by simp) (by simp),by rw [if_pos h91,V.out];rfl,by simp [V.deep,V.deeps],by rw [V.out];decide,.leaf _ _ _ dC (by (decide)) (by (decide))⟩
  by_cases h63 : c.toNat = 63
  ·obtain rfl:=cO h63 dC
   exact ⟨_,.non _,by rw [if_neg h91,if_pos h63,V.out];rfl,by simp [V.deep,V.deeps],by rw [V.out];decide,.leaf _ _ _ dC (by (decide)) (by (decide))⟩
  rw [if_neg h91,if_neg h63]
  cases hr : aK ts (c :: r) with
  | some t=>have:=he t hr;simp [bA] at this
  | none =>
   dsimp only
   rcases ia hk (by rintro (h | h) <;> contradiction) hr with e | e | e
   all_goals rw [e]
   ·exact ⟨_,.num [] 0 dC dC,by rw [iO];decide,by simp [V.deep,V.deeps],by rw [iO];decide,.leaf _ _ _ dC (by (rw [qM];decide)) (by (decide))⟩
   ·exact ⟨_,.txt [] [] dC,by rw [V.out];decide,by simp [V.deep,V.deeps],by rw [V.out];decide,.leaf _ _ _ dC (by (decide)) (by (decide))⟩
   ·exact ⟨_,.flg [] _ (.inr F),by rw [V.out];decide,by simp [V.deep,V.deeps],by rw [V.out];decide,.leaf _ _ _ dC (by (decide)) (by (decide))⟩
 | succ n ih =>
  intro k hk he
  obtain ⟨c,r,rfl⟩:=pI hk
  unfold bN
  by_cases h91 : c.toNat = 91
  ·obtain rfl:=cO h91 dC
   exact ⟨_,.lst _ [] (by simp) (by simp),by rw [if_pos h91,V.out];rfl,by simp [V.deep,V.deeps],by rw [V.out];simp [du,V.outs,aN];omega,.leaf _ _ _ dC (by (decide)) (by (decide))⟩
  by_cases h63 : c.toNat = 63
  ·obtain rfl:=cO h63 dC
   exact ⟨_,.non _,by rw [if_neg h91,if_pos h63,V.out];rfl,by simp [V.deep,V.deeps],by rw [V.out];simp [du];omega,.leaf _ _ _ dC (by (decide)) (by (decide))⟩
  rw [if_neg h91,if_neg h63]
  cases hr : aK ts (c :: r) with
  | none =>
   dsimp only
   rcases ia hk (by rintro (h | h) <;> contradiction) hr with e | e | e
   all_goals rw [e]
   ·exact ⟨_,.num [] 0 dC dC,by rw [iO];decide,by simp [V.deep,V.deeps],by rw [iO];simp;omega,.leaf _ _ _ dC (by (rw [qM];decide)) (by (decide))⟩
   ·exact ⟨_,.txt [] [] dC,by rw [V.out];decide,by simp [V.deep,V.deeps],by rw [V.out];simp [du];omega,.leaf _ _ _ dC (by (decide)) (by (decide))⟩
   ·exact ⟨_,.flg [] _ (.inr F),by rw [V.out];decide,by simp [V.deep,V.deeps],by rw [V.out];simp [du];omega,.leaf _ _ _ dC (by (decide)) (by (decide))⟩
  | some t =>
   have htm:=bM hr
   have htw:=hw.ty t htm
   dsimp only
   by_cases h82 : t.sort = 82
   ·rw [if_pos h82]
    exact ⟨_,.recd _ t [] hr h82 (by simp) (by simp) (by simp) (by simp),by rw [V.out];rfl,by simp [V.deep,V.deeps],by rw [V.out];simp [du,V.outs,aN];omega,.leaf _ _ _ dC (by (decide)) (by (decide))⟩
   rw [if_neg h82]
   have hd:=wD htw h82
   have htg:=(htw.fld _ hd).tag
   have hdl:=oO (m:=tag0 t) (by unfold tag0;omega)
   by_cases h69 : t.sort = 69
   ·rw [if_pos h69]
    exact ⟨_,.enm _ t _ hr h69 hd,by rw [V.out];rfl,by simp [V.deep,V.deeps],by rw [V.out];show (35 :: a7 (tag0 t)).length ≤ _;simp only [List.length_cons];omega,.leaf _ _ _ dC (by (decide)) (by (constructor <;> omega))⟩
   rw [if_neg h69]
   have h85 : t.sort = 85:=by have:=htw.sort;unfold c6 at this;omega
   have he1:=he t hr
   unfold bA at he1
   rw [if_neg (by simpa using h85)] at he1
   obtain ⟨u,g1,g2,g3,g4,g5⟩:=ih (k:=d5 t) (dk hw htm h69 hd) (fun t' ht'=>by rw [ht'] at he1;exact he1)
   refine ⟨_,.uni _ t _ u hr h82 h69 hd g1,?_,?_,?_,?_⟩
   ·rw [V.out,← g2];simp [du,V.outs,aN,tag0]
   ·rw [eF dC,V.deeps,V.deeps];omega
   ·have e:=pE (v:=u) (n:=tag0 t) (r:=[])
    rw [List.append_nil] at e
    show (V.out (.nd 85 [] (tag0 t) [u])).length ≤ _
    rw [e];simp only [List.length_cons,List.length_append,List.length_nil];omega
   ·exact .uni _ _ (by constructor <;> omega) g5
theorem qm {s k x : ye} (h : dU s k = some x) : ∃ ts u,ar s = some ts ∧ aO ts k = true ∧ OfK ts k u ∧ Thin u ∧ u.out = x ∧ u.deep ≤ 12 ∧ x.length ≤ 400:=by
 unfold dU at h
 cases hs : ar s with
 | none=>rw [hs] at h;cases h
 | some ts =>
  rw [hs] at h
  dsimp only at h
  split at h
  ·rename_i hk
   simp only [Option.some.injEq] at h
   have hw:=cS hs
   have hl:=hw.len
   obtain ⟨u,h1,h2,h3,h4,h5⟩:=ph hw (ts.length + 1) hk (fun t ht=>by
    have hm:=bM ht
    obtain ⟨i,hi,rfl⟩:=List.mem_iff_getElem.1 hm
    have:=hw.valid.2 i hi
    rwa [bW hi] at this)
   exact ⟨ts,u,F,hk,h1,h5,by rw [h2,← h];rfl,oM,by rw [← h];show (bN ts (ts.length + 2) k).length ≤ 400;rw [← h2];omega⟩
  ·cases h
def gN (ts us : List Ty) (m : List Pr) (k1 k2 : ye) : Prop:=sg k1 = sg k2 ∧ ((∃ t u,aK ts (ay k1) = some t ∧ aK us (ay k2) = some u ∧ (t.name,u.name) ∈ m) ∨ ay k1 = ay k2 ∧ (aK ts (ay k1) = none ∨ aK us (ay k2) = none))
def pe (ts us : List Ty) (m : List Pr) (t u : Ty) (gs : List Fld) : Prop:=∀ g ∈ gs,(cC t.fields g.tag = none ∧ u.sort = 82) ∨ ∃ f,cC t.fields g.tag = some f ∧ (u.sort = 69 ∨ gN ts us m f.kind g.kind)
def lQ (ts us : List Ty) (m : List Pr) (p : Pr) : Prop:=∀ t u,dc ts p.1 = some t → dc us p.2 = some u → t.sort = u.sort ∧ pe ts us m t u u.fields
theorem gN.mono {ts us : List Ty} {m m' : List Pr} {k1 k2 : ye} (h : gN ts us m k1 k2) (hm : ∀ p ∈ m,p ∈ m') : gN ts us m' k1 k2 :=
 ⟨h.1,h.2.imp (fun ⟨t,u,h1,h2,h3⟩=>⟨t,u,h1,h2,hm _ h3⟩) id⟩
theorem pe.mono {ts us : List Ty} {m m' : List Pr} {t u : Ty} {gs : List Fld} (h : pe ts us m t u gs) (hm : ∀ p ∈ m,p ∈ m') : pe ts us m' t u gs :=
 fun g hg=>(h g hg).imp id fun ⟨f,h1,h2⟩=>⟨f,h1,h2.imp id fun h=>h.mono hm⟩
theorem lQ.mono {ts us : List Ty} {m m' : List Pr} {p : Pr} (h : lQ ts us m p) (hm : ∀ p ∈ m,p ∈ m') : lQ ts us m' p :=
 fun t u h1 h2=>⟨(h t u h1 h2).1,(h t u h1 h2).2.mono hm⟩
def gO (ts us : List Ty) (m m' : List Pr) : Prop:=(∀ p ∈ m,p ∈ m') ∧ ∀ p ∈ m',p ∉ m → lQ ts us m' p
theorem gO.refl {ts us : List Ty} {m : List Pr} : gO ts us m m:=⟨fun _ h=>h,fun _ h h2=>absurd h h2⟩
theorem gO.trans {ts us : List Ty} {m1 m2 m3 : List Pr} (h1 : gO ts us m1 m2) (h2 : gO ts us m2 m3) : gO ts us m1 m3 :=
 ⟨fun p h=>h2.1 p (h1.1 p h),fun p h h3=>by
  by_cases h4 : p ∈ m2
  ·exact (h1.2 p h4 h3).mono h2.1
  ·exact h2.2 p h h4⟩
theorem g0 {ts us : List Ty} {kk : ye → ye → List Pr → Bool × List Pr} {t u : Ty} (hk : ∀ (f g : Fld) (m : List Pr),(kk f.kind g.kind m).1 = true → gO ts us m (kk f.kind g.kind m).2 ∧ gN ts us (kk f.kind g.kind m).2 f.kind g.kind) :
  ∀ (gs : List Fld) (m : List Pr),(er ts us kk t u gs m).1 = true → gO ts us m (er ts us kk t u gs m).2 ∧ pe ts us (er ts us kk t u gs m).2 t u gs
 | [],m,_=>⟨.refl,fun g hg=>by cases hg⟩
 | g :: gs,m,h=>by
  unfold er at h ⊢
  cases hf : cC t.fields g.tag with
  | none =>
   rw [hf] at h
   dsimp only at h ⊢
   by_cases h82 : u.sort = 82
   ·rw [if_pos h82] at h ⊢
    obtain ⟨h1,h2⟩:=g0 hk gs m h
    refine ⟨h1,fun x hx=>?_⟩
    rcases List.mem_cons.1 hx with rfl | hx
    ·exact .inl ⟨hf,h82⟩
    ·exact h2 x hx
   ·rw [if_neg h82] at h;cases h
  | some f =>
   rw [hf] at h
   dsimp only at h ⊢
   by_cases h69 : u.sort = 69
   ·rw [if_pos h69] at h ⊢
    obtain ⟨h1,h2⟩:=g0 hk gs m h
    refine ⟨h1,fun x hx=>?_⟩
    rcases List.mem_cons.1 hx with rfl | hx
    ·exact .inr ⟨f,hf,.inl h69⟩
    ·exact h2 x hx
   ·rw [if_neg h69] at h ⊢
    by_cases hkk : (kk f.kind g.kind m).1 = false
    ·rw [if_pos hkk] at h;cases h
    ·rw [if_neg hkk] at h ⊢
     split at h
     ·cases h
     ·rename_i hst
      rw [if_neg hst]
      obtain ⟨g1,g2⟩:=hk f g m (by simpa using hkk)
      obtain ⟨h1,h2⟩:=g0 hk gs _ h
      refine ⟨g1.trans h1,fun x hx=>?_⟩
      rcases List.mem_cons.1 hx with rfl | hx
      ·exact .inr ⟨f,hf,.inr (g2.mono h1.1)⟩
      ·exact h2 x hx
theorem dK {ts : List Ty} {k : ye} {t : Ty} (h : aK ts k = some t) : dc ts t.name = some t:=by
 unfold aK at h
 cases hn : a9 k with
 | none=>rw [hn] at h;cases h
 | some n =>
  rw [hn] at h
  have h2 : dc ts n = some t:=h
  have h3:=List.find?_some h2
  simp only [decide_eq_true_eq] at h3
  rw [h3];exact h2
theorem rC {ts us : List Ty} {kk : ye → ye → List Pr → Bool × List Pr} {t u : Ty} (hk : ∀ (f g : Fld) (m : List Pr),(kk f.kind g.kind m).1 = true → gO ts us m (kk f.kind g.kind m).2 ∧ gN ts us (kk f.kind g.kind m).2 f.kind g.kind)
  (ht : dc ts t.name = some t) (hu : dc us u.name = some u) {m : List Pr} (h : (gF ts us kk t u m).1 = true) : gO ts us m (gF ts us kk t u m).2 ∧ (t.name,u.name) ∈ (gF ts us kk t u m).2:=by
 unfold gF at h ⊢
 by_cases hm : (t.name,u.name) ∈ m
 ·rw [if_pos hm];exact ⟨.refl,hm⟩
 ·rw [if_neg hm] at h ⊢
  unfold kr at h ⊢
  by_cases hs : t.sort = u.sort
  ·rw [if_neg (by simp [hs])] at h ⊢
   obtain ⟨h1,h2⟩:=g0 hk u.fields _ h
   have hin : (t.name,u.name) ∈ (er ts us kk t u u.fields (m ++ [(t.name,u.name)])).2:=h1.1 _ (by simp)
   refine ⟨⟨fun p hp=>h1.1 p (List.mem_append_left _ hp),fun p hp hn=>?_⟩,hin⟩
   by_cases he : p = (t.name,u.name)
   ·subst he
    intro t' u' g1 g2
    rw [ht] at g1
    rw [hu] at g2
    obtain rfl:=Option.some.inj g1
    obtain rfl:=Option.some.inj g2
    exact ⟨hs,h2⟩
   ·exact h1.2 p hp (by simp [hn,he])
  ·rw [if_pos hs] at h;cases h
theorem ny {ts us : List Ty} : ∀ (n : Nat) (k1 k2 : ye) (m : List Pr),(cQ ts us n k1 k2 m).1 = true → gO ts us m (cQ ts us n k1 k2 m).2 ∧ gN ts us (cQ ts us n k1 k2 m).2 k1 k2
 | 0,_,_,_,h=>by cases h
 | n + 1,k1,k2,m,h=>by
  unfold cQ at h ⊢
  by_cases hs : sg k1 = sg k2
  ·rw [if_neg (by simp [hs])] at h ⊢
   cases r1 : aK ts (ay k1) with
   | none =>
    rw [r1] at h
    dsimp only at h ⊢
    exact ⟨.refl,hs,.inr ⟨of_decide_eq_true h,.inl r1⟩⟩
   | some t =>
    cases r2 : aK us (ay k2) with
    | none =>
     rw [r1,r2] at h
     dsimp only at h ⊢
     exact ⟨.refl,hs,.inr ⟨of_decide_eq_true h,.inr r2⟩⟩
    | some u =>
     rw [r1,r2] at h
     dsimp only at h ⊢
     obtain ⟨h1,h2⟩:=rC (fun f g m h=>ny n f.kind g.kind m h) (dK r1) (dK r2) h
     exact ⟨h1,hs,.inl ⟨t,u,r1,r2,h2⟩⟩
  ·rw [if_pos hs] at h;cases h
theorem lj : ∀ k : ye,sg k ++ ay k = k
 | []=>rfl
 | c :: r=>by
  by_cases h : c.toNat = 91 ∨ c.toNat = 63
  ·have:=lj r
   rw [gn h,ay,if_pos h,List.cons_append,this]
  ·rw [fI h,df h];rfl
theorem pH {k1 k2 : ye} {c : UInt8} {r : ye} (h : sg k1 = sg k2) (hk : k2 = c :: r) (hc : c.toNat = 91 ∨ c.toNat = 63) : ∃ r',k1 = c :: r':=by
 subst hk
 rw [gn hc] at h
 refine ⟨sg r ++ ay k1,?_⟩
 rw [← List.cons_append,← h,lj]
theorem iv {k1 : ye} (h : sg k1 = []) : ay k1 = k1:=by have:=lj k1;rwa [h] at this
theorem pz {c : UInt8} {r : ye} (h : c.toNat ≠ 64) : a9 (c :: r) = none:=by simp [a9,h]
theorem rl {ts : List Ty} {k : ye} {t : Ty} (h : aK ts k = some t) : ∃ c r,k = c :: r ∧ c.toNat = 64:=by
 have h1:=em h
 cases k with
 | nil=>cases h1
 | cons c r =>
  refine ⟨c,r,F,?_⟩
  by_cases h2 : c.toNat = 64
  ·exact h2
  ·rw [pz h2] at h1;cases h1
theorem sn {ts : List Ty} {c : UInt8} {r : ye} (h : c.toNat ≠ 64) : aK ts (c :: r) = none:=by unfold aK;rw [pz h];rfl
theorem iP {ts us : List Ty} {m : List Pr} {k1 : ye} {c : UInt8} {r : ye} (h : gN ts us m k1 (c :: r)) (hc : c.toNat ≠ 64 ∧ c.toNat ≠ 91 ∧ c.toNat ≠ 63) : k1 = c :: r:=by
 have e1 : sg (c :: r) = []:=fI oM
 have e2 : ay (c :: r) = c :: r:=df oM
 obtain ⟨h1,h2⟩:=h
 rw [e1] at h1
 rw [e2] at h2
 rcases h2 with ⟨t,u,_,g2,_⟩ | ⟨h2,_⟩
 ·rw [sn hc.1] at g2;cases g2
 ·rw [← iv h1];exact h2
theorem ly {ts us : List Ty} {m : List Pr} {k1 k2 : ye} {u : Ty} (hk : aO ts k1 = true) (h : gN ts us m k1 k2) (hr : aK us k2 = some u) : ∃ t,aK ts k1 = some t ∧ (t.name,u.name) ∈ m:=by
 obtain ⟨c,r,rfl,hc⟩:=rl hr
 have e1 : sg (c :: r) = []:=fI oM
 have e2 : ay (c :: r) = c :: r:=df oM
 obtain ⟨h1,h2⟩:=h
 rw [e1] at h1
 rw [e2,iv h1] at h2
 rcases h2 with ⟨t,u',g1,g2,g3⟩ | ⟨h2,h3⟩
 ·rw [hr] at g2
  obtain rfl:=Option.some.inj g2
  exact ⟨t,g1,g3⟩
 ·exfalso
  rw [hr] at h3
  rcases h3 with h3 | h3
  ·obtain ⟨t,ht⟩:=eZ hk (by rw [iv h1,h2];exact em hr)
   rw [iv h1,h3] at ht;cases ht
  ·cases h3
theorem rf {ts us : List Ty} (w1 : SchW ts) (w2 : SchW us) {m : List Pr} (hm : ∀ p ∈ m,lQ ts us m p) {k2 : ye} {v : V} (h : OfK us k2 v) : Thin v → aO us k2 = true → ∀ {k1},aO ts k1 = true → gN ts us m k1 k2 → OfK ts k1 v:=by
 induction h with
 | num k n h1 h2=>intro _ _ k1 _ hs;rw [iP hs dC];exact .num _ _ h1 h2
 | txt k x h1=>intro _ _ k1 _ hs;rw [iP hs dC];exact .txt _ _ h1
 | flg k x h1=>intro _ _ k1 _ hs;rw [iP hs dC];exact .flg _ _ h1
 | lst k ks h1 h2 ih =>
  intro ht _ k1 _ hs
  obtain ⟨r,rfl⟩:=pH hs.1 rfl (.inl dC)
  cases ht with
  | leaf=>exact .lst _ [] (by simp) (by simp)
 | non k =>
  intro _ _ k1 _ hs
  obtain ⟨r,rfl⟩:=pH hs.1 rfl (.inr dC)
  exact .non _
 | opt k v h1 ih=>intro ht;cases ht
 | recd k t fs h0 h1 h2 h3 h4 h5 =>
  intro ht _ k1 hk1 hs
  obtain ⟨t1,g1,g2⟩:=ly hk1 hs h0
  obtain ⟨g3,_⟩:=hm _ g2 t1 t (dK g1) (dK h0)
  cases fs with
  | nil=>exact .recd _ t1 [] g1 oM (by simp) (by simp) (by simp) (by simp)
  | cons a b=>cases ht
 | enm k t d h0 h1 h2 =>
  intro ht _ k1 hk1 hs
  obtain ⟨t1,g1,g2⟩:=ly hk1 hs h0
  obtain ⟨g3,g4⟩:=hm _ g2 t1 t (dK g1) (dK h0)
  rcases g4 d h2 with ⟨_,h82⟩ | ⟨f,hf,_⟩
  ·omega
  ·obtain ⟨i,hi,_,hft,rfl⟩:=dx hf
   rw [← hft]
   exact .enm _ t1 _ g1 oM (a6 hi)
 | uni k t d v h0 h1 h2 h3 h4 ih =>
  intro ht hk2 k1 hk1 hs
  obtain ⟨t1,g1,g2⟩:=ly hk1 hs h0
  obtain ⟨g3,g4⟩:=hm _ g2 t1 t (dK g1) (dK h0)
  rcases g4 d h3 with ⟨_,h82⟩ | ⟨f,hf,h69 | hks⟩
  ·omega
  ·omega
  ·obtain ⟨i,hi,_,hft,rfl⟩:=dx hf
   have htv : Thin v:=by cases ht;assumption
   rw [← hft]
   exact .uni _ t1 _ v g1 oM oM (a6 hi) (ih htv (dk w2 (bM h0) h2 h3) (dk w1 (bM g1) oM (a6 hi)) hks)
theorem sO {s k r l : ye} (h : bP s k r l = true) {us : List Ty} (hs : ar r = some us) {u : V} (hu : OfK us l u) (ht : Thin u) : ∃ ts m,ar s = some ts ∧ aO ts k = true ∧ aO us l = true ∧ OfK ts k u ∧ (∀ p ∈ m,lQ ts us m p) ∧ gN ts us m k l:=by
 unfold bP at h
 cases h1 : ar s with
 | none=>rw [h1] at h;cases h
 | some ts =>
  rw [h1,hs] at h
  dsimp only at h
  rw [Bool.and_eq_true,Bool.and_eq_true] at h
  obtain ⟨⟨h2,h3⟩,h4⟩:=h
  obtain ⟨h5,h6⟩:=ny _ _ _ _ h4
  have hm : ∀ p ∈ (cQ ts us (ts.length * us.length + 1) k l []).2,lQ ts us (cQ ts us (ts.length * us.length + 1) k l []).2 p:=fun p hp=>h5.2 p hp (by simp)
  exact ⟨ts,_,F,h2,h3,rf (cS h1) (cS hs) hm hu ht h3 h2 h6,hm,h6⟩
theorem jw {s r : ye} {a b : List Mt} (h : cP s a r b = true) : cq s a = true ∧ cq r b = true ∧ ∀ o ∈ b,dY s a r o = true:=by
 unfold cP at h
 rw [Bool.and_eq_true,Bool.and_eq_true,List.all_eq_true] at h
 exact ⟨h.1.1,h.1.2,h.2⟩
theorem ri {s r : ye} {a b : List Mt} (h : cP s a r b = true) {i j : Nat} (hi : i < b.length) (hj : j < a.length) (e : (ac a j).1 = (ac b i).1) : bP s (ac a j).2.1 r (ac b i).2.1 = true:=by
 obtain ⟨h1,h2,h3⟩:=jw h
 have h4:=h3 _ (a6 hi)
 unfold dY at h4
 rw [← e,qv h1 hj] at h4
 dsimp only at h4
 rw [Bool.and_eq_true] at h4
 exact h4.1
theorem tV {s r : ye} {a b : List Mt} (h : cP s a r b = true) {i : Nat} (hi : i < b.length) : ∃ j,j < a.length ∧ (ac a j).1 = (ac b i).1:=by
 obtain ⟨h1,h2,h3⟩:=jw h
 have h4:=h3 _ (a6 hi)
 unfold dY at h4
 cases hf : fp a (ac b i).1 with
 | none=>rw [hf] at h4;cases h4
 | some m =>
  have hm:=List.mem_of_find?_eq_some hf
  have hn:=List.find?_some hf
  simp only [decide_eq_true_eq] at hn
  obtain ⟨j,hj,e⟩:=List.getElem_of_mem hm
  exact ⟨j,hj,by rw [bW hj,e];exact hn⟩
theorem rh {r : ye} {b : List Mt} (h : cq r b = true) {i : Nat} (hi : i < b.length) : ∃ x,dU r (ac b i).2.1 = some x:=by
 have h1:=lV h i hi
 unfold ck kh at h1
 simp only [Bool.and_eq_true] at h1
 obtain ⟨⟨⟨h1,_⟩,_⟩,_⟩:=h1
 unfold bo at h1
 unfold dU
 cases hs : ar r with
 | none=>rw [hs] at h1;cases h1
 | some ts =>
  rw [hs] at h1
  dsimp only at h1 ⊢
  rw [if_pos h1]
  exact ⟨_,F⟩
theorem iQ {qs : List cn} {k : ye} {t : Ty} (hki : aO (ag qs) k = true) (hrf : aK (ag qs) k = some t) : eH k = [S [],S [64],S (nm k)] ∧ ∃ p,dq qs (nm k) = some (p,t) ∧ (p,t) ∈ qs:=by
 obtain ⟨r,rfl⟩:=t6 hrf
 have h91 : ¬ ((64 : UInt8).toNat = 91 ∨ (64 : UInt8).toNat = 63):=by decide
 have hsg:=fI (r:=r) h91
 have hcs:=df (r:=r) h91
 have hrn : (a9 (ay (64 :: r))).isSome = true:=by rw [hcs];rfl
 have hbs : bs (64 :: r) = [64]:=(fX (cG hki)).2 hrn
 have hnm : a9 (64 :: r) = some (nm (64 :: r)):=by unfold nm;rw [hcs];rfl
 have hft : dc (ag qs) (nm (64 :: r)) = some t:=by unfold aK at hrf;rw [hnm] at hrf;exact hrf
 rw [← eV] at hft
 rcases hfq : dq qs (nm (64 :: r)) with _ | ⟨p,t'⟩
 ·rw [hfq] at hft;cases hft
 rw [hfq] at hft
 obtain rfl : t' = t:=Option.some.inj hft
 exact ⟨by unfold eH;rw [hsg,hbs],p,rfl,e8 hfq⟩
section
variable {P : Program} {n : Nat} {D : List Deferred} {E : a8} {M : World → Prop} {d : Option Nat} {ty : TypeId} {pos : String} {aft : Array Edge} {gd : Option (Nat × Bool)}
theorem dF {T : TypeId} {x : Operand} {desc : TypeDesc} {size bytes : Nat} {zero : Value} {b o : Nat} {v : Value} {G0 : Gh} {L0 : List Own} {cs : List Value} [TI P T desc size bytes zero] [Kn M G0 L0] (hx : ev E x = some (Pt b o)) (ha : cD desc = false) (hs : bE G0 b o cs) (hc : cs[0]? = some v) :
  Gives P n D E M ⟨d,.load T x,ty,pos,aft,gd⟩ v:=ep hx ha (by have:=(dg (S:=M) hs).go 0 v hc;simpa using this)
theorem kK {T : TypeId} {x : Operand} {desc : TypeDesc} {size bytes : Nat} {zero : Value} {b o : Nat} {vs : List Value} {G0 : Gh} {L0 : List Own} {cs : List Value} [TI P T desc size bytes zero] [Kn M G0 L0] (hx : ev E x = some (Pt b o)) (ha : cD desc = true) (hs : bE G0 b o cs) (hc : iG cs 0 size = some vs) (hl : Nat.beq vs.length size = true) :
  Gives P n D E M ⟨d,.load T x,ty,pos,aft,gd⟩ (Ag vs):=gr hx ha (Nat.eq_of_beq_eq_true hl) (by have:=(dg (S:=M) hs).take hc;simpa using this)
end
def xm (o : Option ye) : Value:=Tu [S (o.getD []),Bo o.isSome]
--?s0
open Go.Proofs
variable {G : Gh}
theorem mP {ts : List Ty} {k : ye} {u : V} (h : OfK ts k u) (hw : u.what = 82 ∨ u.what = 69 ∨ u.what = 85) : ∃ t,aK ts k = some t:=by
 cases h with
 | num=>exfalso;simp [V.what] at hw
 | txt=>exfalso;simp [V.what] at hw
 | flg=>exfalso;simp [V.what] at hw
 | lst=>exfalso;simp [V.what] at hw
 | non=>exfalso;simp [V.what] at hw
 | opt=>exfalso;simp [V.what] at hw
 | recd _ t _ h1=>exact ⟨t,h1⟩
 | enm _ t _ h1=>exact ⟨t,h1⟩
 | uni _ t _ _ h1=>exact ⟨t,h1⟩
abbrev qg : TypeId:=83
abbrev ql : TypeId:=4
theorem wU {eb y4 y11 : Nat} {a1 a2 a3 b1 b2 b3 : ye} {u : V} {c : VC} {b0 : Bool} (he : bE G y4 0 [Pt eb 0]) (cx_lft : ce yd 93 [Pt eb 0,Ag [S a1,S a2,S a3],Ag [S b1,S b2,S b3],Ag (cE c)] G (fun v G'=>∃ c b,v = Tu [Ag (cE c),Bo b] ∧ V.rep G' u c)) :
  ec yd 128 [Ag [S a1,S a2,S a3],Ag [S b1,S b2,S b3],Ag (cE c),Pt y4 0,Pt y11 0] G [.blk y11 (.cells (List.toArray [Bo b0]) ql (0,0))] (fun v G' L'=>∃ c' b',v = Ag (cE c') ∧ V.rep G' u c' ∧ L' = [.blk y11 (.cells (List.toArray [Bo b']) ql (0,0))]):=by
 obtain ⟨w,tx,tg,a,m,kc⟩:=c
 have e0 : cE ⟨w,tx,tg,a,m,kc⟩ = [U8 (w : Nat),S tx,I tg,.slice a m kc]:=rfl
 rw [e0] at cx_lft ⊢
 refine bS [(0,_),(1,_),(2,_),(3,_),(4,_)] Tryz.func128 kR Tryz.ntmps128 F F tU fun B hB hW=>?_
 repeat' (first | refine jR ?_ | (refine jo ?_;first | refine jO fun _=>?_ | refine jL fun _=>?_ | refine jV (dF F F aS F) ?_ | refine am F ?_ | refine aZ F ?_ | refine jD F F F ?_ | refine jC F F F ?_ | refine aV F ?_ | refine aG F ?_ | (refine aJ F F F cx_lft F ?_;rintro _ G hle ⟨c1,b1,rfl,hrep⟩;skip)) | refine iS F F (fun _=>?_) (fun _=>?_))
 all_goals exact aM (vs:=[_]) F ⟨aB F F F F,trivial⟩ F sB ⟨hle,_,_,F,hrep,F⟩
theorem v9 {eb mb ba bb : Nat} {qs rs : List cn} (w1 : SchW (ag qs)) (w2 : SchW (ag rs)) {u : V} (ht : Thin u) : ∀ {G : Gh} {k1 k2 : ye} {c : VC},bE G eb 0 [Pt ba 0,Pt bb 0,.map (some mb)] → ScI G ba qs → ScI G bb rs → OfK (ag rs) k2 u → OfK (ag qs) k1 u → aO (ag qs) k1 = true → aO (ag rs) k2 = true → V.rep G u c →
  ce yd 93 [Pt eb 0,Ag [S (sg k1),S (bs k1),S (nm k1)],Ag [S (sg k2),S (bs k2),S (nm k2)],Ag (cE c)] G (fun v G'=>∃ c b,v = Tu [Ag (cE c),Bo b] ∧ V.rep G' u c):=by
 induction ht with
 | leaf w x t h85 hx htg =>
  intro G k1 k2 c hE h1 h2 ho2 ho1 hk1 hk2 hrep
  obtain ⟨a,k,cs,rfl,hw255,_,hw61,hcl,hsl,hrs⟩:=im hrep
  have e0 : cE ⟨w,x,t,a,([] : List V).length,k⟩ = [U8 (w : Nat),S x,I t,.slice a 0 k]:=rfl
  rw [e0]
  have hlf : ∀ {G : Gh},V.rep G (.nd w x t []) ⟨w,x,t,none,0,0⟩:=bT ⟨hw255,by intro h;have:=hw61 h;simp at this⟩ oM
  by_cases hs : sg k1 = []
  case neg =>
   refine jB [(0,_),(1,_),(2,_),(3,_)] Tryz.func93 Tryz.ntmps93 fun B hok hB hW=>?_
   repeat' (first | refine jR ?_ | (refine jo ?_;first | refine jO fun _=>?_ | refine jL fun _=>?_ | refine am F ?_ | refine jV (aq F F) ?_ | refine jD F F F ?_ | refine jC F F F ?_ | refine jV (mr F F) ?_ | refine jV (ai F) ?_) | refine ae F (aC ‹_›) ?_)
   rename_i x4 x5 x6 x7 x8 x10 x11
   refine aT (ι:=Nat) (fun i=>i = 0) (fun i=>[(34,I ((0 : Nat) : Int)),(35,I (i : Nat)),(8,Pt x8 0),(10,Pt x10 0),(11,Pt x11 0)]) (fun _=>G) (fun i=>[.blk x11 (.cells (List.toArray [Value.bool false]) ql (0,0)),.blk x10 (.cells (List.toArray [U8 (w : Nat),S x,I t,ax]) qg (0,0)),.blk x8 (.cells (List.toArray [.int .u8 0,S [],.int .i64 0,ax]) qg (0,0))]) (fun i=>0) 0 ?_ tU F sB (fun i Hi=>?_)
   ·rfl
   subst Hi
   repeat' (first | refine jR ?_ | refine af F F ?_ | (refine al (c7 (id:=10) (tt:=8) F ak ?_);(refine jG (aa 4 1) 0 F (bJ F F F F) ?_);(refine jG (aa 4 3) 1 F (aD F F F) ?_);refine jA 2 F ?_;(refine jC F F F ?_);refine jK (aa 4 7) ?_;refine jW 0 [3] (aa 4 15) ?_;refine jQ ?_))
   exact jZ (vs:=[_,_]) F ⟨aB F F F F,F,trivial⟩ F ⟨Gh.le.refl _,F,⟨w,x,t,none,0,0⟩,_,F,hlf⟩
  by_cases hb : bs k1 = [64]
  case neg =>
   refine jB [(0,_),(1,_),(2,_),(3,_)] Tryz.func93 Tryz.ntmps93 fun B hok hB hW=>?_
   repeat' (first | refine jR ?_ | (refine jo ?_;first | refine jO fun _=>?_ | refine jL fun _=>?_ | refine am F ?_ | refine aZ F ?_ | refine jV (aq F F) ?_ | refine jD F F F ?_ | refine jC F F F ?_ | refine jV (mr F F) ?_) | refine ae F (aC ‹_›) ?_ | (refine af F ?_ ?_;(focus ((simp [*];done);done))))
   exact jZ (vs:=[_,_]) F ⟨aB F F F F,F,trivial⟩ F ⟨Gh.le.refl _,F,⟨w,x,t,a,0,k⟩,_,F,hrep⟩
  obtain ⟨t1,hr1⟩ : ∃ t1,aK (ag qs) k1 = some t1:=by
   have hc:=iv hs
   have:=(fX (cG hk1)).1 hb
   obtain ⟨t1,h⟩:=eZ hk1 this
   rw [hc] at h
   exact ⟨t1,h⟩
  have hwr : w = 82 ∨ w = 69:=by
   rcases kf ho1 hr1 with ⟨_,fs,e,_⟩ | ⟨_,d,e,_⟩ | ⟨_,_,d,v,e,_⟩
   ·simp only [V.nd.injEq] at e;exact .inl e.1
   ·simp only [V.nd.injEq] at e;exact .inr e.1
   ·simp at e
  obtain ⟨t2,hr2⟩:=mP ho2 (by rcases hwr with rfl | rfl <;> simp [V.what])
  obtain ⟨hkd1,pt1,hfq1,hqm1⟩:=iQ hk1 hr1
  obtain ⟨hkd2,pt2,hfq2,hqm2⟩:=iQ hk2 hr2
  have hkv1:=dA qs (nm k1)
  have hkv2:=dA rs (nm k2)
  rw [hfq1] at hkv1
  rw [hfq2] at hkv2
  dsimp only [Option.map_some] at hkv1 hkv2
  obtain ⟨u1,mm1,g11,g12,g13⟩:=h1.at'
  obtain ⟨u2,mm2,g21,g22,g23⟩:=h2.at'
  unfold eH at hkd1 hkd2
  simp only [List.cons.injEq,and_true] at hkd1 hkd2
  rw [hkd1.1,hkd1.2,hkd2.1,hkd2.2]
  rcases hwr with rfl | rfl
  ·
   refine jB [(0,_),(1,_),(2,_),(3,_)] Tryz.func93 Tryz.ntmps93 fun B hok hB hW=>?_
   repeat' (first | refine jR ?_ | (refine jo ?_;first | refine jO fun _=>?_ | refine jL fun _=>?_ | refine am F ?_ | refine jV (aq F F) ?_ | refine jD F F F ?_ | refine jC F F F ?_ | refine jV (mr F F) ?_) | refine af F F ?_)
   rename_i x4 x5 x6 x7 x8 x10 x11
   refine Nx.sealC (b:=x4) fun G1 l1 s4=>?_
   refine Nx.sealC (b:=x5) fun G2 l2 s5=>?_
   refine Nx.sealC (b:=x6) fun G3 l3 s6=>?_
   refine Nx.sealC (b:=x7) fun G4 l4 s7=>?_
   have s4:=((s4.mono l2).mono l3).mono l4
   have s5:=(s5.mono l3).mono l4
   have s6:=s6.mono l4
   have hG:=((l1.trans l2).trans l3).trans l4
   have hE4:=hE.mono hG
   have g11:=g11.mono hG
   have g21:=g21.mono hG
   have g13:=hG _ _ g13
   have g23:=hG _ _ g23
   (refine al (aw (id:=13) _ (fun _ h=>h) ak ?_);refine jT 20 [7,17] (aa 22 131200) ?_;(refine jG (aa 22 131201) 0 F (dF F F aS F) ?_);refine jT 17 [1,2] (aa 22 131207) ?_;(refine jG (aa 22 131215) 3 F (dF F F aS F) ?_);refine jT 14 [4,5] (aa 22 131263) ?_;(refine jG (aa 22 131327) 6 F (aA F F aS F F) ?_);(refine jG (aa 22 131583) 8 F (aA F F aS F F) ?_);((refine jG (aa 22 132095) 9 F (bX F F (dP aS) aS F) ?_));refine jT 10 [20] (aa 22 1180671) ?_;(refine jG (aa 22 1181695) 10 F (dF F F aS F) ?_);refine jT 7 [11,12] (aa 22 1187839) ?_;(refine jG (aa 22 1196031) 13 F (aA F F aS F F) ?_);refine jT 4 [14,15] (aa 22 1245183) ?_;(refine jG (aa 22 1310719) 16 F (aA F F aS F F) ?_);(refine jG (aa 22 1572863) 18 F (aA F F aS F F) ?_);((refine jG (aa 22 2097151) 19 F (bX F F (dP aS) aS F) ?_));refine jT 0 [21] (aa 22 4194303) ?_;refine jQ ?_)
   repeat' (first | refine jR ?_ | (refine jo ?_;first | refine jV (dF F F aS F) ?_ | refine jV (aA F F aS F F) ?_ | refine jV (ai F) ?_) | refine ae F F ?_ | refine af F F ?_)
   refine aT (ι:=Nat) (fun i=>i = 0) (fun i=>[(108,I ((0 : Nat) : Int)),(109,I (i : Nat)),(8,Pt x8 0),(10,Pt x10 0),(11,Pt x11 0)]) (fun i=>G4) (fun i=>[.blk x11 (.cells (List.toArray [Value.bool false]) ql (0,0)),.blk x10 (.cells (List.toArray [U8 (82 : Nat),S x,I t,ax]) qg (0,0)),.blk x8 (.cells (List.toArray [.int .u8 0,S [],.int .i64 0,ax]) qg (0,0))]) (fun i=>0) 0 ?_ tU F bd (fun i Hi=>?_)
   ·rfl
   subst Hi
   repeat' (first | refine jR ?_ | refine af F F ?_ | (refine al (c7 (id:=29) (tt:=8) F ak ?_);(refine jG (aa 4 1) 0 F (bJ F F F F) ?_);(refine jG (aa 4 3) 1 F (aD F F F) ?_);refine jA 2 F ?_;(refine jC F F F ?_);refine jK (aa 4 7) ?_;refine jW 0 [3] (aa 4 15) ?_;refine jQ ?_))
   exact jZ (vs:=[_,_]) F ⟨aB F F F F,F,trivial⟩ F ⟨hG,F,⟨82,x,t,none,0,0⟩,_,F,hlf⟩
  ·
   refine jB [(0,_),(1,_),(2,_),(3,_)] Tryz.func93 Tryz.ntmps93 fun B hok hB hW=>?_
   repeat' (first | refine jR ?_ | (refine jo ?_;first | refine jO fun _=>?_ | refine jL fun _=>?_ | refine am F ?_ | refine jV (aq F F) ?_ | refine jD F F F ?_ | refine jC F F F ?_ | refine jV (mr F F) ?_) | refine af F F ?_)
   rename_i x4 x5 x6 x7 x8 x10 x11
   refine Nx.sealC (b:=x4) fun G1 l1 s4=>?_
   refine Nx.sealC (b:=x5) fun G2 l2 s5=>?_
   refine Nx.sealC (b:=x6) fun G3 l3 s6=>?_
   refine Nx.sealC (b:=x7) fun G4 l4 s7=>?_
   have s4:=((s4.mono l2).mono l3).mono l4
   have s5:=(s5.mono l3).mono l4
   have s6:=s6.mono l4
   have hG:=((l1.trans l2).trans l3).trans l4
   have hE4:=hE.mono hG
   have g11:=g11.mono hG
   have g21:=g21.mono hG
   have g13:=hG _ _ g13
   have g23:=hG _ _ g23
   (refine al (aw (id:=13) _ (fun _ h=>h) ak ?_);refine jT 20 [7,17] (aa 22 131200) ?_;(refine jG (aa 22 131201) 0 F (dF F F aS F) ?_);refine jT 17 [1,2] (aa 22 131207) ?_;(refine jG (aa 22 131215) 3 F (dF F F aS F) ?_);refine jT 14 [4,5] (aa 22 131263) ?_;(refine jG (aa 22 131327) 6 F (aA F F aS F F) ?_);(refine jG (aa 22 131583) 8 F (aA F F aS F F) ?_);((refine jG (aa 22 132095) 9 F (bX F F (dP aS) aS F) ?_));refine jT 10 [20] (aa 22 1180671) ?_;(refine jG (aa 22 1181695) 10 F (dF F F aS F) ?_);refine jT 7 [11,12] (aa 22 1187839) ?_;(refine jG (aa 22 1196031) 13 F (aA F F aS F F) ?_);refine jT 4 [14,15] (aa 22 1245183) ?_;(refine jG (aa 22 1310719) 16 F (aA F F aS F F) ?_);(refine jG (aa 22 1572863) 18 F (aA F F aS F F) ?_);((refine jG (aa 22 2097151) 19 F (bX F F (dP aS) aS F) ?_));refine jT 0 [21] (aa 22 4194303) ?_;refine jQ ?_)
   repeat' (first | refine jR ?_ | (refine jo ?_;refine jV (dF F F aS F) ?_) | refine af F F ?_ | (refine al (c7 (id:=29) (tt:=8) F ak ?_);(refine jG (aa 4 1) 0 F (bJ F F F F) ?_);(refine jG (aa 4 3) 1 F (aD F F F) ?_);refine jA 2 F ?_;(refine jC F F F ?_);refine jK (aa 4 7) ?_;refine jW 0 [3] (aa 4 15) ?_;refine jQ ?_))
   exact jZ (vs:=[_,_]) F ⟨aB F F F F,F,trivial⟩ F ⟨hG,F,⟨69,x,t,none,0,0⟩,_,F,hlf⟩
 | uni t v htg hv ih =>
  intro G k1 k2 c hE h1 h2 ho2 ho1 hk1 hk2 hrep
  obtain ⟨t2,hr2⟩:=mP ho2 (.inr (.inr rfl))
  obtain ⟨t1,hr1⟩:=mP ho1 (.inr (.inr rfl))
  rcases kf ho2 hr2 with ⟨_,fs,e,_⟩ | ⟨_,d,e,_⟩ | ⟨g82,g69,d2,v2,e2,hd2,hv2⟩
  ·simp at e
  ·simp at e
  rcases kf ho1 hr1 with ⟨_,fs,e,_⟩ | ⟨_,d,e,_⟩ | ⟨f82,f69,d1,v1,e1,hd1,hv1⟩
  ·simp at e
  ·simp at e
  simp only [V.nd.injEq,List.cons.injEq,true_and,and_true] at e1 e2
  obtain ⟨rfl,rfl⟩:=e2
  obtain ⟨hdt,rfl⟩:=e1
  have hT1:=w1.ty t1 (bM hr1)
  have hT2:=w2.ty t2 (bM hr2)
  have hft1:=iV hT1 hd1
  have hft2:=iV hT2 hd2
  rw [← hdt] at hft1
  have hkk1:=dk w1 (bM hr1) f69 hd1
  have hkk2:=dk w2 (bM hr2) g69 hd2
  obtain ⟨j1,hj1,hjf1,hjn1,hjx1⟩:=dx hft1
  obtain ⟨j2,hj2,hjf2,hjn2,hjx2⟩:=dx hft2
  obtain ⟨hkd1,pt1,hfq1,hqm1⟩:=iQ hk1 hr1
  obtain ⟨hkd2,pt2,hfq2,hqm2⟩:=iQ hk2 hr2
  obtain ⟨fv1,ln1,hsg1,hfv1⟩:=h1.ty _ hqm1
  obtain ⟨fv2,ln2,hsg2,hfv2⟩:=h2.ty _ hqm2
  dsimp only at hsg1 hfv1 hsg2 hfv2
  have hkv1:=dA qs (nm k1)
  have hkv2:=dA rs (nm k2)
  rw [hfq1] at hkv1
  rw [hfq2] at hkv2
  dsimp only [Option.map_some] at hkv1 hkv2
  obtain ⟨u1,mm1,g11,g12,g13⟩:=h1.at'
  obtain ⟨u2,mm2,g21,g22,g23⟩:=h2.at'
  have hl1:=hT1.len
  have hl2:=hT2.len
  obtain ⟨bf1,of1,cf1,rfl,hsf1⟩:=hfv1.expl oM
  obtain ⟨bf2,of2,cf2,rfl,hsf2⟩:=hfv2.expl oM
  unfold eH at hkd1 hkd2
  simp only [List.cons.injEq,and_true] at hkd1 hkd2
  rw [hkd1.1,hkd1.2,hkd2.1,hkd2.2]
  obtain ⟨ka,kc,cs,rfl,_,_,_,hcl,hsk,hrs⟩:=im hrep
  have e0 : cE ⟨85,[],d2.tag,ka,([v] : List V).length,kc⟩ = [U8 (85 : Nat),S [],I d2.tag,.slice ka 1 kc]:=rfl
  rw [e0]
  rw [V.reps] at hrs
  obtain ⟨c1,cs1,rfl,hrv1,hrv1'⟩:=hrs
  rw [V.reps] at hrv1'
  subst hrv1'
  have hsk : bh G (.slice ka 1 kc) 4 ([c1] : List VC).length (aj cE [c1]):=hsk
  refine jB [(0,_),(1,_),(2,_),(3,_)] Tryz.func93 Tryz.ntmps93 fun B hok hB hW=>?_
  repeat' (first | refine jR ?_ | (refine jo ?_;first | refine jO fun _=>?_ | refine jL fun _=>?_ | refine am F ?_ | refine jV (aq F F) ?_ | refine jD F F F ?_ | refine jC F F F ?_ | refine jV (mr F F) ?_) | refine af F F ?_)
  rename_i x4 x5 x6 x7 x8 x10 x11
  refine Nx.sealC (b:=x4) fun G1 l1 s4=>?_
  refine Nx.sealC (b:=x5) fun G2 l2 s5=>?_
  refine Nx.sealC (b:=x6) fun G3 l3 s6=>?_
  refine Nx.sealC (b:=x7) fun G4 l4 s7=>?_
  have s4:=((s4.mono l2).mono l3).mono l4
  have s5:=(s5.mono l3).mono l4
  have s6:=s6.mono l4
  have hG:=((l1.trans l2).trans l3).trans l4
  have hE4:=hE.mono hG
  have hsg1:=hsg1.mono hG
  have hsg2:=hsg2.mono hG
  have hsf1:=hsf1.mono hG
  have hsf2:=hsf2.mono hG
  have g11:=g11.mono hG
  have g21:=g21.mono hG
  have g13:=hG _ _ g13
  have g23:=hG _ _ g23
  have hsk:=hsk.mono hG
  obtain ⟨xb,xo,xc,ee,hsx⟩:=hsk.expl (by simp)
  simp only [Value.slice.injEq] at ee
  obtain ⟨rfl,-,rfl⟩:=ee
  have hxi : ac [c1] (Int.toNat 0) = c1:=rfl
  have cx_fld:=eA hsg1 hsf1 oM hj1 hjf1 hjn1
  have cx_fld2:=eA hsg2 hsf2 oM hj2 hjf2 hjn2
  have cx_lft:=ih (G:=G4) (k1:=d1.kind) (k2:=d2.kind) (c:=c1) hE4 (h1.mono hG) (h2.mono hG) hv2 hv1 hkk1 hkk2 (fJ hG hrv1)
  have cx_one:=wU (y4:=x4) (y11:=x11) (b0:=false) s4 cx_lft
  rw [show sg d1.kind = sg (ac t1.fields j1).kind by rw [hjx1],show bs d1.kind = bs (ac t1.fields j1).kind by rw [hjx1],show nm d1.kind = nm (ac t1.fields j1).kind by rw [hjx1],show sg d2.kind = sg (ac t2.fields j2).kind by rw [hjx2],show bs d2.kind = bs (ac t2.fields j2).kind by rw [hjx2],show nm d2.kind = nm (ac t2.fields j2).kind by rw [hjx2]] at cx_one
  (refine al (aw (id:=13) _ (fun _ h=>h) ak ?_);refine jT 20 [7,17] (aa 22 131200) ?_;(refine jG (aa 22 131201) 0 F (dF F F aS F) ?_);refine jT 17 [1,2] (aa 22 131207) ?_;(refine jG (aa 22 131215) 3 F (dF F F aS F) ?_);refine jT 14 [4,5] (aa 22 131263) ?_;(refine jG (aa 22 131327) 6 F (aA F F aS F F) ?_);(refine jG (aa 22 131583) 8 F (aA F F aS F F) ?_);((refine jG (aa 22 132095) 9 F (bX F F (dP aS) aS F) ?_));refine jT 10 [20] (aa 22 1180671) ?_;(refine jG (aa 22 1181695) 10 F (dF F F aS F) ?_);refine jT 7 [11,12] (aa 22 1187839) ?_;(refine jG (aa 22 1196031) 13 F (aA F F aS F F) ?_);refine jT 4 [14,15] (aa 22 1245183) ?_;(refine jG (aa 22 1310719) 16 F (aA F F aS F F) ?_);(refine jG (aa 22 1572863) 18 F (aA F F aS F F) ?_);((refine jG (aa 22 2097151) 19 F (bX F F (dP aS) aS F) ?_));refine jT 0 [21] (aa 22 4194303) ?_;refine jQ ?_)
  repeat' (first | refine jR ?_ | (refine jo ?_;refine jV (dF F F aS F) ?_) | refine ae F F ?_)
  (refine al (aw (id:=16) [] (fun _ h=>absurd h (by simp)) ak ?_);refine jW 17 [0,1,2,8,9,15] (aa 23 33543) ?_;(refine jG (aa 23 33551) 3 F (aA F F aS F F) ?_);(refine jG (aa 23 34575) 10 F (aA F F aS F F) ?_);(refine jG (aa 23 100111) 16 F (aA F F aS F F) ?_);((refine jG (aa 23 231183) 17 F (aY F F ?_) ?_;focus omega));(refine jG (aa 23 493327) 18 F (kK F F aS F F) ?_);refine jA 4 F ?_;(refine ad F F F cx_fld F ?_);refine jK (aa 23 493343) ?_;refine jW 9 [5,6] (aa 23 493439) ?_;((refine jG (aa 23 493567) 7 F (c8 F F aS ?_ F F) ?_;focus omega));refine jA 11 F ?_;(refine ad F F F cx_fld2 F ?_);refine jK (aa 23 495615) ?_;refine jW 5 [12,13] (aa 23 507903) ?_;((refine jG (aa 23 524287) 14 F (c8 F F aS ?_ F F) ?_;focus omega));refine jA 19 F ?_;(refine d7 F F F cx_one F ?_;rintro _ G6 _ hle6 ⟨⟨q1,q2,q3,q4,q5,q6⟩,b9,rfl,hr9,rfl⟩;dsimp only [zA,fA]);refine jK (aa 23 1048575) ?_;refine jA 20 F ?_;(refine jF fun _=>?_);refine jK (aa 23 2097151) ?_;refine jW 1 [21] (aa 23 4194303) ?_;refine jA 22 F ?_;(refine jD F F F ?_);refine jK (aa 23 8388607) ?_;refine jQ ?_)
  rename_i xk
  refine Nx.sealC (b:=xk) fun G7 l7 sk=>?_
  have hsl7 : bh G7 (.slice (some ⟨xk,0,none⟩) 1 1) 4 ([(⟨q1,q2,q3,q4,q5,q6⟩ : VC)] : List VC).length (aj cE [⟨q1,q2,q3,q4,q5,q6⟩]):=⟨rfl,.inr ⟨xk,0,1,rfl,Nat.le_refl _,sk⟩⟩
  repeat' (first | refine jR ?_ | (refine al (c7 (id:=29) (tt:=8) F ak ?_);(refine jG (aa 4 1) 0 F (bJ F F F F) ?_);(refine jG (aa 4 3) 1 F (aD F F F) ?_);refine jA 2 F ?_;(refine jC F F F ?_);refine jK (aa 4 7) ?_;refine jW 0 [3] (aa 4 15) ?_;refine jQ ?_))
  exact jZ (vs:=[_,_]) F ⟨aB F F F F,F,trivial⟩ F ⟨hG.trans (hle6.trans l7),F,⟨85,[],d2.tag,some ⟨xk,0,none⟩,1,1⟩,_,F,cV (ks:=[v]) dC ⟨oM,oM⟩ (fun h=>(by cases h)) F hsl7 ⟨_,[],F,fJ l7 hr9,F⟩⟩
abbrev u4 : TypeId:=77
theorem rS {s k r l : ye} (hs : s.length ≤ 1048576) (hk : k.length ≤ 1048576) (hr : r.length ≤ 1048576) (hl : l.length ≤ 1048576) (h : bP s k r l = true) :
  ce yd 85 [S s,S k,S r,S l] G (fun v G'=>∃ eb mb ba bb qs rs,v = Tu [Pt eb 0,Ag [S (sg k),S (bs k),S (nm k)],Ag [S (sg l),S (bs l),S (nm l)],Bo true] ∧ bE G' eb 0 [Pt ba 0,Pt bb 0,.map (some mb)] ∧ ScI G' ba qs ∧ ScI G' bb rs ∧ ar s = some (ag qs) ∧ ar r = some (ag rs)):=by
 cases e1 : bo s k with
 | false=>rw [eE (.inl e1)] at h;cases h
 | true =>
  cases e2 : bo r l with
  | false=>rw [eE (.inr e2)] at h;cases h
  | true =>
   obtain ⟨ts,t1,t2,t3⟩:=eD e1
   obtain ⟨us,u1,u2,u3⟩:=eD e2
   have k1 : ∀ {s k : ye} {ts : List Ty},s.length ≤ 1048576 → k.length ≤ 1048576 → ar s = some ts → bo s k = true → ∀ G,ce yd 52 [S s,S k] G (fun v G'=>∃ b qs,v = Tu [Pt b 0,Ag [S (sg k),S (bs k),S (nm k)],Bo true] ∧ ag qs = ts ∧ ScI G' b qs):=fun hs hk h1 h3 G=>by
    refine (gM (G:=G) oM oM).mono ?_
    rintro v G' L' ⟨g1,g2,⟨g3,_⟩ | ⟨b,qs,rfl,g4,g5,g6⟩⟩
    ·rw [h3] at g3;cases g3
    ·rw [h1] at g4;exact ⟨g1,g2,b,qs,F,(Option.some.inj g4).symm,g6⟩
   have cx_boa:=k1 hs hk t1 e1
   have cx_bob:=k1 hr hl u1 e2
   rw [ig t1 u1 t2 u2] at h
   rw [t1,u1]
   refine jB [(0,_),(1,_),(2,_),(3,_)] Tryz.func85 Tryz.ntmps85 fun B hok hB hW=>?_
   repeat' (first | refine jR ?_ | (refine jo ?_;first | refine jL fun _=>?_ | refine jC F F F ?_ | refine aG F ?_ | refine jV (aq F F) ?_ | refine tN F fun _=>?_ | refine jO fun _=>?_ | (refine aJ F F F (cx_boa _) F ?_;rintro _ G hle ⟨ba,qa,rfl,hT1,hR1⟩;((try have hR1:=SchR.mono hR1 hle);(try have hR1:=ScI.mono hR1 hle))) | (refine aJ F F F (cx_bob _) F ?_;rintro _ G hle ⟨bb,qb,rfl,hT2,hR2⟩;((try have hR1:=SchR.mono hR1 hle);(try have hR1:=ScI.mono hR1 hle)))) | refine aE F F F ?_ | refine af F F ?_)
   rename_i x9 x10 G1 hle1 hR0 x13 x16 mb eb
   refine Nx.sealC (b:=eb) fun G2 hle2 hE=>?_
   subst hT1
   subst hT2
   have cx_k0:=oZ (mb:=mb) hE (hR1.mono hle2) (hR2.mono hle2) t3 u3 ((ag qa).length * (ag qb).length + 1) k l [] AskW.nil (by simp) t2 u2
   have hx1:=hR1.mono hle2
   have hx2:=hR2.mono hle2
   generalize cQ (ag qa) (ag qb) ((ag qa).length * (ag qb).length + 1) k l [] = q at cx_k0 h
   have cx_ks : cg yd 118 [Pt eb 0,Ag [S (sg k),S (bs k),S (nm k)],Ag [S (sg l),S (bs l),S (nm l)]] G2 [.blk mb (bU [])] (fun v L'=>v = Bo q.1 ∧ L' = [.blk mb (bU q.2)]):=cx_k0
   rw [h] at cx_ks
   (refine al (aw (id:=6) [.blk x16 (.cells (List.toArray [S (sg l),S (bs l),S (nm l)]) u4 (0,0)),.blk x13 (.cells (List.toArray [S (sg k),S (bs k),S (nm k)]) u4 (0,0))] (by intro y hy;simp only [List.mem_cons,List.not_mem_nil,or_false] at hy ⊢;rcases hy with hy | hy <;> simp [hy]) ak ?_);refine jW 9 [0,3] (aa 11 9) ?_;(refine jG (aa 11 11) 1 F (bJ F F F F) ?_);(refine jG (aa 11 15) 2 F (bJ F F F F) ?_);(refine jG (aa 11 31) 4 F (bJ F F F F) ?_);(refine jG (aa 11 63) 5 F (bJ F F F F) ?_);refine jA 6 F ?_;(refine gJ F F F cx_ks F ?_;rintro _ _ ⟨rfl,rfl⟩;dsimp only [zA,fA]);refine jK (aa 11 127) ?_;refine jW 3 [7] (aa 11 255) ?_;refine jA 8 F ?_;(refine jC F F F ?_);refine jK (aa 11 511) ?_;refine jA 9 F ?_;(refine jC F F F ?_);refine jK (aa 11 1023) ?_;refine jW 0 [10] (aa 11 2047) ?_;refine jQ ?_)
   repeat' (refine jR ?_)
   all_goals refine jZ (vs:=[_,_,_,_]) F ⟨F,aB F F F F,aB F F F F,F,trivial⟩ F ⟨((Gh.le.trans hle1 hle).trans hle2),F,?_⟩
   all_goals exact ⟨_,_,_,_,_,_,F,hE,hx1,hx2,F,F⟩
theorem rP {s k r l x : ye} (hs : s.length ≤ 1048576) (hk : k.length ≤ 1048576) (hr : r.length ≤ 1048576) (hl : l.length ≤ 1048576) (h : bP s k r l = false) :
  ce yd 54 [S s,S k,S r,S l,S x] G (fun v _=>∃ z b,v = Tu [Ag (cE z),Bo b,Bo false]):=by
 have cx_ev:=fun G=>o6 (G:=G) hs hk hr hl
 rw [h] at cx_ev
 refine jB [(0,_),(1,_),(2,_),(3,_),(4,_)] Tryz.func54 Tryz.ntmps54 fun B hok hB hW=>?_
 repeat' (first | refine jR ?_ | (refine jo ?_;first | refine jL fun _=>?_ | refine jC F F F ?_ | refine jV (aq F F) ?_ | (refine aJ F F F (cx_ev _) F ?_;rintro _ G hle ⟨x1,y1,y2,y3,y4,y5,y6,rfl⟩;skip)) | refine ae F F ?_)
 all_goals exact jZ (vs:=[_,_,_]) F ⟨aB F F F F,F,F,trivial⟩ F ⟨hle,F,⟨0,[],0,none,0,0⟩,_,F⟩
theorem rO {s k r l x : ye} (hs : s.length ≤ 1048576) (hk : k.length ≤ 1048576) (hr : r.length ≤ 1048576) (hl : l.length ≤ 1048576) (h : bP s k r l = true) (hx : dU r l = some x) :
  ce yd 54 [S s,S k,S r,S l,S x] G (fun v G'=>∃ u c b,v = Tu [Ag (cE c),Bo b,Bo true] ∧ V.rep G' u c ∧ u.out = x ∧ u.tot ≤ 1000000):=by
 obtain ⟨us,u,i1,i2,i3,i4,i5,i6,i7⟩:=qm hx
 obtain ⟨ts,m,j1,j2,j3,j4,_⟩:=sO h i1 i3 i4
 have hvo:=sd (cS i1) i3 (by rw [i5];exact i7) i6
 rw [i5] at hvo
 have cx_ev2:=fun G=>rS (G:=G) hs hk hr hl h
 refine jB [(0,_),(1,_),(2,_),(3,_),(4,_)] Tryz.func54 Tryz.ntmps54 fun B hok hB hW=>?_
 repeat' (first | refine jR ?_ | (refine jo ?_;first | refine jL fun _=>?_ | refine jC F F F ?_ | (refine aJ F F F (cx_ev2 _) F ?_;rintro _ G hle ⟨eb,mb,ba,bb,qs,rs,rfl,hE,hS1,hS2,hsc1,hsc2⟩;skip)) | refine af F F ?_)
 obtain rfl:=Option.some.inj (i1.symm.trans hsc2)
 obtain rfl:=Option.some.inj (j1.symm.trans hsc1)
 have cx_ris : ce yd 92 [Pt bb 0,Ag [S (sg l),S (bs l),S (nm l)],S x] G (fun v G'=>∃ cv,v = Tu [Ag (cE cv),Bo true] ∧ V.rep G' u cv):=by
  refine (uA (G:=G) hS2 (cS i1) j3 oM).mono ?_
  rintro v G' L' ⟨g1,g2,⟨g3,_⟩ | ⟨u2,c,g3,rfl,g4⟩⟩
  ·rw [hvo] at g3;cases g3
  ·rw [hvo] at g3
   obtain rfl:=Option.some.inj g3
   exact ⟨g1,g2,c,F,g4⟩
 have hle0:=hle
 have htot : u.tot ≤ 1000000:=by
  obtain ⟨_,_,_,_,h6,_⟩:=qA (s:=r) (k:=l) (w:=x) (u:=u) (by unfold oA;rw [i1];dsimp only;rw [if_pos i2];exact hvo)
  omega
 (refine al (aw (id:=4) _ (fun _ h=>h) ak ?_);refine jT 9 [0,1,2,5] (aa 13 39) ?_;(refine jG (aa 13 47) 3 F (aA F F aS F F) ?_);(refine jG (aa 13 63) 4 F (bJ F F F F) ?_);refine bY [6,10] kR dC ⟨?_,?_,trivial⟩;(focus (refine a5 F F ?_;(refine aJ F F F cx_ris F ?_;rintro _ G hle ⟨cv,rfl,hrv⟩;skip);refine jK (aa 13 127) ?_;refine jW 3 [7,8,9] (aa 13 1023) ?_;refine jA 10 F ?_;(refine jL fun _=>?_);refine jK (aa 13 2047) ?_;refine jA 11 F ?_;(refine jC F F F ?_);refine jK (aa 13 4095) ?_;refine jW 0 [12] (aa 13 8191) ?_;refine jQ ?_));rotate_left 1;(focus (refine a5 F F ?_;(refine jL fun _=>?_);refine jK (aa 13 1087) ?_;refine jA 6 F ?_;(refine aJ F F F cx_ris F ?_;rintro _ G hle ⟨cv,rfl,hrv⟩;skip);refine jK (aa 13 1151) ?_;refine jW 2 [7,8,9] (aa 13 2047) ?_;refine jA 11 F ?_;(refine jC F F F ?_);refine jK (aa 13 4095) ?_;refine jW 0 [12] (aa 13 8191) ?_;refine jQ ?_));rotate_left 1)
 repeat' (first | refine jR ?_ | (refine jo ?_;refine aZ F ?_) | refine af F F ?_)
 all_goals
  have hle1:=hle0.trans hle
  have cx_lft:=v9 (cS j1) (cS i1) i4 (hE.mono hle) (hS1.mono hle) (hS2.mono hle) i3 j4 j2 i2 hrv
  repeat' (first | refine jR ?_ | (refine jo ?_;first | refine jL fun _=>?_ | refine jC F F F ?_ | refine aZ F ?_ | (refine aJ F F F cx_lft F ?_;rintro _ G hle ⟨c1,b1,rfl,hrep⟩;skip)))
  exact jZ (vs:=[_,_,_]) F ⟨aB F F F F,F,F,trivial⟩ F ⟨hle1.trans hle,F,u,c1,_,F,hrep,i5,htot⟩
theorem nM {s k r l x : ye} (hs : s.length ≤ 1048576) (hk : k.length ≤ 1048576) (hr : r.length ≤ 1048576) (hl : l.length ≤ 1048576) (hx : dU r l = some x) :
  aI yd 23 [S s,S k,S r,S l,S x] G (· = xm (if bP s k r l = true then some x else none)):=by
 cases h : bP s k r l with
 | false =>
  have cx_lf0:=fun G=>rP (G:=G) (x:=x) hs hk hr hl h
  refine jB (Post:=fun v G' L'=>G' = G ∧ L' = [] ∧ _) [(0,_),(1,_),(2,_),(3,_),(4,_)] Tryz.func23 Tryz.ntmps23 fun B hok hB hW=>?_
  repeat' (first | refine jR ?_ | (refine jo ?_;first | refine jL fun _=>?_ | refine jC F F F ?_ | (refine aJ F F F (cx_lf0 _) F ?_;rintro _ G hle ⟨z1,b1,rfl⟩;skip)) | refine ae F F ?_)
  all_goals refine Nx.base hok hB ?_
  all_goals refine jY (vs:=[_,_]) ?_
  all_goals rfl
 | true =>
  have cx_lf1:=fun G=>rO (G:=G) hs hk hr hl h hx
  refine jB (Post:=fun v G' L'=>G' = G ∧ L' = [] ∧ _) [(0,_),(1,_),(2,_),(3,_),(4,_)] Tryz.func23 Tryz.ntmps23 fun B hok hB hW=>?_
  repeat' (first | refine jR ?_ | (refine jo ?_;first | refine jL fun _=>?_ | refine jC F F F ?_ | refine aZ F ?_ | (refine aJ F F F (cx_lf1 _) F ?_;rintro _ G hle ⟨u1,c1,b1,rfl,hrv,huo,hut⟩;skip)) | refine af F F ?_)
  have cx_pr:=pU (G:=G) _ (Nat.le_refl _) hut hrv
  rw [huo] at cx_pr
  repeat' (first | refine jR ?_ | (refine jo ?_;refine ad F F F cx_pr F ?_))
  all_goals refine Nx.base hok hB ?_
  all_goals refine jY (vs:=[_,_]) ?_
  all_goals rfl
abbrev cN : TypeId:=93
theorem sW {v : Value} {l : ye} (h : bh G v 1 l.length (bD l)) : cg yd 26 [v] G [] (fun v L'=>∃ b code l',v = Pt b 0 ∧ L' = [dB b code 0 cN] ∧ bh G code 1 l'.length (bD l') ∧ l'.length ≤ 2000):=by
 obtain ⟨h1,⟨rfl,h2⟩ | ⟨c,o,cap,rfl,h2,h3⟩⟩:=id h
 ·refine jH [(0,_)] Tryz.func26 Tryz.ntmps26 fun B hB hW=>?_
  repeat' (first | refine jR ?_ | (refine jo ?_;first | refine jV (ai F) ?_ | refine jV (aq F F) ?_ | refine jO fun _=>?_) | refine af F F ?_)
  refine aM (vs:=[_]) F ⟨F,trivial⟩ F (List.Sublist.refl _) ⟨F,_,_,[],F,F,⟨by simp [bD],.inl ⟨F,F⟩⟩,by simp⟩
 ·refine jH [(0,_)] Tryz.func26 Tryz.ntmps26 fun B hB hW=>?_
  repeat' (first | refine jR ?_ | (refine jo ?_;first | refine jV (ai F) ?_ | refine jV (oD F F oM) ?_ | refine jV (aq F F) ?_ | refine jO fun _=>?_) | refine cz F (fun _=>?_) (fun _=>?_))
  ·refine aM (vs:=[_]) F ⟨F,trivial⟩ F (List.Sublist.refl _) ⟨F,_,_,l.take 2000,F,F,?_,by simp;omega⟩
   have e : (l.take 2000).length = 2000:=by simp;omega
   rw [e]
   refine ⟨by simp [bD];omega,.inr ⟨c,o,cap,rfl,oM,?_⟩⟩
   have:=h3.take 2000
   simpa [bD] using this
  ·exact aM (vs:=[_]) F ⟨F,trivial⟩ F (List.Sublist.refl _) ⟨F,_,_,l,F,F,h,oM⟩
theorem cl {b : Nat} {code : Value} {p n : Int} {l : ye} (hp : 0 ≤ p ∧ p ≤ 1000000000000 ∧ n ≤ 1000000000000) (hs : bh G code 1 l.length (bD l)) :
  cg yd 28 [Pt b 0,I n] G [dB b code p cN] (fun v L'=>∃ k,v = I k ∧ L' = [dB b code (p + 1) cN] ∧ 0 ≤ k ∧ (k < n ∨ k = 0)):=by
 obtain ⟨h1,⟨rfl,h2⟩ | ⟨c,o,cap,rfl,h2,h3⟩⟩:=id hs
 ·refine jH [(0,_),(1,_)] Tryz.func28 Tryz.ntmps28 fun B hB hW=>?_
  repeat' (first | (refine run (t:=tb) 400 F ?_ ?_;(focus (repeat' (first | exact trivial | apply And.intro | omega)))) | (refine jo ?_;first | refine am F ?_ | refine jD F F F ?_ | refine jV (ai F) ?_ | refine aV F ?_ | refine aG F ?_) | refine dm F F (fun _=>?_) (fun _=>?_) | refine ae F F ?_)
  all_goals exact aM (vs:=[_]) F ⟨F,trivial⟩ F (List.Sublist.refl _) ⟨F,_,F,F,oM,oM⟩
 ·have b1:=jm l (p + 1 - 1).toNat
  have b2:=jm l ((p + 1 - 1) % (l.length : Int)).toNat
  have b3:=jm l (((p + 1 - 1) * 7 + 3) % (l.length : Int)).toNat
  have e1:=fun h=>Int.emod_nonneg (p + 1 - 1) (b:=(l.length : Int)) h
  have e2:=fun h=>Int.emod_lt_of_pos (p + 1 - 1) (b:=(l.length : Int)) h
  have e3:=fun h=>Int.emod_nonneg ((p + 1 - 1) * 7 + 3) (b:=(l.length : Int)) h
  have e4:=fun h=>Int.emod_lt_of_pos ((p + 1 - 1) * 7 + 3) (b:=(l.length : Int)) h
  have e5:=fun h=>Int.ediv_nonneg (a:=p + 1 - 1) (b:=(l.length : Int)) h oM
  have e6:=fun h=>Int.ediv_le_self (a:=p + 1 - 1) (l.length : Int) h
  refine jH [(0,_),(1,_)] Tryz.func28 Tryz.ntmps28 fun B hB hW=>?_
  repeat' (first | (refine run (t:=tb) 400 F ?_ ?_;(focus (repeat' (first | exact trivial | apply And.intro | omega)))) | (refine jo ?_;first | refine am F ?_ | (refine jV (qB F aS ?_) ?_;focus omega) | refine jD F F F ?_ | refine jV (ai F) ?_ | refine aV F ?_ | refine aG F ?_ | refine jV (aY F F oM) ?_ | refine jV (vm F F oM) ?_) | refine dm F F (fun _=>?_) (fun _=>?_) | refine ae F F ?_ | refine cz F (fun _=>?_) (fun _=>?_) | (refine al (aw (id:=7) _ (fun _ h=>h) ak ?_);refine jU 24 [0,1,2,4,5,6,7,15,16,17,19,20,21,22,23,24,33,34,36,37,38,39] (aa 46 1056595214583) ?_ ?_;(focus (repeat' (first | exact trivial | apply And.intro | omega)));(refine jG (aa 46 1056595214591) 3 F (aD F F F) ?_);(refine jG (aa 46 1056595214847) 8 F (aD F F F) ?_);(refine jG (aa 46 1056595215359) 9 F (ai F) ?_);refine jU 20 [10] (aa 46 1056595216383) ?_ ?_;(focus (repeat' (first | exact trivial | apply And.intro | omega)));(refine jG (aa 46 1056595218431) 11 F (aY F F oM) ?_);((refine jG (aa 46 1056595222527) 12 F (qB F aS ?_) ?_;focus omega));refine jU 16 [13,14] (aa 46 1056595247103) ?_ ?_;(focus (repeat' (first | exact trivial | apply And.intro | omega)));(refine jG (aa 46 1056595509247) 18 F (aD F F F) ?_);(refine jG (aa 46 1056629063679) 25 F (aD F F F) ?_);(refine jG (aa 46 1056696172543) 26 F (ai F) ?_);refine jU 12 [27] (aa 46 1056830390271) ?_ ?_;(focus (repeat' (first | exact trivial | apply And.intro | omega)));(refine jG (aa 46 1057098825727) 28 F (aY F F oM) ?_);((refine jG (aa 46 1057635696639) 29 F (qB F aS ?_) ?_;focus omega));refine jU 6 [30,31,32,35] (aa 46 1099511627775) ?_ ?_;(focus (repeat' (first | exact trivial | apply And.intro | omega)));(refine jG (aa 46 2199023255551) 40 F (aD F F F) ?_);(refine jG (aa 46 4398046511103) 41 F (ai F) ?_);refine jU 0 [42,43,44,45] (aa 46 70368744177663) ?_ ?_;(focus (repeat' (first | exact trivial | apply And.intro | omega)));refine jQ ?_))
  all_goals (first | exact aM (vs:=[_]) F ⟨F,trivial⟩ F (List.Sublist.refl _) ⟨F,_,F,F,oM,oM⟩ | exact aM (vs:=[_]) F ⟨F,trivial⟩ F (List.Sublist.refl _) ⟨F,_,F,F,Int.emod_nonneg _ oM,.inl (Int.emod_lt_of_pos _ oM)⟩ | exact tP _ _)
theorem fg {r : Nat} {code : Value} {p : Int} {l : ye} (hp : 0 ≤ p ∧ p ≤ 900000000000) (hs : bh G code 1 l.length (bD l)) :
  cg yd 83 [Pt r 0] G [dB r code p cN] (fun v L'=>∃ x q,v = S x ∧ x.length ≤ 400 ∧ L' = [dB r code q cN] ∧ p ≤ q ∧ q ≤ p + 10):=by
 refine jH [(0,_)] Tryz.func83 Tryz.ntmps83 fun B hB hW=>?_
 repeat' (first | refine jR ?_ | (refine jo ?_;first | refine jF fun _=>?_ | refine jV (aY F F oM) ?_ | (refine fy 64 F F F ?_ F (fun xs hxs=>?_);(focus ((simp only [List.length_append,List.length_cons,List.length_nil,List.length_take];omega);done))) | (refine an F F F (cl ?_ (by (repeat (assumption));done)) rfl ?_;(focus omega);rintro _ _ ⟨k,rfl,rfl,hk0,hk1⟩;dsimp only [zA,fA])))
 refine aT (ι:=ye × Int × Int) (fun j=>(0 ≤ j.2.1 ∧ j.2.1 ≤ 3) ∧ ((j.1.length : Nat) : Int) ≤ 64 * (4 - j.2.1) ∧ p ≤ j.2.2 ∧ j.2.2 ≤ p + 5 - j.2.1) (fun j=>[(0,Pt r 0),(3,S j.1),(4,I j.2.1)]) (fun _=>G) (fun j=>[dB r code j.2.2 cN]) (fun j=>j.2.1.toNat) (xs,k,p + 1 + 1) ?_ tU F sB (fun j Hj=>?_)
 ·dsimp only;omega
 obtain ⟨s,kk,q⟩:=j
 dsimp only at Hj ⊢
 obtain ⟨hk,hsl,hq0,hq1⟩:=Hj
 by_cases h1 : 1 < kk
 ·repeat' (first | refine jM ?_ | (refine jo ?_;first | refine jF fun _=>?_ | refine jV (aY F F oM) ?_ | (refine fy 64 F F F ?_ F (fun xs hxs=>?_);(focus ((simp only [List.length_append,List.length_cons,List.length_nil,List.length_take];omega);done))) | (refine an F F F (cl ?_ (by (repeat (assumption));done)) rfl ?_;(focus omega);rintro _ _ ⟨k,rfl,rfl,hk0,hk1⟩;dsimp only [zA,fA])) | refine ae F (aC ‹_›) ?_)
  exact aW (xs ++ s,kk - 1,q + 1) (by dsimp only;rw [List.length_append];omega) (by dsimp only;omega) tU rfl sB
 ·repeat' (first | refine jR ?_ | (refine jo ?_;first | refine jF fun _=>?_ | refine jV (aY F F oM) ?_ | (refine fy 64 F F F ?_ F (fun xs hxs=>?_);(focus ((simp only [List.length_append,List.length_cons,List.length_nil,List.length_take];omega);done))) | (refine an F F F (cl ?_ (by (repeat (assumption));done)) rfl ?_;(focus omega);rintro _ _ ⟨k,rfl,rfl,hk0,hk1⟩;dsimp only [zA,fA])) | refine af F (aF ‹_›) ?_ | refine cz F (fun _=>?_) (fun _=>?_))
  all_goals exact aM (vs:=[_]) F ⟨F,trivial⟩ F sB ⟨F,_,_,F,oM,F,oM,oM⟩
theorem qR {r : Nat} {code : Value} {p tag : Int} {l so nm : ye} (hp : 0 ≤ p ∧ p ≤ 800000000000) (hs : bh G code 1 l.length (bD l)) (ht : 0 ≤ tag ∧ tag ≤ 1000000) (hnm : nm.length ≤ 100) :
  cg yd 140 [Pt r 0,S so,I tag,S nm] G [dB r code p cN] (fun v L'=>∃ x q,v = S x ∧ x.length ≤ 1000 ∧ L' = [dB r code q cN] ∧ p ≤ q ∧ q ≤ p + 20):=by
 have hdl:=fO (n:=tag) oM
 refine jH [(0,_),(1,_),(2,_),(3,_)] Tryz.func140 Tryz.ntmps140 fun B hB hW=>?_
 repeat' (first | refine jX ?_ | (refine jo ?_;first | refine aV F ?_ | refine aG F ?_ | refine jF fun _=>?_ | refine jV (aY F F oM) ?_ | (refine fy 64 F F F ?_ F (fun xs hxs=>?_);(focus ((simp only [List.length_append,List.length_cons,List.length_nil,List.length_take];omega);done))) | refine ad F F F (fh oM) F ?_ | (refine an F F F (fg ?_ (by (repeat (assumption));done)) rfl ?_;(focus omega);rintro _ _ ⟨kd,q1,rfl,hkd,rfl,hq1,hq2⟩;dsimp only [zA,fA]) | (refine an F F F (cl ?_ (by (repeat (assumption));done)) rfl ?_;(focus omega);rintro _ _ ⟨k,rfl,rfl,hk0,hk1⟩;dsimp only [zA,fA])) | refine dm F F (fun _=>?_) (fun _=>?_) | refine af F F ?_ | refine cz F (fun _=>?_) (fun _=>?_))
 all_goals exact aM (vs:=[_]) F ⟨F,trivial⟩ F sB ⟨F,_,_,F,by simp only [List.length_append,List.length_cons,List.length_nil];omega,rfl,oM,oM⟩
theorem rQ {r : Nat} {code : Value} {p : Int} {l so nm : ye} (hp : 0 ≤ p ∧ p ≤ 700000000000) (hs : bh G code 1 l.length (bD l)) (hso : so.length ≤ 64) (hnm : nm.length ≤ 64) :
  cg yd 98 [Pt r 0,S so,S nm] G [dB r code p cN] (fun v L'=>∃ x q,v = S x ∧ x.length ≤ 6000 ∧ 1 ≤ x.length ∧ L' = [dB r code q cN] ∧ p ≤ q ∧ q ≤ p + 200):=by
 refine jH [(0,_),(1,_),(2,_)] Tryz.func98 Tryz.ntmps98 fun B hB hW=>?_
 repeat' (first | refine jX ?_ | (refine jo ?_;first | refine aV F ?_ | refine aG F ?_ | (refine an F F F (cl ?_ (by (repeat (assumption));done)) rfl ?_;(focus omega);rintro _ _ ⟨k,rfl,rfl,hk0,hk1⟩;dsimp only [zA,fA])) | refine dm F F (fun _=>?_) (fun _=>?_) | refine af F F ?_ | refine cz F (fun _=>?_) (fun _=>?_))
 all_goals
  have cx_pk2 : ∀ {p : Int},0 ≤ p ∧ p ≤ 1000000000000 → cg yd 28 [Pt r 0,I 2] G [dB r code p cN] (fun v L'=>L' = [dB r code (p + 1) cN] ∧ (v = I 0 ∨ v = I 1)):=fun {p} hp=>(cl (b:=r) (p:=p) (n:=2) ⟨hp.1,hp.2,by decide⟩ hs).mono fun v G' L' ⟨h1,k,h2,h3,h4,h5⟩=>⟨h1,h3,by subst h2;rcases (show k = 0 ∨ k = 1 by omega) with rfl | rfl;exact .inl F;exact .inr F⟩
  refine aT (ι:=ye × Int × Int × Int × Int) (fun j=>(0 ≤ j.2.2.1 ∧ j.2.2.1 ≤ j.2.2.2.1 ∧ j.2.2.2.1 ≤ 4) ∧ (0 ≤ j.2.1 ∧ j.2.1 ≤ 10 * j.2.2.1) ∧ (1 ≤ j.1.length ∧ ((j.1.length : Nat) : Int) ≤ 200 + 1001 * j.2.2.1) ∧ p ≤ j.2.2.2.2 ∧ j.2.2.2.2 ≤ p + 4 + 30 * j.2.2.1) (fun j=>[(0,Pt r 0),(1,S so),(7,S j.1),(8,I j.2.1),(9,I j.2.2.2.1),(10,I j.2.2.1)]) (fun _=>G) (fun j=>[dB r code j.2.2.2.2 cN]) (fun j=>(j.2.2.2.1 - j.2.2.1).toNat) (so ++ nm ++ [61],0,0,_,_) ?_ tU F bd (fun j Hj=>?_)
  ·dsimp only;simp only [List.length_append,List.length_cons,List.length_nil];omega
  obtain ⟨s,tag,kk,n,q⟩:=j
  dsimp only at Hj ⊢
  obtain ⟨hk,htg,hsl,hq0,hq1⟩:=Hj
  by_cases h1 : kk < n
  ·repeat' (first | refine jX ?_ | (refine jo ?_;first | refine jF fun _=>?_ | refine jV (cZ F F (by (repeat (first | exact BL.nil | apply BL.cons));done)) ?_ | (refine an F F F (cx_pk2 oM) F ?_;rintro _ _ ⟨rfl,rfl | rfl⟩ <;> dsimp only [zA,fA]) | (refine an F F F (cl ?_ (by (repeat (assumption));done)) rfl ?_;(focus omega);rintro _ _ ⟨k,rfl,rfl,hk0,hk1⟩;dsimp only [zA,fA]) | (refine an F F F (qR ?_ (by (repeat (assumption));done) ?_ ?_) rfl ?_;(focus omega);(focus omega);(focus ((simp;done);done));rintro _ _ ⟨fd,q1,rfl,hfd,rfl,hq1,hq2⟩;dsimp only [zA,fA])) | refine ae F (aC ‹_›) ?_ | refine cz F (fun _=>?_) (fun _=>?_))
   all_goals (refine aW (_,_,kk + 1,n,_) ?_ ?_ tU F sB)
   all_goals (first | (dsimp only;simp only [List.length_append,List.length_cons,List.length_nil];omega) | (dsimp only;omega))
  ·repeat' (first | refine jX ?_ | refine af F (aF ‹_›) ?_)
   exact aM (vs:=[_]) F ⟨F,trivial⟩ F bd ⟨F,_,_,F,by simp only [List.length_append,List.length_cons,List.length_nil];omega,by simp only [List.length_append,List.length_cons,List.length_nil];omega,rfl,oM,oM⟩
theorem la {r : Nat} {code : Value} {p : Int} {l : ye} (hp : 0 ≤ p ∧ p ≤ 600000000000) (hs : bh G code 1 l.length (bD l)) :
  cg yd 59 [Pt r 0] G [dB r code p cN] (fun v L'=>∃ x q,v = S x ∧ x.length ≤ 20000 ∧ L' = [dB r code q cN] ∧ p ≤ q ∧ q ≤ p + 700):=by
 refine jH [(0,_)] Tryz.func59 Tryz.ntmps59 fun B hB hW=>?_
 repeat' (first | refine jX ?_ | (refine jo ?_;first | refine jF fun _=>?_ | refine jV (aY F F oM) ?_ | (refine fy 64 F F F ?_ F (fun xs hxs=>?_);(focus ((simp only [List.length_append,List.length_cons,List.length_nil,List.length_take];omega);done))) | refine aV F ?_ | refine aG F ?_ | (refine an F F F (rQ ?_ (by (repeat (assumption));done) ?_ ?_) rfl ?_;(focus omega);(focus ((first | assumption | (simp;done));done));(focus ((simp;done);done));rintro _ _ ⟨ty,q1,rfl,hty,hty1,rfl,hq1,hq2⟩;dsimp only [zA,fA]) | (refine an F F F (cl ?_ (by (repeat (assumption));done)) rfl ?_;(focus ((first | omega | (simp;omega));done));rintro _ _ ⟨k,rfl,rfl,hk0,hk1⟩;dsimp only [zA,fA]) | (refine ad F F F (lb ?_) F ?_;(focus ((simp;omega);done)))) | refine iS F F (fun _=>?_) (fun _=>?_) | refine af F F ?_ | refine cz F (fun _=>?_) (fun _=>?_))
 all_goals (first | exact aM (vs:=[_]) F ⟨F,trivial⟩ F sB ⟨F,_,_,F,by (simp only [List.length_append,List.length_cons,List.length_nil,List.length_take,List.length_drop];omega),rfl,oM,oM⟩ | skip)
 all_goals simp only [List.length_append,List.length_cons,List.length_nil] at hk1
 all_goals (refine al (aw (id:=6) [] (fun _ h=>absurd h (by simp)) ak ?_);refine jW 7 [0,1,2,4,9,10,11,12] (aa 15 7703) ?_;refine bY [3,5] kR dC ⟨?_,?_,trivial⟩;(focus (refine a5 F F ?_;(refine jF fun _=>?_);refine jK (aa 15 7711) ?_;refine jA 5 F ?_;((refine an F F F (cl ?_ (by (repeat (assumption));done)) rfl ?_;(focus omega);rintro _ _ ⟨k,rfl,rfl,hk0,hk1⟩;dsimp only [zA,fA]));refine jK (aa 15 7743) ?_;((refine jG (aa 15 7807) 6 F (aY F F ?_) ?_;focus omega));refine jA 7 F ?_;((refine fy 64 F F F ?_ F (fun xs hxs=>?_);(focus ((simp only [List.length_append,List.length_cons,List.length_nil,List.length_take];omega);done))));refine jK (aa 15 7935) ?_;refine jW 0 [8,13,14] (aa 15 32767) ?_;refine jQ ?_));rotate_left 1;(focus (refine a5 F F ?_;((refine an F F F (cl ?_ (by (repeat (assumption));done)) rfl ?_;(focus omega);rintro _ _ ⟨k,rfl,rfl,hk0,hk1⟩;dsimp only [zA,fA]));refine jK (aa 15 7735) ?_;refine jA 3 F ?_;(refine jF fun _=>?_);refine jK (aa 15 7743) ?_;((refine jG (aa 15 7807) 6 F (aY F F ?_) ?_;focus omega));refine jA 7 F ?_;((refine fy 64 F F F ?_ F (fun xs hxs=>?_);(focus ((simp only [List.length_append,List.length_cons,List.length_nil,List.length_take];omega);done))));refine jK (aa 15 7935) ?_;refine jW 0 [8,13,14] (aa 15 32767) ?_;refine jQ ?_));rotate_left 1)
 all_goals repeat' (refine jR ?_)
 all_goals exact aM (vs:=[_]) F ⟨F,trivial⟩ F sB ⟨F,_,_,F,by (simp only [List.length_append,List.length_cons,List.length_nil,List.length_take,List.length_drop];omega),rfl,oM,oM⟩
theorem ff {r : Nat} {code : Value} {p : Int} {l s : ye} (hp : 0 ≤ p ∧ p ≤ 600000000000) (hs : bh G code 1 l.length (bD l)) (hsl : s.length ≤ 10000000) :
  cg yd 60 [Pt r 0,S s] G [dB r code p cN] (fun v L'=>∃ x q,v = S x ∧ x.length ≤ 400 ∧ L' = [dB r code q cN] ∧ p ≤ q ∧ q ≤ p + 20):=by
 have cx_lkg : ∀ {k : ye} (G : Gh),k.length ≤ 1000 → ce yd 62 [S s,S k] G (fun v _=>∃ u b,v = Tu [u,Bo b]):=fun {k} G h=>(gK (G:=G) (s:=s) (k:=k) oM oM).mono fun v G' L' ⟨h1,h2,u,vs,h3,_⟩=>⟨h1,h2,u,_,h3⟩
 refine jB (Post:=fun v G' L'=>G' = G ∧ _) [(0,_),(1,_)] Tryz.func60 Tryz.ntmps60 fun B hok hB hW=>?_
 repeat' (first | refine jR ?_ | (refine jo ?_;first | refine jF fun _=>?_ | refine jV (aY F F oM) ?_ | (refine fy 64 F F F ?_ F (fun xs hxs=>?_);(focus ((simp only [List.length_append,List.length_cons,List.length_nil,List.length_take];omega);done))) | (refine an F F F (cl ?_ (by (repeat (assumption));done)) rfl ?_;(focus omega);rintro _ _ ⟨k,rfl,rfl,hk0,hk1⟩;dsimp only [zA,fA]) | (refine an F F F (fg ?_ (by (repeat (assumption));done)) rfl ?_;(focus omega);rintro _ _ ⟨kd,q1,rfl,hkd,rfl,hq1,hq2⟩;dsimp only [zA,fA]) | (refine aJ F F F ((cx_lkg _) oM) F ?_;rintro _ G hle ⟨u1,b1,rfl⟩;skip)) | refine cz F (fun _=>?_) (fun _=>?_) | refine oo F (fun _=>?_) (fun _=>?_))
 all_goals refine Nx.base hok hB ?_
 all_goals exact aM (vs:=[_]) F ⟨F,trivial⟩ F sB ⟨F,_,_,F,by (first | omega | (simp only [List.length_append,List.length_cons,List.length_nil,List.length_take,List.length_drop];omega)),rfl,oM,oM⟩
theorem sV {v : Value} {xs : List ye} (hs : bh G v 1 xs.length (aj bV xs)) (hl : b5 xs + xs.length ≤ 1000000) : aI yd 117 [v] G (fun r=>∃ x,r = S x ∧ x.length ≤ b5 xs + xs.length):=by
 obtain ⟨a,cap,rfl⟩:=hs.sl
 refine jE [(0,_)] Tryz.func117 Tryz.ntmps117 fun B hB=>?_
 repeat' (refine jR ?_)
 refine aT (ι:=Nat × ye) (fun q=>q.1 ≤ xs.length ∧ q.2.length ≤ b5 (xs.take q.1) + q.1) (fun q=>[(0,.slice a xs.length cap),(3,S q.2),(4,I (q.1 : Nat))]) (fun _=>G) (fun q=>[]) (fun q=>xs.length - q.1) (0,[]) ?_ tU F bd (fun q Hq=>?_)
 ·exact ⟨Nat.zero_le _,by simp⟩
 obtain ⟨i,t⟩:=q
 dsimp only at Hq ⊢
 obtain ⟨hi0,htl⟩:=Hq
 by_cases hi : i < xs.length
 ·obtain ⟨b,o,c,e,hseg⟩:=hs.expl oM
  simp only [Value.slice.injEq] at e
  obtain ⟨rfl,-,rfl⟩:=e
  have hlt:=da xs (i + 1)
  have hlt0:=da xs i
  have htk : b5 (xs.take (i + 1)) = b5 (xs.take i) + (ac xs i).length:=by
   rw [List.take_succ_eq_append_getElem hi,mg,bW hi]
  repeat' (first | refine jX ?_ | (refine jo ?_;first | refine jV (ai F) ?_ | refine jV (ah F F oM) ?_ | (refine jV (fu F F aS ?_) ?_;focus omega)) | refine ae F (aC oM) ?_ | refine cz F (fun _=>?_) (fun _=>?_))
  ·refine Nx.re (d:=4) (v':=I (i + 1 : Nat)) F (congrArg (Value.int .i64) oM) ?_
   exact aW (i + 1,t ++ [44] ++ ac xs i) ⟨by dsimp only;omega,by dsimp only;rw [htk];simp only [List.length_append,List.length_cons,List.length_nil];omega⟩ (by dsimp only;omega) tU rfl bd
  ·refine Nx.re (d:=4) (v':=I (i + 1 : Nat)) F (congrArg (Value.int .i64) oM) ?_
   exact aW (i + 1,t ++ ac xs i) ⟨by dsimp only;omega,by dsimp only;rw [htk];simp only [List.length_append,List.length_cons,List.length_nil];omega⟩ (by dsimp only;omega) tU rfl bd
 ·have hlt0:=da xs i
  repeat' (first | refine jR ?_ | (refine jo ?_;refine jV (ai F) ?_) | refine af F (aF oM) ?_)
  all_goals refine jY (vs:=[_]) ?_
  all_goals exact ⟨t,F,oM⟩
theorem dI {b : Bool} {p q : ye} : aI yd 82 [Bo b,S p,S q] G (· = S (if b = true then p else q)):=by
 cases b
 all_goals
  refine jE [(0,_),(1,_),(2,_)] Tryz.func82 Tryz.ntmps82 fun B hB=>?_
  repeat' (first | refine jR ?_ | refine ae F F ?_ | refine af F F ?_)
 all_goals refine jY (vs:=[_]) ?_
 all_goals rfl
abbrev wr : TypeId:=9
abbrev uT : TypeId:=110
theorem oe : ∀ {xs : List ye} {n : Nat},(∀ x ∈ xs,x.length ≤ n) → b5 xs ≤ xs.length * n
 | [],_,_=>by simp [b5]
 | x :: r,n,h=>by
  have h1:=h x (by simp)
  have h2:=oe (xs:=r) (n:=n) fun y hy=>h y (by simp [hy])
  simp only [b5,List.map_cons,List.sum_cons,List.length_cons,Nat.succ_mul] at h2 ⊢
  omega
def jq (f : Fld) : Prop:=(0 ≤ f.tag ∧ f.tag ≤ 1000) ∧ f.name.length ≤ 64 ∧ f.kind.length ≤ 400 ∧ f.stand.length ≤ 400
theorem sS {so : UInt8} {nm : ye} {a : Option Addr} {c : Nat} {fs : List Fld} (hs : bh G (.slice a fs.length c) 4 fs.length (aj b6 fs)) (hf : ∀ f ∈ fs,jq f) (hl : fs.length ≤ 30) (hn : nm.length ≤ 100) :
  aI yd 84 [Ag [U8 (so.toNat : Nat),S nm,.slice a fs.length c]] G (fun r=>∃ x,r = S x ∧ x.length ≤ 40000):=by
 refine jB (Post:=fun v G' L'=>G' = G ∧ L' = [] ∧ _) [(0,_)] Tryz.func84 Tryz.ntmps84 fun B hok hB hW=>?_
 repeat' (first | refine jR ?_ | (refine jo ?_;first | refine jO fun _=>?_ | refine jF fun _=>?_))
 rename_i x1 y
 refine Nx.blkAcc (m:=0) (sz:=1) .here F ?_
 refine aT (ι:=List ye × Option Addr × Nat × Nat) (fun q=>(q.2.2.2 ≤ fs.length ∧ q.1.length = q.2.2.2) ∧ ∀ x ∈ q.1,x.length ≤ 1000) (fun q=>[(1,Pt x1 0),(3,.slice q.2.1 q.1.length q.2.2.1),(4,I (q.2.2.2 : Nat))]) (fun _=>G) (fun q=>[.acc (.slice q.2.1 q.1.length q.2.2.1) wr 1 q.1.length (aj bV q.1),.blk x1 (.cells (List.toArray [U8 (so.toNat : Nat),S nm,.slice a fs.length c]) uT (0,0))]) (fun q=>fs.length - q.2.2.2) ([],some ⟨y,0,none⟩,0,0) ?_ tU F bd (fun q Hq=>?_)
 ·exact ⟨⟨Nat.zero_le _,F⟩,fun x hx=>by cases hx⟩
 obtain ⟨xs,p,cp,i⟩:=q
 dsimp only at Hq ⊢
 obtain ⟨⟨hi0,hq1⟩,hq2⟩:=Hq
 by_cases hi : i < fs.length
 ·obtain ⟨b,o,c',e,hseg⟩:=hs.expl oM
  simp only [Value.slice.injEq] at e
  obtain ⟨rfl,-,rfl⟩:=e
  obtain ⟨⟨ht0,ht1⟩,hb1,hb2,hb3⟩:=hf _ (a6 hi)
  have hd6:=oO (m:=(ac fs i).tag) oM
  by_cases h69 : so.toNat = 69
  ·have h69' : (so.toNat : Int) = 69:=oM
   by_cases hst : (ac fs i).stand = []
   ·skip
    repeat' (first | refine jM ?_ | (refine jo ?_;first | refine jF fun _=>?_ | refine am F ?_ | (refine jV (bq F F aS ?_) ?_;focus omega) | refine jV (ai F) ?_ | refine jV (ah F F oM) ?_ | refine jL fun _=>?_ | refine jC F F F ?_ | refine br F F F F F F F F F oM fun _ _=>?_) | refine ae F (aC oM) ?_ | (refine af F ?_ ?_;(focus ((first | (refine decide_eq_false ?_;(omega)) | (simp [*];done));done))) | (refine al (aw (id:=6) _ (fun _ h=>h) ak ?_);refine jT 6 [0,4] (aa 8 17) ?_;(refine jG (aa 8 19) 1 F (aD F F F) ?_);(refine jG (aa 8 51) 5 F (aD F F F) ?_);refine jA 2 F ?_;(refine ad F F F (fh oM) F ?_);refine jS (aa 8 55) ?_;refine jW 0 [3,6,7] (aa 8 255) ?_;refine jQ ?_))
    rename_i y1 yc
    rw [show aj bV xs ++ [S (a7 (ac fs i).tag ++ [58] ++ (ac fs i).name)] = aj bV (xs ++ [a7 (ac fs i).tag ++ [58] ++ (ac fs i).name]) from (cj bV xs _).symm]
    refine Nx.re (d:=4) (v':=I (i + 1 : Nat)) F (congrArg (Value.int .i64) oM) ?_
    exact aW (xs ++ [a7 (ac fs i).tag ++ [58] ++ (ac fs i).name],some ⟨y1,0,none⟩,yc,i + 1) ⟨⟨by dsimp only;omega,by dsimp only;simp [hq1]⟩,fun x hx=>by
     rcases List.mem_append.1 hx with hx | hx
     ·exact hq2 x hx
     ·simp only [List.mem_singleton] at hx;subst hx;simp only [List.length_append,List.length_cons,List.length_nil];omega⟩ (by dsimp only;omega) (by dsimp only;simp only [List.length_append,List.length_cons,List.length_nil,Nat.zero_add];repeat (first | exact trivial | refine ⟨F,?_⟩)) F (by dsimp only;simp only [List.length_append,List.length_cons,List.length_nil,Nat.zero_add];repeat (first | exact List.Sublist.refl _ | apply List.Sublist.cons_cons | apply List.Sublist.cons))
   ·skip
    repeat' (first | refine jX ?_ | (refine jo ?_;first | refine jF fun _=>?_ | refine am F ?_ | (refine jV (bq F F aS ?_) ?_;focus omega) | refine jV (ai F) ?_ | refine jV (ah F F oM) ?_ | refine jL fun _=>?_ | refine jC F F F ?_ | refine br F F F F F F F F F oM fun _ _=>?_) | (refine ae F (by refine decide_eq_true ?_;first | assumption | omega) ?_) | refine af F (aF oM) ?_ | (refine al (aw (id:=6) _ (fun _ h=>h) ak ?_);refine jT 6 [0,4] (aa 8 17) ?_;(refine jG (aa 8 19) 1 F (aD F F F) ?_);(refine jG (aa 8 51) 5 F (aD F F F) ?_);refine jA 2 F ?_;(refine ad F F F (fh oM) F ?_);refine jS (aa 8 55) ?_;refine jW 0 [3,6,7] (aa 8 255) ?_;refine jQ ?_))
    rename_i y1 yc
    rw [show aj bV xs ++ [S (a7 (ac fs i).tag ++ [58] ++ (ac fs i).name ++ [61] ++ (ac fs i).stand)] = aj bV (xs ++ [a7 (ac fs i).tag ++ [58] ++ (ac fs i).name ++ [61] ++ (ac fs i).stand]) from (cj bV xs _).symm]
    refine Nx.re (d:=4) (v':=I (i + 1 : Nat)) F (congrArg (Value.int .i64) oM) ?_
    exact aW (xs ++ [a7 (ac fs i).tag ++ [58] ++ (ac fs i).name ++ [61] ++ (ac fs i).stand],some ⟨y1,0,none⟩,yc,i + 1) ⟨⟨by dsimp only;omega,by dsimp only;simp [hq1]⟩,fun x hx=>by
     rcases List.mem_append.1 hx with hx | hx
     ·exact hq2 x hx
     ·simp only [List.mem_singleton] at hx;subst hx;simp only [List.length_append,List.length_cons,List.length_nil];omega⟩ (by dsimp only;omega) (by dsimp only;simp only [List.length_append,List.length_cons,List.length_nil,Nat.zero_add];repeat (first | exact trivial | refine ⟨F,?_⟩)) F (by dsimp only;simp only [List.length_append,List.length_cons,List.length_nil,Nat.zero_add];repeat (first | exact List.Sublist.refl _ | apply List.Sublist.cons_cons | apply List.Sublist.cons))
  ·have h69' : ¬ (so.toNat : Int) = 69:=oM
   by_cases hst : (ac fs i).stand = []
   ·skip
    repeat' (first | refine jX ?_ | (refine jo ?_;first | refine jF fun _=>?_ | refine am F ?_ | (refine jV (bq F F aS ?_) ?_;focus omega) | refine jV (ai F) ?_ | refine jV (ah F F oM) ?_ | refine jL fun _=>?_ | refine jC F F F ?_ | refine br F F F F F F F F F oM fun _ _=>?_) | (refine ae F (by refine decide_eq_true ?_;first | assumption | omega) ?_) | (refine af F ?_ ?_;(focus ((simp [*];done);done))) | (refine al (aw (id:=6) _ (fun _ h=>h) ak ?_);refine jT 6 [0,4] (aa 8 17) ?_;(refine jG (aa 8 19) 1 F (aD F F F) ?_);(refine jG (aa 8 51) 5 F (aD F F F) ?_);refine jA 2 F ?_;(refine ad F F F (fh oM) F ?_);refine jS (aa 8 55) ?_;refine jW 0 [3,6,7] (aa 8 255) ?_;refine jQ ?_))
    rename_i y1 yc
    rw [show aj bV xs ++ [S (a7 (ac fs i).tag ++ [58] ++ (ac fs i).name ++ [58] ++ (ac fs i).kind)] = aj bV (xs ++ [a7 (ac fs i).tag ++ [58] ++ (ac fs i).name ++ [58] ++ (ac fs i).kind]) from (cj bV xs _).symm]
    refine Nx.re (d:=4) (v':=I (i + 1 : Nat)) F (congrArg (Value.int .i64) oM) ?_
    exact aW (xs ++ [a7 (ac fs i).tag ++ [58] ++ (ac fs i).name ++ [58] ++ (ac fs i).kind],some ⟨y1,0,none⟩,yc,i + 1) ⟨⟨by dsimp only;omega,by dsimp only;simp [hq1]⟩,fun x hx=>by
     rcases List.mem_append.1 hx with hx | hx
     ·exact hq2 x hx
     ·simp only [List.mem_singleton] at hx;subst hx;simp only [List.length_append,List.length_cons,List.length_nil];omega⟩ (by dsimp only;omega) (by dsimp only;simp only [List.length_append,List.length_cons,List.length_nil,Nat.zero_add];repeat (first | exact trivial | refine ⟨F,?_⟩)) F (by dsimp only;simp only [List.length_append,List.length_cons,List.length_nil,Nat.zero_add];repeat (first | exact List.Sublist.refl _ | apply List.Sublist.cons_cons | apply List.Sublist.cons))
   ·skip
    repeat' (first | refine jX ?_ | (refine jo ?_;first | refine jF fun _=>?_ | refine am F ?_ | (refine jV (bq F F aS ?_) ?_;focus omega) | refine jV (ai F) ?_ | refine jV (ah F F oM) ?_ | refine jL fun _=>?_ | refine jC F F F ?_ | refine br F F F F F F F F F oM fun _ _=>?_) | (refine ae F (by refine decide_eq_true ?_;first | assumption | omega) ?_) | (refine al (aw (id:=6) _ (fun _ h=>h) ak ?_);refine jT 6 [0,4] (aa 8 17) ?_;(refine jG (aa 8 19) 1 F (aD F F F) ?_);(refine jG (aa 8 51) 5 F (aD F F F) ?_);refine jA 2 F ?_;(refine ad F F F (fh oM) F ?_);refine jS (aa 8 55) ?_;refine jW 0 [3,6,7] (aa 8 255) ?_;refine jQ ?_))
    rename_i y1 yc
    rw [show aj bV xs ++ [S (a7 (ac fs i).tag ++ [58] ++ (ac fs i).name ++ [58] ++ (ac fs i).kind ++ [61] ++ (ac fs i).stand)] = aj bV (xs ++ [a7 (ac fs i).tag ++ [58] ++ (ac fs i).name ++ [58] ++ (ac fs i).kind ++ [61] ++ (ac fs i).stand]) from (cj bV xs _).symm]
    refine Nx.re (d:=4) (v':=I (i + 1 : Nat)) F (congrArg (Value.int .i64) oM) ?_
    exact aW (xs ++ [a7 (ac fs i).tag ++ [58] ++ (ac fs i).name ++ [58] ++ (ac fs i).kind ++ [61] ++ (ac fs i).stand],some ⟨y1,0,none⟩,yc,i + 1) ⟨⟨by dsimp only;omega,by dsimp only;simp [hq1]⟩,fun x hx=>by
     rcases List.mem_append.1 hx with hx | hx
     ·exact hq2 x hx
     ·simp only [List.mem_singleton] at hx;subst hx;simp only [List.length_append,List.length_cons,List.length_nil];omega⟩ (by dsimp only;omega) (by dsimp only;simp only [List.length_append,List.length_cons,List.length_nil,Nat.zero_add];repeat (first | exact trivial | refine ⟨F,?_⟩)) F (by dsimp only;simp only [List.length_append,List.length_cons,List.length_nil,Nat.zero_add];repeat (first | exact List.Sublist.refl _ | apply List.Sublist.cons_cons | apply List.Sublist.cons))
 ·have hle:=oe hq2
  refine Nx.sealS (v:=.slice p xs.length cp) fun G2 hG2 hsl=>?_
  have cx_l7j:=sV hsl oM
  clear hs hf
  repeat' (first | refine jR ?_ | (refine jo ?_;first | refine am F ?_ | refine jV (ai F) ?_) | refine af F (aF oM) ?_)
  (refine al (aw (id:=12) [.blk x1 (.cells (List.toArray [U8 (so.toNat : Nat),S nm,.slice a fs.length c]) uT (0,0))] (by intro y hy;simp only [List.mem_cons,List.not_mem_nil,or_false] at hy ⊢;simp [hy]) ak ?_);refine jT 10 [0,4,8] (aa 13 273) ?_;(refine jG (aa 13 275) 1 F (aD F F F) ?_);(refine jG (aa 13 307) 5 F (aD F F F) ?_);refine bY [2,9] kR dC ⟨?_,?_,trivial⟩;(focus (refine a5 F F ?_;(refine jF fun _=>?_);refine jS (aa 13 311) ?_;refine bY [3,9] kR dC ⟨?_,?_,trivial⟩;(focus (refine a5 F F ?_;((refine jV (cZ F F (by (repeat (first | exact BL.nil | apply BL.cons));done)) ?_));refine jS (aa 13 319) ?_;refine jW 4 [6,7] (aa 13 511) ?_;refine jA 9 F ?_;(refine dQ F F F cx_l7j F ?_;rintro _ ⟨jx,rfl,hjx⟩);refine jS (aa 13 1023) ?_;refine jW 0 [10,11,12] (aa 13 8191) ?_;refine jQ ?_));rotate_left 1;(focus (refine a5 F F ?_;(refine dQ F F F cx_l7j F ?_;rintro _ ⟨jx,rfl,hjx⟩);refine jS (aa 13 823) ?_;refine jA 3 F ?_;((refine jV (cZ F F (by (repeat (first | exact BL.nil | apply BL.cons));done)) ?_));refine jS (aa 13 831) ?_;refine jW 0 [6,7,10,11,12] (aa 13 8191) ?_;refine jQ ?_));rotate_left 1));rotate_left 2;(focus (refine a5 F F ?_;(refine dQ F F F cx_l7j F ?_;rintro _ ⟨jx,rfl,hjx⟩);refine jS (aa 13 819) ?_;refine jA 2 F ?_;(refine jF fun _=>?_);refine jS (aa 13 823) ?_;refine jA 3 F ?_;((refine jV (cZ F F (by (repeat (first | exact BL.nil | apply BL.cons));done)) ?_));refine jS (aa 13 831) ?_;refine jW 0 [6,7,10,11,12] (aa 13 8191) ?_;refine jQ ?_));rotate_left 1)
  all_goals repeat' (refine jR ?_)
  all_goals refine Nx.base hok hB ?_
  all_goals refine jY (vs:=[_]) ?_
  all_goals exact ⟨_,F,by simp only [List.length_append,List.length_cons,List.length_nil];omega⟩
theorem m4 {so : Nat} {nm : ye} {a : Option Addr} {c : Nat} {fs : List Fld} (hs : bh G (.slice a fs.length c) 4 fs.length (aj b6 fs)) (hf : ∀ f ∈ fs,jq f) (hl : fs.length ≤ 30) (hn : nm.length ≤ 100) (hso : so ≤ 255) :
  aI yd 84 [Ag [U8 so,S nm,.slice a fs.length c]] G (fun r=>∃ x,r = S x ∧ x.length ≤ 40000):=by
 have e : so = (UInt8.ofNat so).toNat:=by rw [UInt8.toNat_ofNat'];omega
 rw [e]
 exact sS hs hf hl hn
def qY (u : Value) (vs : List cx) (k : ye) (deep cp : Int) (ct : Nat) : Prop:=∀ (G : Gh) (r : Nat) (code : Value) (p : Int) (l : ye),SchR G u vs → bh G code 1 l.length (bD l) → 0 ≤ p ∧ p + cp ≤ 600000000000 →
 ec yd 63 [Pt r 0,u,S k,I deep] G [dB r code p cN] (fun v G' L'=>∃ w b q,v = Pt b 0 ∧ RepR G' (aL vs) w k b ∧ w.tot ≤ ct ∧ 1 ≤ w.out.length ∧ L' = [dB r code q cN] ∧ p ≤ q ∧ q ≤ p + cp)
theorem qY.le {u : Value} {vs : List cx} {k : ye} {deep cp cp' : Int} {ct ct' : Nat} (h : qY u vs k deep cp ct) (h1 : cp ≤ cp') (h2 : ct ≤ ct') : qY u vs k deep cp' ct':=fun G r code p l h3 h4 h5 =>
 (h G r code p l h3 h4 ⟨h5.1,oM⟩).mono fun _ _ _ ⟨h6,w,b,q,h7,h8,h9,h10,h11,h12,h13⟩=>⟨h6,w,b,q,h7,h8,oM,h10,h11,h12,oM⟩
variable {P : Program} {n : Nat} {D : List Deferred} {E : a8} {B : Base} {G : Gh} {Q : Exit → Act → World → Prop} {K : Act → World → Prop}
theorem hJ {ops : Array Oper} {G0 : Gh} {L0 Lr : List Own} {y : Own} {fuel : Nat} {listed listed' : Array Bool} (hG : Gh.le G0 G) (hL : L0.Sublist Lr) (hl : (listed == listed') = true)
  (h : Nx n D E B G (y :: Lr) (xA P ops Q (bB B G (y :: L0)) fuel listed')) : Nx n D E B G (y :: Lr) (xK P ops Q (bB B G0 L0) fuel listed):=Nx.mk fun a w hs hw=>by
 have h1:=h.go a w hs hw
 unfold xA at h1
 unfold xK
 refine ⟨bB.of hw hG (fun _ h=>?_),f8 (S:=bB B G0 L0) (S':=bB B G (y :: L0)) (fun w' hw'=>?_) _ _ _ _ (by rw [eq_of_beq hl];exact h1)⟩
 ·exact List.mem_cons_of_mem _ (hL.subset h)
 ·obtain ⟨G',L',h1,h2,h3⟩:=hw'
  exact ⟨G',L',hG.trans h1,fun x hx=>h2 x (List.mem_cons_of_mem _ hx),h3⟩
abbrev tm : TypeId:=112
abbrev tl : TypeId:=112
abbrev lS : TypeId:=110
theorem dG {gs : List Fld} {a : Int} {b c d : ye} : aj b6 gs ++ [I a,S b,S c,S d] = aj b6 (gs ++ [⟨a,b,c,d⟩]):=(cj b6 gs ⟨a,b,c,d⟩).symm
theorem cH {gs : List Fld} {f : Fld} : gs.length + 1 = (gs ++ [f]).length:=by simp
theorem eL {gs : List Fld} {f : Fld} (h : ∀ x ∈ gs,jq x) (hf : jq f) : ∀ x ∈ gs ++ [f],jq x:=by
 intro x hx
 rcases List.mem_append.1 hx with hx | hx
 ·exact h x hx
 ·rw [List.mem_singleton.1 hx];exact hf
theorem vK {k : Nat} {f : Fld} (h : FldW k f) : jq f:=by
 have h1:=h.tag
 have h2:=h.name
 unfold bH at h2
 simp only [Bool.and_eq_true,decide_eq_true_eq] at h2
 refine ⟨oM,oM,?_,?_⟩
 ·by_cases h3 : k = 69
  ·rw [(h.enm h3).1];simp
  ·have:=(cT (h.kind h3)).2;omega
 ·by_cases h3 : f.stand = []
  ·rw [h3];simp
  ·have h4:=(h.stand h3).2
   unfold bn at h4
   split at h4
   ·rw [Bool.and_eq_true] at h4
    obtain ⟨n,hn⟩:=Option.isSome_iff_exists.1 h4.1
    have:=(dO hn).2.2
    omega
   ·split at h4
    ·rw [Bool.and_eq_true] at h4
     have h5:=h4.1
     unfold db at h5
     have h6:=of_decide_eq_true h5
     have:=h6.1.2
     omega
    ·split at h4
     ·rw [of_decide_eq_true h4];decide
     ·cases h4
set_option maxHeartbeats 8000000 in
theorem qQ {r : Nat} {code : Value} {p : Int} {l : ye} (hp : 0 ≤ p ∧ p ≤ 400000000000) (hs : bh G code 1 l.length (bD l)) :
  ec yd 49 [Pt r 0] G [dB r code p cN] (fun v G' L'=>∃ a b c d q,v = Tu [S a,S b,S c,S d] ∧ (a.length ≤ 400000 ∧ b.length ≤ 400 ∧ c.length ≤ 20000 ∧ d.length ≤ 400) ∧ L' = [dB r code q cN] ∧ p ≤ q ∧ q ≤ p + 10000):=by
 refine bS [(0,_)] Tryz.func49 kR Tryz.ntmps49 F F tU fun B hB hW=>?_
 repeat' (first | refine jR ?_ | (refine jo ?_;first | refine aV F ?_ | refine aG F ?_ | refine jV (ai F) ?_ | (refine an F F F (la ?_ (by (repeat (assumption));done)) rfl ?_;(focus omega);rintro _ _ ⟨sc,q1,rfl,hsc,rfl,hq1,hq2⟩;dsimp only [zA,fA]) | (refine an F F F (ff ?_ (by (repeat (assumption));done) ?_) rfl ?_;(focus omega);(focus omega);rintro _ _ ⟨kd,q1,rfl,hkd,rfl,hq1,hq2⟩;dsimp only [zA,fA]) | (refine aJ F F F (kB oM) F ?_;rintro _ G hle ⟨u,vs,rfl,hsch,hvl,hvs⟩;(try have hs:=hs.mono hle);(try obtain ⟨_,_,rfl⟩:=hsch.sl.sl)) | (refine an F F F (cl ?_ (by (repeat (assumption));done)) rfl ?_;(focus omega);rintro _ _ ⟨k,rfl,rfl,hk0,hk1⟩;dsimp only [zA,fA])) | refine iS F F (fun _=>?_) (fun _=>?_) | refine ae F F ?_ | refine cz F (fun _=>?_) (fun _=>?_))
 ·refine aM (vs:=[_,_,_,_]) F ⟨F,F,F,F,trivial⟩ F bd ⟨hle,_,_,_,_,_,F,⟨oM,oM,oM,oM⟩,F,oM,oM⟩
 ·refine aM (vs:=[_,_,_,_]) F ⟨F,F,F,F,trivial⟩ F bd ⟨hle,_,_,_,_,_,F,⟨oM,oM,oM,oM⟩,F,oM,oM⟩
 rename_i Ga hs0 q0 hqa hqb ua uc hsome _
 have hts : ∃ ts,ar sc = some ts:=by
  cases hx : ar sc with
  | none=>rw [hx] at hsome;cases hsome
  | some ts=>exact ⟨ts,F⟩
 obtain ⟨ts,hts⟩:=hts
 have hT1:=hvs ts hts
 have hw:=cS hts
 subst hT1
 clear hvs hsome
 refine aT (ι:=ye × Nat × Int × Gh) (fun j=>(Gh.le G j.2.2.2 ∧ j.2.1 ≤ vs.length) ∧ j.1.length ≤ 40000 * j.2.1 ∧ (q1 + 1 ≤ j.2.2.1 ∧ j.2.2.1 ≤ q1 + 1 + 200 * (j.2.1 : Int))) (fun j=>[(0,Pt r 0),(6,S sc),(7,S kd),(10,S j.1),(39,.slice ua vs.length uc),(40,I (vs.length : Nat)),(41,I (j.2.1 : Nat))]) (fun j=>j.2.2.2) (fun j=>[dB r code j.2.2.1 cN]) (fun j=>vs.length - j.2.1) ([],0,q1 + 1,G) ?_ tU F bd (fun j Hj=>?_)
 ·exact ⟨⟨Gh.le.refl _,Nat.zero_le _⟩,by simp,by dsimp only;omega,by dsimp only;omega⟩
 obtain ⟨out,i,q,Gq⟩:=j
 dsimp only at Hj ⊢
 obtain ⟨⟨hgq,hi0⟩,hol,hqc,hqd⟩:=Hj
 by_cases hi : i < vs.length
 case neg =>
  repeat' (first | refine jR ?_ | refine af F (aF oM) ?_)
  all_goals refine aM (vs:=[_,_,_,_]) F ⟨F,F,F,F,trivial⟩ F bd ⟨hle.trans hgq,_,_,_,_,_,F,⟨oM,oM,oM,oM⟩,F,oM,oM⟩
 have hxm : ac vs i ∈ vs:=a6 hi
 obtain ⟨bv,ov,cv,e,hseg⟩:=hsch.sl.expl oM
 simp only [Value.slice.injEq] at e
 obtain ⟨rfl,-,rfl⟩:=e
 have hseg:=hseg.mono hgq
 have hfl:=(hsch.fl _ hxm).mono hgq
 have hTW:=hw.ty _ (List.mem_map_of_mem hxm)
 have hf8:=hTW.len
 rcases hnx : ac vs i with ⟨⟨fa,fc⟩,⟨so,nm,fs⟩⟩
 rw [hnx] at hfl hTW hf8 hxm
 unfold gz at hfl
 dsimp only at hfl hf8
 have hso : so ≤ 255:=by have:=hTW.sort;dsimp only at this;rcases this with h | h | h <;> omega
 have hnm : nm.length ≤ 100:=by
  have h2:=hTW.name
  unfold bH at h2
  simp only [Bool.and_eq_true,decide_eq_true_eq] at h2
  omega
 have hs1:=hs.mono hgq
 clear hs hs0
 have hs:=hs1
 clear hs1
 repeat' (first | refine jR ?_ | (refine jo ?_;first | refine jV (ai F) ?_ | refine jV (ah F F oM) ?_ | refine am F ?_ | (refine jV (vC F F aS ?_ aS) ?_;focus omega) | refine jL fun _=>?_ | refine jC F F F ?_ | refine jV (aq F F) ?_) | refine ae F (aC oM) ?_)
 rename_i x12 x13
 dsimp only [gz,gP]
 refine Nx.addNil tm 4 (Nx.perm (List.perm_append_comm (l₁:=[_,_,_]) (l₂:=[_])) ?_)
 dsimp only [zA,fA]
 refine aT (ι:=List Fld × Option Addr × Nat × Nat × Int × Int) (fun y=>(y.2.2.2.1 ≤ fs.length ∧ y.1.length ≤ 2 * y.2.2.2.1) ∧ (∀ f ∈ y.1,jq f) ∧ (0 ≤ y.2.2.2.2.1 ∧ y.2.2.2.2.1 ≤ 200) ∧ (q ≤ y.2.2.2.2.2 ∧ y.2.2.2.2.2 ≤ q + 20 * (y.2.2.2.1 : Int))) (fun y=>[(0,Pt r 0),(6,S sc),(7,S kd),(10,S out),(39,.slice (some ⟨bv,ov,none⟩) vs.length uc),(40,I (vs.length : Nat)),(41,I (i : Nat)),(12,Pt x12 0),(13,Pt x13 0),(14,I y.2.2.2.2.1),(51,.slice fa fs.length fc),(52,I (fs.length : Nat)),(53,I (y.2.2.2.1 : Nat))]) (fun y=>Gq) (fun y=>[dB r code y.2.2.2.2.2 cN,.acc (.slice y.2.1 y.1.length y.2.2.1) tm 4 y.1.length (aj b6 y.1),.blk x13 (.cells (List.toArray [U8 so,S nm,.slice y.2.1 y.1.length y.2.2.1]) lS (0,0)),.blk x12 (.cells (List.toArray [U8 so,S nm,.slice fa fs.length fc]) lS (0,0))]) (fun y=>fs.length - y.2.2.2.1) ([],none,0,0,0,q) ?_ tU F bd (fun y Hy=>?_)
 ·exact ⟨⟨Nat.zero_le _,by simp⟩,fun f hf=>(by cases hf),⟨Int.le_refl 0,by show (0 : Int) ≤ 200;omega⟩,by dsimp only;omega,by dsimp only;omega⟩
 obtain ⟨gs,ga,gc,jj,last,qq⟩:=y
 dsimp only at Hy ⊢
 obtain ⟨⟨hj0,hgl⟩,hgb,⟨hla0,hla1⟩,hqe,hqf⟩:=Hy
 by_cases hj : jj < fs.length
 case neg =>
  repeat' (first | refine jR ?_ | (refine jo ?_;first | refine aV F ?_ | refine aG F ?_ | refine aZ F ?_ | (refine an F F F (cl ?_ (by (repeat (assumption));done)) rfl ?_;(focus omega);rintro _ _ ⟨k,rfl,rfl,hk0,hk1⟩;dsimp only [zA,fA])) | refine dm F F (fun _=>?_) (fun _=>?_) | (refine af F (by first | rfl | (refine decide_eq_false ?_;(omega))) ?_) | refine cz F (fun _=>?_) (fun _=>?_))
  ·(refine al (aw (id:=25) [.blk x12 (.cells (List.toArray [U8 so,S nm,.slice fa fs.length fc]) lS (0,0))] (by intro y hy;simp only [List.mem_cons,List.not_mem_nil,or_false] at hy ⊢;simp [hy]) ak ?_);refine jW 11 [0,2,3,4,7] (aa 16 157) ?_;(refine jG (aa 16 413) 8 F (aD F F F) ?_);refine jW 9 [9] (aa 16 925) ?_;refine bY [1,5] kR dC ⟨?_,?_,trivial⟩;(focus (refine a5 F F ?_;(refine am F ?_);refine jK (aa 16 927) ?_;refine jA 5 F ?_;((refine an F F F (cl ?_ (by (repeat (assumption));done)) rfl ?_;(focus omega);rintro _ _ ⟨k,rfl,rfl,hk0,hk1⟩;dsimp only [zA,fA]));refine jK (aa 16 959) ?_;refine jW 6 [6] (aa 16 1023) ?_;refine jA 10 F ?_;(refine ad F F F dI F ?_);refine jK (aa 16 2047) ?_;(refine jG (aa 16 4095) 11 F (aq F F) ?_);refine jA 12 F ?_;(refine jF fun _=>?_);refine jK (aa 16 8191) ?_;refine jA 13 F ?_;((refine br F F F F F F F F F ?_ fun _ _=>?_;focus omega));refine jK (aa 16 16383) ?_;refine jW 1 [14] (aa 16 32767) ?_;refine jA 15 F ?_;(refine jD F F F ?_);refine jK (aa 16 65535) ?_;refine jQ ?_));rotate_left 1;(focus (refine a5 F F ?_;((refine an F F F (cl ?_ (by (repeat (assumption));done)) rfl ?_;(focus omega);rintro _ _ ⟨k,rfl,rfl,hk0,hk1⟩;dsimp only [zA,fA]));refine jK (aa 16 957) ?_;refine jW 7 [6] (aa 16 1021) ?_;refine bY [1,10] kR dC ⟨?_,?_,trivial⟩;(focus (refine a5 F F ?_;(refine am F ?_);refine jK (aa 16 1023) ?_;refine jA 10 F ?_;(refine ad F F F dI F ?_);refine jK (aa 16 2047) ?_;(refine jG (aa 16 4095) 11 F (aq F F) ?_);refine jA 12 F ?_;(refine jF fun _=>?_);refine jK (aa 16 8191) ?_;refine jA 13 F ?_;((refine br F F F F F F F F F ?_ fun _ _=>?_;focus omega));refine jK (aa 16 16383) ?_;refine jW 1 [14] (aa 16 32767) ?_;refine jA 15 F ?_;(refine jD F F F ?_);refine jK (aa 16 65535) ?_;refine jQ ?_));rotate_left 1;(focus (refine a5 F F ?_;(refine ad F F F dI F ?_);refine jK (aa 16 2045) ?_;(refine jG (aa 16 4093) 11 F (aq F F) ?_);refine bY [1,12] kR dC ⟨?_,?_,trivial⟩;(focus (refine a5 F F ?_;(refine am F ?_);refine jK (aa 16 4095) ?_;refine jA 12 F ?_;(refine jF fun _=>?_);refine jK (aa 16 8191) ?_;refine jA 13 F ?_;((refine br F F F F F F F F F ?_ fun _ _=>?_;focus omega));refine jK (aa 16 16383) ?_;refine jW 1 [14] (aa 16 32767) ?_;refine jA 15 F ?_;(refine jD F F F ?_);refine jK (aa 16 65535) ?_;refine jQ ?_));rotate_left 1;(focus (refine a5 F F ?_;(refine jF fun _=>?_);refine jK (aa 16 8189) ?_;refine jA 1 F ?_;(refine am F ?_);refine jK (aa 16 8191) ?_;refine jA 13 F ?_;((refine br F F F F F F F F F ?_ fun _ _=>?_;focus omega));refine jK (aa 16 16383) ?_;refine jW 1 [14] (aa 16 32767) ?_;refine jA 15 F ?_;(refine jD F F F ?_);refine jK (aa 16 65535) ?_;refine jQ ?_));rotate_left 1));rotate_left 2));rotate_left 3)
   all_goals repeat' (first | refine jR ?_ | (refine jo ?_;refine aZ F ?_))
   all_goals
    rename_i k2 _ _ _ hk2a hk2b _ y1 yc
    rw [show aj b6 gs ++ [I (last + 1 + k),S [122,122],S (if decide ((so : Int) = 69) = true then [] else [116]),S []] = aj b6 (gs ++ [⟨last + 1 + k,[122,122],if decide ((so : Int) = 69) = true then [] else [116],[]⟩]) from dG]
    refine Nx.sealS (v:=.slice (some ⟨y1,0,none⟩) (gs.length + 1) yc) fun G2 hG2 hsl=>?_
    have hln : (gs ++ [(⟨last + 1 + k,[122,122],if decide ((so : Int) = 69) = true then [] else [116],[]⟩ : Fld)]).length = gs.length + 1:=by simp
    rw [← hln] at hsl
    have hgb2 : ∀ f ∈ gs ++ [(⟨last + 1 + k,[122,122],if decide ((so : Int) = 69) = true then [] else [116],[]⟩ : Fld)],jq f:=fun f hf=>by
     rcases List.mem_append.1 hf with hf | hf
     ·exact hgb f hf
     ·simp only [List.mem_singleton] at hf
      subst hf
      exact ⟨by dsimp only;omega,by dsimp only;decide,by dsimp only;split <;> decide,by dsimp only;decide⟩
    have cx_tyo:=m4 hsl hgb2 oM hnm hso
    rw [hln] at cx_tyo
    repeat' (first | refine jM ?_ | (refine jo ?_;(refine dQ F F F cx_tyo F ?_;rintro _ ⟨ox,rfl,hox⟩)))
    refine Nx.re (d:=41) (v':=I (i + 1 : Nat)) F (congrArg (Value.int .i64) oM) ?_
    exact aW (out ++ ox,i + 1,qq + 1 + 1,G2) ⟨⟨hgq.trans hG2,by dsimp only;omega⟩,by dsimp only;simp only [List.length_append];omega,by dsimp only;omega,by dsimp only;omega⟩ (by dsimp only;omega) tU rfl sB
  ·refine Nx.sealS (v:=.slice ga gs.length gc) fun G2 hG2 hsl=>?_
   have cx_tyo:=m4 hsl hgb oM hnm hso
   repeat' (first | refine jM ?_ | (refine jo ?_;(refine dQ F F F cx_tyo F ?_;rintro _ ⟨ox,rfl,hox⟩)))
   refine Nx.re (d:=41) (v':=I (i + 1 : Nat)) F (congrArg (Value.int .i64) oM) ?_
   exact aW (out ++ ox,i + 1,qq + 1,G2) ⟨⟨hgq.trans hG2,by dsimp only;omega⟩,by dsimp only;simp only [List.length_append];omega,by dsimp only;omega,by dsimp only;omega⟩ (by dsimp only;omega) tU rfl sB
  ·refine Nx.sealS (v:=.slice ga gs.length gc) fun G2 hG2 hsl=>?_
   have cx_tyo:=m4 hsl hgb oM hnm hso
   repeat' (first | refine jM ?_ | (refine jo ?_;(refine dQ F F F cx_tyo F ?_;rintro _ ⟨ox,rfl,hox⟩)))
   refine Nx.re (d:=41) (v':=I (i + 1 : Nat)) F (congrArg (Value.int .i64) oM) ?_
   exact aW (out ++ ox,i + 1,qq + 1,G2) ⟨⟨hgq.trans hG2,by dsimp only;omega⟩,by dsimp only;simp only [List.length_append];omega,by dsimp only;omega,by dsimp only;omega⟩ (by dsimp only;omega) tU rfl sB
 have hfm : ac fs jj ∈ fs:=a6 hj
 have hFW:=hTW.fld _ hfm
 obtain ⟨bw,ow,cw,e,hsw⟩:=hfl.expl oM
 simp only [Value.slice.injEq] at e
 obtain ⟨rfl,-,rfl⟩:=e
 have hFB : jq (ac fs jj):=vK hFW
 obtain ⟨⟨ht0,ht1⟩,hb1,hb2,hb3⟩:=hFB
 have htg : 1 ≤ (ac fs jj).tag ∧ (ac fs jj).tag ≤ 200:=hFW.tag
 by_cases h82 : so = 82
 ·repeat' (first | refine jM ?_ | (refine jo ?_;first | refine aV F ?_ | refine aG F ?_ | refine jV (ah F F oM) ?_ | refine am F ?_ | (refine jV (bq F F aS ?_) ?_;focus omega) | refine aZ F ?_ | refine jL fun _=>?_ | refine jD F F F ?_ | refine jC F F F ?_ | refine jF fun _=>?_ | refine br F F F F F F F F F oM fun _ _=>?_ | (refine an F F F (cl ?_ (by (repeat (assumption));done)) rfl ?_;(focus omega);rintro _ _ ⟨k,rfl,rfl,hk0,hk1⟩;dsimp only [zA,fA]) | (refine an F F F (fg ?_ (by (repeat (assumption));done)) rfl ?_;(focus omega);rintro _ _ ⟨kd,q1,rfl,hkd,rfl,hq1,hq2⟩;dsimp only [zA,fA])) | refine aU F F (aC oM) ?_ | refine dm F F (fun _=>?_) (fun _=>?_) | refine ae F (aC oM) ?_ | refine af F F ?_ | refine cz F (fun _=>?_) (fun _=>?_))
  ·refine Nx.re (d:=53) (v':=I (jj + 1 : Nat)) F (congrArg (Value.int .i64) oM) ?_
   exact aW (gs,ga,gc,jj + 1,last,qq + 1) ⟨⟨by dsimp only;omega,by dsimp only;omega⟩,hgb,⟨hla0,hla1⟩,by dsimp only;omega,by dsimp only;omega⟩ (by dsimp only;omega) tU rfl sB
  ·rename_i x16 k4 hk4a hk4b hne h0 hlt
   (refine al (aw (id:=17) [.blk x16 (.cells (List.toArray [I (ac fs jj).tag,S (ac fs jj).name,S (ac fs jj).kind,S (ac fs jj).stand]) tl (0,0)),.blk x12 (.cells (List.toArray [U8 so,S nm,.slice (some ⟨bw,ow,none⟩) fs.length fc]) lS (0,0))] (by intro y hy;simp only [List.mem_cons,List.not_mem_nil,or_false] at hy ⊢;rcases hy with hy | hy <;> simp [hy]) ak ?_);refine jW 13 [0,2,5,6,7,10] (aa 19 1253) ?_;(refine jG (aa 19 1261) 3 F (aD F F F) ?_);refine jW 11 [4] (aa 19 1277) ?_;(refine jG (aa 19 3325) 11 F (aD F F F) ?_);refine jW 9 [12] (aa 19 7421) ?_;refine bY [1,8,13] kR dC ⟨?_,?_,?_,trivial⟩;(focus (refine a5 F F ?_;(refine am F ?_);refine jK (aa 19 7423) ?_;refine bY [8,13] kR dC ⟨?_,?_,trivial⟩;(focus (refine a5 F F ?_;(refine jF fun _=>?_);refine hJ k9 sB (listed':=(aa 19 7679)) kR ?_;((refine jG (aa 19 8191) 9 F (cZ F F (by (repeat (first | exact BL.nil | apply BL.cons));done)) ?_));refine jA 13 F ?_;(refine ad F F F dI F ?_);refine jK (aa 19 16383) ?_;(refine jG (aa 19 32767) 14 F (aq F F) ?_);refine jA 15 F ?_;(refine jF fun _=>?_);refine jK (aa 19 65535) ?_;refine jA 16 F ?_;((refine br F F F F F F F F F ?_ fun _ _=>?_;focus omega));refine jK (aa 19 131071) ?_;refine jW 1 [17] (aa 19 262143) ?_;refine jA 18 F ?_;(refine jD F F F ?_);refine jK (aa 19 524287) ?_;refine jQ ?_));rotate_left 1;(focus (refine a5 F F ?_;(refine ad F F F dI F ?_);refine jK (aa 19 15615) ?_;refine jA 8 F ?_;(refine jF fun _=>?_);refine hJ k9 sB (listed':=(aa 19 15871)) kR ?_;((refine jG (aa 19 16383) 9 F (cZ F F (by (repeat (first | exact BL.nil | apply BL.cons));done)) ?_));(refine jG (aa 19 32767) 14 F (aq F F) ?_);refine jA 15 F ?_;(refine jF fun _=>?_);refine jK (aa 19 65535) ?_;refine jA 16 F ?_;((refine br F F F F F F F F F ?_ fun _ _=>?_;focus omega));refine jK (aa 19 131071) ?_;refine jW 1 [17] (aa 19 262143) ?_;refine jA 18 F ?_;(refine jD F F F ?_);refine jK (aa 19 524287) ?_;refine jQ ?_));rotate_left 1));rotate_left 2;(focus (refine a5 F F ?_;(refine jF fun _=>?_);refine hJ k9 sB (listed':=(aa 19 7677)) kR ?_;((refine jG (aa 19 8189) 9 F (cZ F F (by (repeat (first | exact BL.nil | apply BL.cons));done)) ?_));refine bY [1,13] kR dC ⟨?_,?_,trivial⟩;(focus (refine a5 F F ?_;(refine am F ?_);refine jK (aa 19 8191) ?_;refine jA 13 F ?_;(refine ad F F F dI F ?_);refine jK (aa 19 16383) ?_;(refine jG (aa 19 32767) 14 F (aq F F) ?_);refine jA 15 F ?_;(refine jF fun _=>?_);refine jK (aa 19 65535) ?_;refine jA 16 F ?_;((refine br F F F F F F F F F ?_ fun _ _=>?_;focus omega));refine jK (aa 19 131071) ?_;refine jW 1 [17] (aa 19 262143) ?_;refine jA 18 F ?_;(refine jD F F F ?_);refine jK (aa 19 524287) ?_;refine jQ ?_));rotate_left 1;(focus (refine a5 F F ?_;(refine ad F F F dI F ?_);refine jK (aa 19 16381) ?_;(refine jG (aa 19 32765) 14 F (aq F F) ?_);refine bY [1,15] kR dC ⟨?_,?_,trivial⟩;(focus (refine a5 F F ?_;(refine am F ?_);refine jK (aa 19 32767) ?_;refine jA 15 F ?_;(refine jF fun _=>?_);refine jK (aa 19 65535) ?_;refine jA 16 F ?_;((refine br F F F F F F F F F ?_ fun _ _=>?_;focus omega));refine jK (aa 19 131071) ?_;refine jW 1 [17] (aa 19 262143) ?_;refine jA 18 F ?_;(refine jD F F F ?_);refine jK (aa 19 524287) ?_;refine jQ ?_));rotate_left 1;(focus (refine a5 F F ?_;(refine jF fun _=>?_);refine jK (aa 19 65533) ?_;refine jA 1 F ?_;(refine am F ?_);refine jK (aa 19 65535) ?_;refine jA 16 F ?_;((refine br F F F F F F F F F ?_ fun _ _=>?_;focus omega));refine jK (aa 19 131071) ?_;refine jW 1 [17] (aa 19 262143) ?_;refine jA 18 F ?_;(refine jD F F F ?_);refine jK (aa 19 524287) ?_;refine jQ ?_));rotate_left 1));rotate_left 2));rotate_left 3;(focus (refine a5 F F ?_;(refine ad F F F dI F ?_);refine jK (aa 19 15613) ?_;refine bY [1,8] kR dC ⟨?_,?_,trivial⟩;(focus (refine a5 F F ?_;(refine am F ?_);refine jK (aa 19 15615) ?_;refine jA 8 F ?_;(refine jF fun _=>?_);refine hJ k9 sB (listed':=(aa 19 15871)) kR ?_;((refine jG (aa 19 16383) 9 F (cZ F F (by (repeat (first | exact BL.nil | apply BL.cons));done)) ?_));(refine jG (aa 19 32767) 14 F (aq F F) ?_);refine jA 15 F ?_;(refine jF fun _=>?_);refine jK (aa 19 65535) ?_;refine jA 16 F ?_;((refine br F F F F F F F F F ?_ fun _ _=>?_;focus omega));refine jK (aa 19 131071) ?_;refine jW 1 [17] (aa 19 262143) ?_;refine jA 18 F ?_;(refine jD F F F ?_);refine jK (aa 19 524287) ?_;refine jQ ?_));rotate_left 1;(focus (refine a5 F F ?_;(refine jF fun _=>?_);refine hJ k9 sB (listed':=(aa 19 15869)) kR ?_;((refine jG (aa 19 16381) 9 F (cZ F F (by (repeat (first | exact BL.nil | apply BL.cons));done)) ?_));(refine jG (aa 19 32765) 14 F (aq F F) ?_);refine bY [1,15] kR dC ⟨?_,?_,trivial⟩;(focus (refine a5 F F ?_;(refine am F ?_);refine jK (aa 19 32767) ?_;refine jA 15 F ?_;(refine jF fun _=>?_);refine jK (aa 19 65535) ?_;refine jA 16 F ?_;((refine br F F F F F F F F F ?_ fun _ _=>?_;focus omega));refine jK (aa 19 131071) ?_;refine jW 1 [17] (aa 19 262143) ?_;refine jA 18 F ?_;(refine jD F F F ?_);refine jK (aa 19 524287) ?_;refine jQ ?_));rotate_left 1;(focus (refine a5 F F ?_;(refine jF fun _=>?_);refine jK (aa 19 65533) ?_;refine jA 1 F ?_;(refine am F ?_);refine jK (aa 19 65535) ?_;refine jA 16 F ?_;((refine br F F F F F F F F F ?_ fun _ _=>?_;focus omega));refine jK (aa 19 131071) ?_;refine jW 1 [17] (aa 19 262143) ?_;refine jA 18 F ?_;(refine jD F F F ?_);refine jK (aa 19 524287) ?_;refine jQ ?_));rotate_left 1));rotate_left 2));rotate_left 3)
   all_goals rename_i n1 n2 n3
   all_goals
    rw [show aj b6 gs ++ [I ((ac fs jj).tag - 1),S [u8 (101 + (jj : Int))],S (if decide ((so : Int) = 69) = true then [] else [110]),S []] = aj b6 (gs ++ [⟨(ac fs jj).tag - 1,[u8 (101 + (jj : Int))],if decide ((so : Int) = 69) = true then [] else [110],[]⟩]) from dG,cH (f:=⟨(ac fs jj).tag - 1,[u8 (101 + (jj : Int))],if decide ((so : Int) = 69) = true then [] else [110],[]⟩)]
    have hgb:=eL (f:=⟨(ac fs jj).tag - 1,[u8 (101 + (jj : Int))],if decide ((so : Int) = 69) = true then [] else [110],[]⟩) hgb ⟨by dsimp only;omega,by simp,by dsimp only;split <;> decide,by simp⟩
    have hgl : (gs ++ [(⟨(ac fs jj).tag - 1,[u8 (101 + (jj : Int))],if decide ((so : Int) = 69) = true then [] else [110],[]⟩ : Fld)]).length ≤ 2 * jj + 1:=by rw [← cH];omega
    generalize gs ++ [(⟨(ac fs jj).tag - 1,[u8 (101 + (jj : Int))],if decide ((so : Int) = 69) = true then [] else [110],[]⟩ : Fld)] = gs at *
    repeat' (first | refine jM ?_ | (refine jo ?_;first | refine aV F ?_ | refine aG F ?_ | refine am F ?_ | refine aZ F ?_ | refine jD F F F ?_ | refine jF fun _=>?_ | refine br F F F F F F F F F oM fun _ _=>?_ | (refine an F F F (cl ?_ (by (repeat (assumption));done)) rfl ?_;(focus omega);rintro _ _ ⟨k,rfl,rfl,hk0,hk1⟩;dsimp only [zA,fA]) | (refine an F F F (fg ?_ (by (repeat (assumption));done)) rfl ?_;(focus omega);rintro _ _ ⟨kd,q1,rfl,hkd,rfl,hq1,hq2⟩;dsimp only [zA,fA])) | refine dm F F (fun _=>?_) (fun _=>?_) | refine ae F (aC oM) ?_ | refine af F F ?_)
   all_goals (focus (rename_i y1 yc;refine Nx.re (d:=53) (v':=I (jj + 1 : Nat)) F (congrArg (Value.int .i64) oM) ?_;refine Nx.perm (List.perm_middle (l₁:=[_,_])) ?_;dsimp only [zA,fA];first | (rw [show aj b6 gs ++ [I (ac fs jj).tag,S (ac fs jj).name,S kd,.string ⟨#[]⟩] = aj b6 (gs ++ [⟨(ac fs jj).tag,(ac fs jj).name,kd,[]⟩]) from dG,cH (f:=⟨(ac fs jj).tag,(ac fs jj).name,kd,[]⟩)];refine aW (gs ++ [⟨(ac fs jj).tag,(ac fs jj).name,kd,[]⟩],some ⟨y1,0,none⟩,yc,jj + 1,(ac fs jj).tag,q1) ⟨⟨by dsimp only;omega,by dsimp only;rw [← cH];omega⟩,eL hgb ⟨by dsimp only;omega,hb1,by dsimp only;omega,by simp⟩,⟨by dsimp only;omega,by dsimp only;omega⟩,by dsimp only;omega,by dsimp only;omega⟩ (by dsimp only;omega) tU rfl ?_;(focus (repeat (first | exact List.Sublist.refl _ | apply List.Sublist.cons_cons | apply List.Sublist.cons)))) | (rw [show aj b6 gs ++ [I (ac fs jj).tag,S (ac fs jj).name,S (ac fs jj).kind,S (ac fs jj).stand] = aj b6 (gs ++ [ac fs jj]) from dG,cH (f:=ac fs jj)];refine aW (gs ++ [ac fs jj],some ⟨y1,0,none⟩,yc,jj + 1,(ac fs jj).tag,qq + 1 + 1 + 1) ⟨⟨by dsimp only;omega,by dsimp only;rw [← cH];omega⟩,eL hgb ⟨⟨ht0,ht1⟩,hb1,hb2,hb3⟩,⟨by dsimp only;omega,by dsimp only;omega⟩,by dsimp only;omega,by dsimp only;omega⟩ (by dsimp only;omega) tU rfl ?_;(focus (repeat (first | exact List.Sublist.refl _ | apply List.Sublist.cons_cons | apply List.Sublist.cons))));done))
  all_goals (focus (rename_i y1 yc;refine Nx.re (d:=53) (v':=I (jj + 1 : Nat)) F (congrArg (Value.int .i64) oM) ?_;refine Nx.perm (List.perm_middle (l₁:=[_,_])) ?_;dsimp only [zA,fA];first | (rw [show aj b6 gs ++ [I (ac fs jj).tag,S (ac fs jj).name,S kd,.string ⟨#[]⟩] = aj b6 (gs ++ [⟨(ac fs jj).tag,(ac fs jj).name,kd,[]⟩]) from dG,cH (f:=⟨(ac fs jj).tag,(ac fs jj).name,kd,[]⟩)];refine aW (gs ++ [⟨(ac fs jj).tag,(ac fs jj).name,kd,[]⟩],some ⟨y1,0,none⟩,yc,jj + 1,(ac fs jj).tag,q1) ⟨⟨by dsimp only;omega,by dsimp only;rw [← cH];omega⟩,eL hgb ⟨by dsimp only;omega,hb1,by dsimp only;omega,by simp⟩,⟨by dsimp only;omega,by dsimp only;omega⟩,by dsimp only;omega,by dsimp only;omega⟩ (by dsimp only;omega) tU rfl ?_;(focus (repeat (first | exact List.Sublist.refl _ | apply List.Sublist.cons_cons | apply List.Sublist.cons)))) | (rw [show aj b6 gs ++ [I (ac fs jj).tag,S (ac fs jj).name,S (ac fs jj).kind,S (ac fs jj).stand] = aj b6 (gs ++ [ac fs jj]) from dG,cH (f:=ac fs jj)];refine aW (gs ++ [ac fs jj],some ⟨y1,0,none⟩,yc,jj + 1,(ac fs jj).tag,qq + 1 + 1 + 1) ⟨⟨by dsimp only;omega,by dsimp only;rw [← cH];omega⟩,eL hgb ⟨⟨ht0,ht1⟩,hb1,hb2,hb3⟩,⟨by dsimp only;omega,by dsimp only;omega⟩,by dsimp only;omega,by dsimp only;omega⟩ (by dsimp only;omega) tU rfl ?_;(focus (repeat (first | exact List.Sublist.refl _ | apply List.Sublist.cons_cons | apply List.Sublist.cons))));done))
 ·repeat' (first | refine jM ?_ | (refine jo ?_;first | refine aV F ?_ | refine aG F ?_ | refine jV (ah F F oM) ?_ | refine am F ?_ | (refine jV (bq F F aS ?_) ?_;focus omega) | refine aZ F ?_ | refine jL fun _=>?_ | refine jD F F F ?_ | refine jC F F F ?_ | refine jF fun _=>?_ | refine br F F F F F F F F F oM fun _ _=>?_ | (refine an F F F (cl ?_ (by (repeat (assumption));done)) rfl ?_;(focus omega);rintro _ _ ⟨k,rfl,rfl,hk0,hk1⟩;dsimp only [zA,fA]) | (refine an F F F (fg ?_ (by (repeat (assumption));done)) rfl ?_;(focus omega);rintro _ _ ⟨kd,q1,rfl,hkd,rfl,hq1,hq2⟩;dsimp only [zA,fA])) | refine aE F F (aF oM) ?_ | refine dm F F (fun _=>?_) (fun _=>?_) | refine ae F (aC oM) ?_ | refine af F F ?_ | refine cz F (fun _=>?_) (fun _=>?_))
  ·rename_i x16 h0 hlt
   (refine al (aw (id:=17) [.blk x16 (.cells (List.toArray [I (ac fs jj).tag,S (ac fs jj).name,S (ac fs jj).kind,S (ac fs jj).stand]) tl (0,0)),.blk x12 (.cells (List.toArray [U8 so,S nm,.slice (some ⟨bw,ow,none⟩) fs.length fc]) lS (0,0))] (by intro y hy;simp only [List.mem_cons,List.not_mem_nil,or_false] at hy ⊢;rcases hy with hy | hy <;> simp [hy]) ak ?_);refine jW 13 [0,2,5,6,7,10] (aa 19 1253) ?_;(refine jG (aa 19 1261) 3 F (aD F F F) ?_);refine jW 11 [4] (aa 19 1277) ?_;(refine jG (aa 19 3325) 11 F (aD F F F) ?_);refine jW 9 [12] (aa 19 7421) ?_;refine bY [1,8,13] kR dC ⟨?_,?_,?_,trivial⟩;(focus (refine a5 F F ?_;(refine am F ?_);refine jK (aa 19 7423) ?_;refine bY [8,13] kR dC ⟨?_,?_,trivial⟩;(focus (refine a5 F F ?_;(refine jF fun _=>?_);refine hJ k9 sB (listed':=(aa 19 7679)) kR ?_;((refine jG (aa 19 8191) 9 F (cZ F F (by (repeat (first | exact BL.nil | apply BL.cons));done)) ?_));refine jA 13 F ?_;(refine ad F F F dI F ?_);refine jK (aa 19 16383) ?_;(refine jG (aa 19 32767) 14 F (aq F F) ?_);refine jA 15 F ?_;(refine jF fun _=>?_);refine jK (aa 19 65535) ?_;refine jA 16 F ?_;((refine br F F F F F F F F F ?_ fun _ _=>?_;focus omega));refine jK (aa 19 131071) ?_;refine jW 1 [17] (aa 19 262143) ?_;refine jA 18 F ?_;(refine jD F F F ?_);refine jK (aa 19 524287) ?_;refine jQ ?_));rotate_left 1;(focus (refine a5 F F ?_;(refine ad F F F dI F ?_);refine jK (aa 19 15615) ?_;refine jA 8 F ?_;(refine jF fun _=>?_);refine hJ k9 sB (listed':=(aa 19 15871)) kR ?_;((refine jG (aa 19 16383) 9 F (cZ F F (by (repeat (first | exact BL.nil | apply BL.cons));done)) ?_));(refine jG (aa 19 32767) 14 F (aq F F) ?_);refine jA 15 F ?_;(refine jF fun _=>?_);refine jK (aa 19 65535) ?_;refine jA 16 F ?_;((refine br F F F F F F F F F ?_ fun _ _=>?_;focus omega));refine jK (aa 19 131071) ?_;refine jW 1 [17] (aa 19 262143) ?_;refine jA 18 F ?_;(refine jD F F F ?_);refine jK (aa 19 524287) ?_;refine jQ ?_));rotate_left 1));rotate_left 2;(focus (refine a5 F F ?_;(refine jF fun _=>?_);refine hJ k9 sB (listed':=(aa 19 7677)) kR ?_;((refine jG (aa 19 8189) 9 F (cZ F F (by (repeat (first | exact BL.nil | apply BL.cons));done)) ?_));refine bY [1,13] kR dC ⟨?_,?_,trivial⟩;(focus (refine a5 F F ?_;(refine am F ?_);refine jK (aa 19 8191) ?_;refine jA 13 F ?_;(refine ad F F F dI F ?_);refine jK (aa 19 16383) ?_;(refine jG (aa 19 32767) 14 F (aq F F) ?_);refine jA 15 F ?_;(refine jF fun _=>?_);refine jK (aa 19 65535) ?_;refine jA 16 F ?_;((refine br F F F F F F F F F ?_ fun _ _=>?_;focus omega));refine jK (aa 19 131071) ?_;refine jW 1 [17] (aa 19 262143) ?_;refine jA 18 F ?_;(refine jD F F F ?_);refine jK (aa 19 524287) ?_;refine jQ ?_));rotate_left 1;(focus (refine a5 F F ?_;(refine ad F F F dI F ?_);refine jK (aa 19 16381) ?_;(refine jG (aa 19 32765) 14 F (aq F F) ?_);refine bY [1,15] kR dC ⟨?_,?_,trivial⟩;(focus (refine a5 F F ?_;(refine am F ?_);refine jK (aa 19 32767) ?_;refine jA 15 F ?_;(refine jF fun _=>?_);refine jK (aa 19 65535) ?_;refine jA 16 F ?_;((refine br F F F F F F F F F ?_ fun _ _=>?_;focus omega));refine jK (aa 19 131071) ?_;refine jW 1 [17] (aa 19 262143) ?_;refine jA 18 F ?_;(refine jD F F F ?_);refine jK (aa 19 524287) ?_;refine jQ ?_));rotate_left 1;(focus (refine a5 F F ?_;(refine jF fun _=>?_);refine jK (aa 19 65533) ?_;refine jA 1 F ?_;(refine am F ?_);refine jK (aa 19 65535) ?_;refine jA 16 F ?_;((refine br F F F F F F F F F ?_ fun _ _=>?_;focus omega));refine jK (aa 19 131071) ?_;refine jW 1 [17] (aa 19 262143) ?_;refine jA 18 F ?_;(refine jD F F F ?_);refine jK (aa 19 524287) ?_;refine jQ ?_));rotate_left 1));rotate_left 2));rotate_left 3;(focus (refine a5 F F ?_;(refine ad F F F dI F ?_);refine jK (aa 19 15613) ?_;refine bY [1,8] kR dC ⟨?_,?_,trivial⟩;(focus (refine a5 F F ?_;(refine am F ?_);refine jK (aa 19 15615) ?_;refine jA 8 F ?_;(refine jF fun _=>?_);refine hJ k9 sB (listed':=(aa 19 15871)) kR ?_;((refine jG (aa 19 16383) 9 F (cZ F F (by (repeat (first | exact BL.nil | apply BL.cons));done)) ?_));(refine jG (aa 19 32767) 14 F (aq F F) ?_);refine jA 15 F ?_;(refine jF fun _=>?_);refine jK (aa 19 65535) ?_;refine jA 16 F ?_;((refine br F F F F F F F F F ?_ fun _ _=>?_;focus omega));refine jK (aa 19 131071) ?_;refine jW 1 [17] (aa 19 262143) ?_;refine jA 18 F ?_;(refine jD F F F ?_);refine jK (aa 19 524287) ?_;refine jQ ?_));rotate_left 1;(focus (refine a5 F F ?_;(refine jF fun _=>?_);refine hJ k9 sB (listed':=(aa 19 15869)) kR ?_;((refine jG (aa 19 16381) 9 F (cZ F F (by (repeat (first | exact BL.nil | apply BL.cons));done)) ?_));(refine jG (aa 19 32765) 14 F (aq F F) ?_);refine bY [1,15] kR dC ⟨?_,?_,trivial⟩;(focus (refine a5 F F ?_;(refine am F ?_);refine jK (aa 19 32767) ?_;refine jA 15 F ?_;(refine jF fun _=>?_);refine jK (aa 19 65535) ?_;refine jA 16 F ?_;((refine br F F F F F F F F F ?_ fun _ _=>?_;focus omega));refine jK (aa 19 131071) ?_;refine jW 1 [17] (aa 19 262143) ?_;refine jA 18 F ?_;(refine jD F F F ?_);refine jK (aa 19 524287) ?_;refine jQ ?_));rotate_left 1;(focus (refine a5 F F ?_;(refine jF fun _=>?_);refine jK (aa 19 65533) ?_;refine jA 1 F ?_;(refine am F ?_);refine jK (aa 19 65535) ?_;refine jA 16 F ?_;((refine br F F F F F F F F F ?_ fun _ _=>?_;focus omega));refine jK (aa 19 131071) ?_;refine jW 1 [17] (aa 19 262143) ?_;refine jA 18 F ?_;(refine jD F F F ?_);refine jK (aa 19 524287) ?_;refine jQ ?_));rotate_left 1));rotate_left 2));rotate_left 3)
   all_goals rename_i n1 n2 n3
   all_goals
    rw [show aj b6 gs ++ [I ((ac fs jj).tag - 1),S [u8 (101 + (jj : Int))],S (if decide ((so : Int) = 69) = true then [] else [110]),S []] = aj b6 (gs ++ [⟨(ac fs jj).tag - 1,[u8 (101 + (jj : Int))],if decide ((so : Int) = 69) = true then [] else [110],[]⟩]) from dG,cH (f:=⟨(ac fs jj).tag - 1,[u8 (101 + (jj : Int))],if decide ((so : Int) = 69) = true then [] else [110],[]⟩)]
    have hgb:=eL (f:=⟨(ac fs jj).tag - 1,[u8 (101 + (jj : Int))],if decide ((so : Int) = 69) = true then [] else [110],[]⟩) hgb ⟨by dsimp only;omega,by simp,by dsimp only;split <;> decide,by simp⟩
    have hgl : (gs ++ [(⟨(ac fs jj).tag - 1,[u8 (101 + (jj : Int))],if decide ((so : Int) = 69) = true then [] else [110],[]⟩ : Fld)]).length ≤ 2 * jj + 1:=by rw [← cH];omega
    generalize gs ++ [(⟨(ac fs jj).tag - 1,[u8 (101 + (jj : Int))],if decide ((so : Int) = 69) = true then [] else [110],[]⟩ : Fld)] = gs at *
    repeat' (first | refine jM ?_ | (refine jo ?_;first | refine aV F ?_ | refine aG F ?_ | refine am F ?_ | refine aZ F ?_ | refine jD F F F ?_ | refine jF fun _=>?_ | refine br F F F F F F F F F oM fun _ _=>?_ | (refine an F F F (cl ?_ (by (repeat (assumption));done)) rfl ?_;(focus omega);rintro _ _ ⟨k,rfl,rfl,hk0,hk1⟩;dsimp only [zA,fA]) | (refine an F F F (fg ?_ (by (repeat (assumption));done)) rfl ?_;(focus omega);rintro _ _ ⟨kd,q1,rfl,hkd,rfl,hq1,hq2⟩;dsimp only [zA,fA])) | refine dm F F (fun _=>?_) (fun _=>?_) | refine af F F ?_ | refine cz F (fun _=>?_) (fun _=>?_))
   all_goals (focus (rename_i y1 yc;refine Nx.re (d:=53) (v':=I (jj + 1 : Nat)) F (congrArg (Value.int .i64) oM) ?_;refine Nx.perm (List.perm_middle (l₁:=[_,_])) ?_;dsimp only [zA,fA];first | (rw [show aj b6 gs ++ [I (ac fs jj).tag,S (ac fs jj).name,S kd,.string ⟨#[]⟩] = aj b6 (gs ++ [⟨(ac fs jj).tag,(ac fs jj).name,kd,[]⟩]) from dG,cH (f:=⟨(ac fs jj).tag,(ac fs jj).name,kd,[]⟩)];refine aW (gs ++ [⟨(ac fs jj).tag,(ac fs jj).name,kd,[]⟩],some ⟨y1,0,none⟩,yc,jj + 1,(ac fs jj).tag,q1) ⟨⟨by dsimp only;omega,by dsimp only;rw [← cH];omega⟩,eL hgb ⟨by dsimp only;omega,hb1,by dsimp only;omega,by simp⟩,⟨by dsimp only;omega,by dsimp only;omega⟩,by dsimp only;omega,by dsimp only;omega⟩ (by dsimp only;omega) tU rfl ?_;(focus (repeat (first | exact List.Sublist.refl _ | apply List.Sublist.cons_cons | apply List.Sublist.cons)))) | (rw [show aj b6 gs ++ [I (ac fs jj).tag,S (ac fs jj).name,S (ac fs jj).kind,S (ac fs jj).stand] = aj b6 (gs ++ [ac fs jj]) from dG,cH (f:=ac fs jj)];refine aW (gs ++ [ac fs jj],some ⟨y1,0,none⟩,yc,jj + 1,(ac fs jj).tag,qq + 1 + 1) ⟨⟨by dsimp only;omega,by dsimp only;rw [← cH];omega⟩,eL hgb ⟨⟨ht0,ht1⟩,hb1,hb2,hb3⟩,⟨by dsimp only;omega,by dsimp only;omega⟩,by dsimp only;omega,by dsimp only;omega⟩ (by dsimp only;omega) tU rfl ?_;(focus (repeat (first | exact List.Sublist.refl _ | apply List.Sublist.cons_cons | apply List.Sublist.cons))));done))
  all_goals (focus (rename_i y1 yc;refine Nx.re (d:=53) (v':=I (jj + 1 : Nat)) F (congrArg (Value.int .i64) oM) ?_;refine Nx.perm (List.perm_middle (l₁:=[_,_])) ?_;dsimp only [zA,fA];first | (rw [show aj b6 gs ++ [I (ac fs jj).tag,S (ac fs jj).name,S kd,.string ⟨#[]⟩] = aj b6 (gs ++ [⟨(ac fs jj).tag,(ac fs jj).name,kd,[]⟩]) from dG,cH (f:=⟨(ac fs jj).tag,(ac fs jj).name,kd,[]⟩)];refine aW (gs ++ [⟨(ac fs jj).tag,(ac fs jj).name,kd,[]⟩],some ⟨y1,0,none⟩,yc,jj + 1,(ac fs jj).tag,q1) ⟨⟨by dsimp only;omega,by dsimp only;rw [← cH];omega⟩,eL hgb ⟨by dsimp only;omega,hb1,by dsimp only;omega,by simp⟩,⟨by dsimp only;omega,by dsimp only;omega⟩,by dsimp only;omega,by dsimp only;omega⟩ (by dsimp only;omega) tU rfl ?_;(focus (repeat (first | exact List.Sublist.refl _ | apply List.Sublist.cons_cons | apply List.Sublist.cons)))) | (rw [show aj b6 gs ++ [I (ac fs jj).tag,S (ac fs jj).name,S (ac fs jj).kind,S (ac fs jj).stand] = aj b6 (gs ++ [ac fs jj]) from dG,cH (f:=ac fs jj)];refine aW (gs ++ [ac fs jj],some ⟨y1,0,none⟩,yc,jj + 1,(ac fs jj).tag,qq + 1 + 1) ⟨⟨by dsimp only;omega,by dsimp only;rw [← cH];omega⟩,eL hgb ⟨⟨ht0,ht1⟩,hb1,hb2,hb3⟩,⟨by dsimp only;omega,by dsimp only;omega⟩,by dsimp only;omega,by dsimp only;omega⟩ (by dsimp only;omega) tU rfl ?_;(focus (repeat (first | exact List.Sublist.refl _ | apply List.Sublist.cons_cons | apply List.Sublist.cons))));done))
abbrev uY : TypeId:=25
theorem d9 {s r : ye} {u v : Value} {a b : List Mt} (h : (s.length ≤ 1048576 ∧ a.length ≤ 1048576) ∧ (r.length ≤ 1048576 ∧ b.length ≤ 1048576) ∧ (∀ x ∈ a,iB x) ∧ ∀ x ∈ b,iB x) (hu : bh G u 3 a.length (aj eK a)) (hv : bh G v 3 b.length (aj eK b)) :
  aI yd 20 [Ag [S s,u],Ag [S r,v]] G (· = Bo (cP s a r b)):=by
 obtain ⟨⟨hs,ha⟩,⟨hr,hb⟩,hma,hmb⟩:=h
 cases e1 : cq s a
 ·have cx_so1 : aI yd 32 [Ag [S s,u]] G (· = Bo false):=by rw [← e1];exact fC hs hu ha hma
  rw [fU (.inl e1)]
  refine jE [(0,_),(1,_)] Tryz.func20 Tryz.ntmps20 fun B hB=>?_
  repeat' (first | refine jR ?_ | (refine jo ?_;first | refine jO fun _=>?_ | refine aZ F ?_ | refine aV F ?_ | refine ad F F F cx_so1 F ?_) | refine aU F F F ?_ | refine ae F F ?_)
  all_goals refine jY (vs:=[_]) ?_
  all_goals rfl
 have cx_so1 : aI yd 32 [Ag [S s,u]] G (· = Bo true):=by rw [← e1];exact fC hs hu ha hma
 cases e2 : cq r b
 ·have cx_so2 : aI yd 32 [Ag [S r,v]] G (· = Bo false):=by rw [← e2];exact fC hr hv hb hmb
  rw [fU (.inr e2)]
  refine jE [(0,_),(1,_)] Tryz.func20 Tryz.ntmps20 fun B hB=>?_
  repeat' (first | refine jR ?_ | (refine jo ?_;first | refine jO fun _=>?_ | refine aZ F ?_ | refine aG F ?_ | refine ad F F F cx_so1 F ?_ | refine ad F F F cx_so2 F ?_) | refine aE F F F ?_ | refine ae F F ?_)
  all_goals refine jY (vs:=[_]) ?_
  all_goals rfl
 have cx_so2 : aI yd 32 [Ag [S r,v]] G (· = Bo true):=by rw [← e2];exact fC hr hv hb hmb
 refine jE [(0,_),(1,_)] Tryz.func20 Tryz.ntmps20 fun B hB=>?_
 repeat' (first | refine jR ?_ | (refine jo ?_;first | refine jO fun _=>?_ | refine am F ?_ | refine aZ F ?_ | refine aG F ?_ | refine jV (cJ F aS) ?_ | refine ad F F F cx_so1 F ?_ | refine ad F F F cx_so2 F ?_) | refine aE F F F ?_ | refine af F F ?_)
 rename_i x2 x3
 refine aT (ι:=Nat) (fun i=>i ≤ b.length ∧ ∀ k,k < i → dY s a r (ac b k) = true) (fun i=>[(2,Pt x2 0),(3,Pt x3 0),(18,v),(19,I b.length),(20,I i)]) (fun _=>G) (fun i=>[.blk x3 (.cells (List.toArray [S r,v]) uY (0,0)),.blk x2 (.cells (List.toArray [S s,u]) uY (0,0))]) (fun i=>b.length - i) 0 ?_ tU F bd (fun i Hi=>?_)
 ·exact ⟨Nat.zero_le _,fun k hk=>absurd hk oM⟩
 by_cases hi : i < b.length
 case neg =>
  repeat' (first | refine jR ?_ | refine af F (aF oM) ?_)
  refine jY (vs:=[_]) ?_
  rw [aH,jy e1 e2 (fun k hk=>Hi.2 k oM)]
 obtain ⟨bb,ob,cb,rfl,sb⟩:=hv.expl oM
 have hxo:=hmb _ (a6 hi)
 have cx_f0:=sT (s:=s) (x:=(ac b i).1) hu ha
 cases hf : fp a (ac b i).1 with
 | none =>
  rw [hf] at cx_f0
  have cx_find : aI yd 31 [Ag [S s,u],S (ac b i).1] G (· = Tu [Ag [S [],S [],S []],Bo false]):=cx_f0
  have hb2 : dY s a r (ac b i) = false:=by unfold dY;rw [hf]
  repeat' (first | refine jR ?_ | (refine jo ?_;first | refine am F ?_ | (refine jV (bq F F aS ?_) ?_;focus omega) | refine aZ F ?_ | refine aV F ?_ | refine jV (ah F F oM) ?_ | refine jL fun _=>?_ | refine jC F F F ?_ | refine ad F F F cx_find F ?_) | refine aU F F F ?_ | (refine ae F (by first | rfl | (refine decide_eq_true ?_;(omega))) ?_))
  all_goals refine jY (vs:=[_]) ?_
  all_goals rw [aH,dX hi hb2]
 | some m =>
  rw [hf] at cx_f0
  have cx_find : aI yd 31 [Ag [S s,u],S (ac b i).1] G (· = Tu [Ag [S m.1,S m.2.1,S m.2.2],Bo true]):=cx_f0
  have hxm:=hma _ (List.mem_of_find?_eq_some hf)
  have cx_eva:=iz (G:=G) (s:=s) (k:=m.2.1) (r:=r) (l:=(ac b i).2.1) oM oM oM oM
  have cx_evb:=iz (G:=G) (s:=r) (k:=(ac b i).2.2) (r:=s) (l:=m.2.2) oM oM oM oM
  have hrd : dY s a r (ac b i) = (bP s m.2.1 r (ac b i).2.1 && bP r (ac b i).2.2 s m.2.2):=by unfold dY;rw [hf]
  generalize bP s m.2.1 r (ac b i).2.1 = qa at cx_eva hrd
  generalize bP r (ac b i).2.2 s m.2.2 = qb at cx_evb hrd
  cases qa
  ·repeat' (first | refine jR ?_ | (refine jo ?_;first | refine am F ?_ | (refine jV (bq F F aS ?_) ?_;focus omega) | refine aZ F ?_ | refine aV F ?_ | refine aG F ?_ | refine jV (ah F F oM) ?_ | refine jL fun _=>?_ | refine jC F F F ?_ | refine ad F F F cx_find F ?_ | refine ad F F F cx_eva F ?_) | refine aU F F F ?_ | refine aE F F F ?_ | (refine ae F (by first | rfl | (refine decide_eq_true ?_;(omega))) ?_))
   all_goals refine jY (vs:=[_]) ?_
   all_goals rw [aH,dX hi hrd]
  cases qb
  ·repeat' (first | refine jR ?_ | (refine jo ?_;first | refine am F ?_ | (refine jV (bq F F aS ?_) ?_;focus omega) | refine aZ F ?_ | refine aG F ?_ | refine jV (ah F F oM) ?_ | refine jL fun _=>?_ | refine jC F F F ?_ | refine ad F F F cx_find F ?_ | refine ad F F F cx_eva F ?_ | refine ad F F F cx_evb F ?_) | refine aE F F F ?_ | (refine ae F (by first | rfl | (refine decide_eq_true ?_;(omega))) ?_))
   all_goals refine jY (vs:=[_]) ?_
   all_goals rw [aH,dX hi hrd]
  repeat' (first | refine jM ?_ | (refine jo ?_;first | refine am F ?_ | (refine jV (bq F F aS ?_) ?_;focus omega) | refine aZ F ?_ | refine aG F ?_ | refine jV (ah F F oM) ?_ | refine jL fun _=>?_ | refine jC F F F ?_ | refine ad F F F cx_find F ?_ | refine ad F F F cx_eva F ?_ | refine ad F F F cx_evb F ?_) | refine aE F F F ?_ | refine ae F (aC oM) ?_ | refine af F F ?_)
  all_goals
   refine aW (i + 1) ⟨oM,fun k hk=>?_⟩ oM tU F sB
   rcases Nat.lt_or_ge k i with h3 | h3
   ·exact Hi.2 k h3
   ·have : k = i:=oM
    subst this;exact hrd
abbrev uZ : TypeId:=42
abbrev uU : TypeId:=25
abbrev uV : TypeId:=9
theorem nI {r : Nat} {code : Value} {p : Int} {l : ye} (hp : 0 ≤ p ∧ p ≤ 500000000000) (hs : bh G code 1 l.length (bD l)) :
  cg yd 61 [Pt r 0] G [dB r code p cN] (fun v L'=>∃ x q,v = S x ∧ x.length ≤ 64 ∧ L' = [dB r code q cN] ∧ p ≤ q ∧ q ≤ p + 10):=by
 refine jH [(0,_)] Tryz.func61 Tryz.ntmps61 fun B hB hW=>?_
 repeat' (first | refine jR ?_ | (refine jo ?_;first | refine jF fun _=>?_ | refine jV (aY F F oM) ?_ | (refine fy 64 F F F ?_ F (fun xs hxs=>?_);(focus ((simp only [List.length_append,List.length_cons,List.length_nil,List.length_take];omega);done))) | (refine an F F F (cl ?_ (by (repeat (assumption));done)) rfl ?_;(focus omega);rintro _ _ ⟨k,rfl,rfl,hk0,hk1⟩;dsimp only [zA,fA])) | refine cz F (fun _=>?_) (fun _=>?_))
 all_goals exact aM (vs:=[_]) F ⟨F,trivial⟩ F sB ⟨F,_,_,F,oM,F,oM,oM⟩
theorem kJ {ms : List Mt} {a b c : ye} : aj eK ms ++ [S a,S b,S c] = aj eK (ms ++ [(a,b,c)]):=(cj eK ms (a,b,c)).symm
theorem f3 {ms : List Mt} {x : Mt} : ms.length + 1 = (ms ++ [x]).length:=by simp
theorem mf {ms : List Mt} {x : Mt} (h : ∀ y ∈ ms,iB y) (hx : iB x) : ∀ y ∈ ms ++ [x],iB y:=by
 intro y hy
 rcases List.mem_append.mp hy with hy | hy
 ·exact h y hy
 ·rw [List.mem_singleton.mp hy];exact hx
theorem kA {r : Nat} {code : Value} {p : Int} {l : ye} (hp : 0 ≤ p ∧ p ≤ 400000000000) (hs : bh G code 1 l.length (bD l)) :
  ec yd 27 [Pt r 0] G [dB r code p cN] (fun v G' L'=>∃ s a ms c q,v = Ag [S s,.slice a (ms : List Mt).length c] ∧ bh G' (.slice a ms.length c) 3 ms.length (aj eK ms) ∧ (s.length ≤ 20000 ∧ ms.length ≤ 4 ∧ ∀ x ∈ ms,iB x) ∧ L' = [dB r code q cN] ∧ p ≤ q ∧ q ≤ p + 2000):=by
 refine bS [(0,_)] Tryz.func27 kR Tryz.ntmps27 F F tU fun B hB hW=>?_
 repeat' (first | refine jR ?_ | (refine jo ?_;first | refine jL fun _=>?_ | refine jV (aq F F) ?_ | refine jC F F F ?_ | refine jF fun _=>?_ | (refine an F F F (la ?_ (by (repeat (assumption));done)) rfl ?_;(focus omega);rintro _ _ ⟨sc,q1,rfl,hsc,rfl,hq1,hq2⟩;dsimp only [zA,fA])))
 rename_i y2 y4 yN
 refine Nx.addNil uZ 3 (Nx.perm ((List.perm_middle (l₁:=[_,_])).cons _) ?_)
 dsimp only [zA,fA]
 refine aT (ι:=List Mt × Option Addr × Nat × Nat × Int) (fun j=>(j.1.length ≤ j.2.2.2.1 ∧ j.2.2.2.1 ≤ 3) ∧ (∀ x ∈ j.1,iB x) ∧ p ≤ j.2.2.2.2 ∧ j.2.2.2.2 ≤ p + 701 + 100 * ((j.2.2.2.1 : Nat) : Int)) (fun j=>[(0,Pt r 0),(2,Pt y2 0),(3,S sc),(4,Pt y4 0),(5,.slice (some ⟨yN,0,none⟩) 3 3),(6,I ((j.2.2.2.1 : Nat) : Int))]) (fun _=>G) (fun j=>[.acc (.slice j.2.1 j.1.length j.2.2.1) uZ 3 j.1.length (aj eK j.1),dB r code j.2.2.2.2 cN,.blk yN (.cells (List.toArray [S [97,100,100],S [103,101,116],S [112,117,116]]) uV (0,0)),.blk y4 (.cells (List.toArray [S sc,.slice j.2.1 j.1.length j.2.2.1]) uU (0,0)),.blk y2 (.cells (List.toArray [S [],ax]) uU (0,0))]) (fun j=>3 - j.2.2.2.1) ([],none,0,0,q1) ?_ tU F bd (fun j Hj=>?_)
 ·exact ⟨⟨by dsimp only;exact Nat.le_refl _,by dsimp only;omega⟩,by simp,by dsimp only;omega,by dsimp only;omega⟩
 obtain ⟨ms,a,c,i,q⟩:=j
 dsimp only at Hj ⊢
 obtain ⟨hil,hms,hq3,hq4⟩:=Hj
 by_cases hi : i < 3
 ·rcases (show i = 0 ∨ i = 1 ∨ i = 2 by omega) with rfl | rfl | rfl
  all_goals
   repeat' (first | refine jM ?_ | (refine jo ?_;(refine an F F F (cl ?_ (by (repeat (assumption));done)) rfl ?_;(focus omega);rintro _ _ ⟨k,rfl,rfl,hk0,hk1⟩;dsimp only [zA,fA])) | refine ae F F ?_ | refine cz F (fun _=>?_) (fun _=>?_))
   ·(refine al (aw (id:=8) [.blk yN (.cells (List.toArray [S [97,100,100],S [103,101,116],S [112,117,116]]) uV (0,0))] (by intro y hy;simp only [List.mem_cons,List.not_mem_nil,or_false] at hy ⊢;simp [hy]) ak ?_);refine jW 10 [0,2,3,6,7,9,10] (aa 17 1741) ?_;((refine jG (aa 17 1757) 4 F (ah F F ?_) ?_;focus omega));(refine jG (aa 17 1789) 5 F (aD F F F) ?_);refine bY [1,8] kR dC ⟨?_,?_,trivial⟩;(focus (refine a5 F F ?_;(refine am F ?_);refine jK (aa 17 1791) ?_;refine jA 8 F ?_;((refine an F F F (ff ?_ (by (repeat (assumption));done) ?_) rfl ?_;(focus omega);(focus omega);rintro _ _ ⟨kd,q1,rfl,hkd,rfl,hq1,hq2⟩;dsimp only [zA,fA]));refine jK (aa 17 2047) ?_;refine jA 11 F ?_;((refine an F F F (ff ?_ (by (repeat (assumption));done) ?_) rfl ?_;(focus omega);(focus omega);rintro _ _ ⟨kd,q1,rfl,hkd,rfl,hq1,hq2⟩;dsimp only [zA,fA]));refine jK (aa 17 4095) ?_;(refine jG (aa 17 8191) 12 F (aq F F) ?_);refine jA 13 F ?_;(refine jF fun _=>?_);refine jK (aa 17 16383) ?_;refine jA 14 F ?_;((refine br F F F F F F F F F ?_ fun _ _=>?_;focus omega));refine jK (aa 17 32767) ?_;refine jW 1 [15] (aa 17 65535) ?_;refine jA 16 F ?_;(refine jD F F F ?_);refine jK (aa 17 131071) ?_;refine jQ ?_));rotate_left 1;(focus (refine a5 F F ?_;((refine an F F F (ff ?_ (by (repeat (assumption));done) ?_) rfl ?_;(focus omega);(focus omega);rintro _ _ ⟨kd,q1,rfl,hkd,rfl,hq1,hq2⟩;dsimp only [zA,fA]));refine jK (aa 17 2045) ?_;refine bY [1,11] kR dC ⟨?_,?_,trivial⟩;(focus (refine a5 F F ?_;(refine am F ?_);refine jK (aa 17 2047) ?_;refine jA 11 F ?_;((refine an F F F (ff ?_ (by (repeat (assumption));done) ?_) rfl ?_;(focus omega);(focus omega);rintro _ _ ⟨kd,q1,rfl,hkd,rfl,hq1,hq2⟩;dsimp only [zA,fA]));refine jK (aa 17 4095) ?_;(refine jG (aa 17 8191) 12 F (aq F F) ?_);refine jA 13 F ?_;(refine jF fun _=>?_);refine jK (aa 17 16383) ?_;refine jA 14 F ?_;((refine br F F F F F F F F F ?_ fun _ _=>?_;focus omega));refine jK (aa 17 32767) ?_;refine jW 1 [15] (aa 17 65535) ?_;refine jA 16 F ?_;(refine jD F F F ?_);refine jK (aa 17 131071) ?_;refine jQ ?_));rotate_left 1;(focus (refine a5 F F ?_;((refine an F F F (ff ?_ (by (repeat (assumption));done) ?_) rfl ?_;(focus omega);(focus omega);rintro _ _ ⟨kd,q1,rfl,hkd,rfl,hq1,hq2⟩;dsimp only [zA,fA]));refine jK (aa 17 4093) ?_;(refine jG (aa 17 8189) 12 F (aq F F) ?_);refine bY [1,13] kR dC ⟨?_,?_,trivial⟩;(focus (refine a5 F F ?_;(refine am F ?_);refine jK (aa 17 8191) ?_;refine jA 13 F ?_;(refine jF fun _=>?_);refine jK (aa 17 16383) ?_;refine jA 14 F ?_;((refine br F F F F F F F F F ?_ fun _ _=>?_;focus omega));refine jK (aa 17 32767) ?_;refine jW 1 [15] (aa 17 65535) ?_;refine jA 16 F ?_;(refine jD F F F ?_);refine jK (aa 17 131071) ?_;refine jQ ?_));rotate_left 1;(focus (refine a5 F F ?_;(refine jF fun _=>?_);refine jK (aa 17 16381) ?_;refine jA 1 F ?_;(refine am F ?_);refine jK (aa 17 16383) ?_;refine jA 14 F ?_;((refine br F F F F F F F F F ?_ fun _ _=>?_;focus omega));refine jK (aa 17 32767) ?_;refine jW 1 [15] (aa 17 65535) ?_;refine jA 16 F ?_;(refine jD F F F ?_);refine jK (aa 17 131071) ?_;refine jQ ?_));rotate_left 1));rotate_left 2));rotate_left 3)
    all_goals repeat' (refine jM ?_)
    all_goals
     rename_i kd1 q0 hkd1 hqa hqb n1 n2 n3
     first | (rw [kJ (ms:=ms) (a:=[97,100,100]) (b:=kd1) (c:=kd),f3 (ms:=ms) (x:=([97,100,100],kd1,kd))];exact aW (ms ++ [([97,100,100],kd1,kd)],some ⟨n2,0,none⟩,n3,0 + 1,q1) ⟨⟨by dsimp only;rw [← f3];omega,by dsimp only;omega⟩,mf hms ⟨by simp,by dsimp only;omega,by dsimp only;omega⟩,by dsimp only;omega,by dsimp only;omega⟩ (by dsimp only;omega) tU rfl sB) | (rw [kJ (ms:=ms) (a:=[103,101,116]) (b:=kd1) (c:=kd),f3 (ms:=ms) (x:=([103,101,116],kd1,kd))];exact aW (ms ++ [([103,101,116],kd1,kd)],some ⟨n2,0,none⟩,n3,1 + 1,q1) ⟨⟨by dsimp only;rw [← f3];omega,by dsimp only;omega⟩,mf hms ⟨by simp,by dsimp only;omega,by dsimp only;omega⟩,by dsimp only;omega,by dsimp only;omega⟩ (by dsimp only;omega) tU rfl sB) | (rw [kJ (ms:=ms) (a:=[112,117,116]) (b:=kd1) (c:=kd),f3 (ms:=ms) (x:=([112,117,116],kd1,kd))];exact aW (ms ++ [([112,117,116],kd1,kd)],some ⟨n2,0,none⟩,n3,2 + 1,q1) ⟨⟨by dsimp only;rw [← f3];omega,by dsimp only;omega⟩,mf hms ⟨by simp,by dsimp only;omega,by dsimp only;omega⟩,by dsimp only;omega,by dsimp only;omega⟩ (by dsimp only;omega) tU rfl sB)
   ·refine Nx.perm (List.Perm.swap _ _ _) ?_
    first | (exact aW (ms,a,c,0 + 1,q + 1) ⟨⟨by dsimp only;omega,by dsimp only;omega⟩,hms,by dsimp only;omega,by dsimp only;omega⟩ (by dsimp only;omega) tU rfl bd) | (exact aW (ms,a,c,1 + 1,q + 1) ⟨⟨by dsimp only;omega,by dsimp only;omega⟩,hms,by dsimp only;omega,by dsimp only;omega⟩ (by dsimp only;omega) tU rfl bd) | (exact aW (ms,a,c,2 + 1,q + 1) ⟨⟨by dsimp only;omega,by dsimp only;omega⟩,hms,by dsimp only;omega,by dsimp only;omega⟩ (by dsimp only;omega) tU rfl bd)
 ·repeat' (first | refine jR ?_ | (refine jo ?_;first | refine jC F F F ?_ | refine aZ F ?_ | (refine an F F F (cl ?_ (by (repeat (assumption));done)) rfl ?_;(focus omega);rintro _ _ ⟨k,rfl,rfl,hk0,hk1⟩;dsimp only [zA,fA])) | refine af F (aF oM) ?_ | refine cz F (fun _=>?_) (fun _=>?_))
  ·(refine al (aw (id:=10) [] (fun _ h=>absurd h (by simp)) ak ?_);refine jW 7 [0,2] (aa 9 5) ?_;refine bY [1,3] kR dC ⟨?_,?_,trivial⟩;(focus (refine a5 F F ?_;(refine am F ?_);refine jK (aa 9 7) ?_;refine jA 3 F ?_;((refine an F F F (nI ?_ (by (repeat (assumption));done)) rfl ?_;(focus omega);rintro _ _ ⟨nx,q1,rfl,hnx,rfl,hq1,hq2⟩;dsimp only [zA,fA]));refine jK (aa 9 15) ?_;(refine jG (aa 9 31) 4 F (aq F F) ?_);refine jA 5 F ?_;(refine jF fun _=>?_);refine jK (aa 9 63) ?_;refine jA 6 F ?_;((refine br F F F F F F F F F ?_ fun _ _=>?_;focus omega));refine jK (aa 9 127) ?_;refine jW 1 [7] (aa 9 255) ?_;refine jA 8 F ?_;(refine jD F F F ?_);refine jK (aa 9 511) ?_;refine jQ ?_));rotate_left 1;(focus (refine a5 F F ?_;((refine an F F F (nI ?_ (by (repeat (assumption));done)) rfl ?_;(focus omega);rintro _ _ ⟨nx,q1,rfl,hnx,rfl,hq1,hq2⟩;dsimp only [zA,fA]));refine jK (aa 9 13) ?_;(refine jG (aa 9 29) 4 F (aq F F) ?_);refine bY [1,5] kR dC ⟨?_,?_,trivial⟩;(focus (refine a5 F F ?_;(refine am F ?_);refine jK (aa 9 31) ?_;refine jA 5 F ?_;(refine jF fun _=>?_);refine jK (aa 9 63) ?_;refine jA 6 F ?_;((refine br F F F F F F F F F ?_ fun _ _=>?_;focus omega));refine jK (aa 9 127) ?_;refine jW 1 [7] (aa 9 255) ?_;refine jA 8 F ?_;(refine jD F F F ?_);refine jK (aa 9 511) ?_;refine jQ ?_));rotate_left 1;(focus (refine a5 F F ?_;(refine jF fun _=>?_);refine jK (aa 9 61) ?_;refine jA 1 F ?_;(refine am F ?_);refine jK (aa 9 63) ?_;refine jA 6 F ?_;((refine br F F F F F F F F F ?_ fun _ _=>?_;focus omega));refine jK (aa 9 127) ?_;refine jW 1 [7] (aa 9 255) ?_;refine jA 8 F ?_;(refine jD F F F ?_);refine jK (aa 9 511) ?_;refine jQ ?_));rotate_left 1));rotate_left 2)
   all_goals repeat' (first | refine jR ?_ | (refine jo ?_;first | refine jC F F F ?_ | refine aZ F ?_))
   all_goals
    rename_i n1 n2 n3
    rw [show aj eK ms ++ [S nx,.string ⟨#[110]⟩,.string ⟨#[110]⟩] = aj eK (ms ++ [(nx,[110],[110])]) from kJ,f3 (x:=(nx,[110],[110]))]
    refine Nx.sealS (v:=.slice (some ⟨n2,0,none⟩) (ms ++ [(nx,[110],[110])]).length n3) fun G2 hG2 hsl=>?_
    exact aM (vs:=[_]) F ⟨aB F F F F,trivial⟩ F sB ⟨hG2,sc,some ⟨n2,0,none⟩,ms ++ [(nx,[110],[110])],n3,_,F,hsl,⟨oM,by rw [← f3];omega,mf hms ⟨by dsimp only;omega,by simp,by simp⟩⟩,rfl,oM,oM⟩
  ·refine Nx.sealS (v:=.slice a ms.length c) fun G2 hG2 hsl=>?_
   exact aM (vs:=[_]) F ⟨aB F F F F,trivial⟩ F sB ⟨hG2,sc,a,ms,c,_,F,hsl,⟨oM,oM,hms⟩,F,oM,oM⟩
def nS (s k : ye) : Value:=Tu [S ((dU s k).getD []),Bo (dU s k).isSome]
theorem oh {s k : ye} (h : bo s k = false) : dU s k = none:=by
 unfold dU
 unfold bo at h
 cases hs : ar s with
 | none=>rfl
 | some ts=>rw [hs] at h;dsimp only at h ⊢;rw [if_neg (by simp [h])]
theorem og {s k : ye} {ts : List Ty} (h1 : ar s = some ts) (h2 : aO ts k = true) : dU s k = some (jP ts k):=by
 unfold dU;rw [h1];dsimp only;rw [if_pos h2]
theorem mF {s k : ye} (h : s.length ≤ 1048576 ∧ k.length ≤ 1048576) : aI yd 22 [S s,S k] G (· = nS s k):=by
 unfold nS
 by_cases hk : bo s k = true
 case neg =>
  have hk2 : bo s k = false:=by simpa using hk
  rw [oh hk2]
  have cx_bo1 : ∀ G,ce yd 52 [S s,S k] G (fun v _=>∃ p a b c,v = Tu [p,Ag [S a,S b,S c],Bo false]):=fun G=>by
   refine (gM (G:=G) (s:=s) (k:=k) oM oM).mono ?_
   rintro v G' L' ⟨h1,h2,⟨_,p,a,b,c,rfl⟩ | ⟨b,qs,rfl,h3,h4,h5⟩⟩
   ·exact ⟨h1,h2,p,a,b,c,F⟩
   ·unfold bo at hk2;rw [h3] at hk2;dsimp only at hk2;rw [h4] at hk2;cases hk2
  refine jB (Post:=fun v G' L'=>G' = G ∧ L' = [] ∧ _) [(0,_),(1,_)] Tryz.func22 Tryz.ntmps22 fun B hok hB hW=>?_
  repeat' (first | refine jR ?_ | (refine jo ?_;first | refine jL fun _=>?_ | refine jC F F F ?_ | (refine aJ F F F (cx_bo1 _) F ?_;rintro _ G hle ⟨p1,a1,b1,c1,rfl⟩;skip)) | refine ae F F ?_)
  all_goals refine Nx.base hok hB ?_
  all_goals refine jY (vs:=[_,_]) ?_
  all_goals rfl
 obtain ⟨ts,hsc,hki,hw⟩:=pl hk
 rw [og hsc hki]
 have cx_boa : ∀ G,ce yd 52 [S s,S k] G (fun v G'=>∃ b qs,v = Tu [Pt b 0,Ag [S (sg k),S (bs k),S (nm k)],Bo true] ∧ ag qs = ts ∧ ScI G' b qs):=fun G=>by
  refine (gM (G:=G) (s:=s) (k:=k) oM oM).mono ?_
  rintro v G' L' ⟨h1,h2,⟨h3,_⟩ | ⟨b,qs,rfl,h3,h4,h5⟩⟩
  ·rw [hk] at h3;cases h3
  ·exact ⟨h1,h2,b,qs,F,Option.some.inj (h3.symm.trans hsc),h5⟩
 refine jB (Post:=fun v G' L'=>G' = G ∧ L' = [] ∧ _) [(0,_),(1,_)] Tryz.func22 Tryz.ntmps22 fun B hok hB hW=>?_
 repeat' (first | refine jR ?_ | (refine jo ?_;first | refine jL fun _=>?_ | refine jC F F F ?_ | refine aZ F ?_ | (refine aJ F F F (cx_boa _) F ?_;rintro _ G hle ⟨ba,qa,rfl,hT1,hR1⟩;skip)) | refine af F F ?_)
 subst hT1
 have cx_std:=nH hR1 hw hki
 repeat' (first | refine jR ?_ | (refine jo ?_;refine ad F F F cx_std F ?_))
 all_goals refine Nx.base hok hB ?_
 all_goals refine jY (vs:=[_,_]) ?_
 all_goals rfl
--?s0
open Go.Proofs
variable {G : Gh}
theorem kD {v : Value} {l : ye} (hs : bh G v 1 l.length (bD l)) : ce yd 19 [v] G (fun r G'=>∃ s a ms c s2 a2 ns c2,r = Tu [Ag [S s,.slice a (ms : List Mt).length c],Ag [S s2,.slice a2 (ns : List Mt).length c2]] ∧ bh G' (.slice a ms.length c) 3 ms.length (aj eK ms) ∧ bh G' (.slice a2 ns.length c2) 3 ns.length (aj eK ns) ∧ ((s.length ≤ 1048576 ∧ ms.length ≤ 1048576) ∧ (s2.length ≤ 1048576 ∧ ns.length ≤ 1048576) ∧ (∀ x ∈ ms,iB x) ∧ ∀ x ∈ ns,iB x)):=by
 refine jB [(0,_)] Tryz.func19 Tryz.ntmps19 fun B hok hB hW=>?_
 repeat' (first | refine jR ?_ | (refine jo ?_;first | refine jL fun _=>?_ | refine jD F F F ?_ | refine jC F F F ?_ | refine am F ?_ | refine jV (aq F F) ?_ | (refine dD F F F (sW (by (repeat (assumption));done)) rfl ?_;rintro _ _ ⟨b,code,l,rfl,rfl,hcd,hcl⟩;dsimp only [zA,fA]) | (refine d7 F F F (kA ?_ (by (repeat (assumption));done)) rfl ?_;(focus omega);rintro _ G1 _ hle ⟨sv,a1,ms,ca,q1,rfl,hsl1,hb1,rfl,hq1,hq2⟩;dsimp only [zA,fA];skip) | (refine d7 F F F (qQ ?_ (by (repeat (first | assumption | refine bh.mono ?_ aS));done)) rfl ?_;(focus omega);rintro _ G1 _ hle ⟨o1,o2,o3,o4,q1,rfl,hol,rfl,hq1,hq2⟩;dsimp only [zA,fA];skip) | (refine an F F F (cl ?_ (by (repeat (first | assumption | refine bh.mono ?_ aS));done)) rfl ?_;(focus omega);rintro _ _ ⟨k,rfl,rfl,hk0,hk1⟩;dsimp only [zA,fA])) | refine cz F (fun _=>?_) (fun _=>?_))
 ·rename_i x2 x3 Ga hla qa hqa hqb x5 h0 x10
  refine Nx.sealC (b:=x10) fun G2 l2 s10=>?_
  refine Nx.sealC (b:=x5) fun G3 l3 s5=>?_
  have s10:=s10.mono l3
  have hsl0:=((hsl1.mono hle).mono l2).mono l3
  have hlb:=((hla.trans hle).trans l2).trans l3
  (refine al (aw (id:=7) [] (fun _ h=>absurd h (by simp)) ak ?_);(refine jG (aa 4 1) 0 F (kK F F aS F F) ?_);(refine jG (aa 4 3) 1 F (kK F F aS F F) ?_);refine jA 2 F ?_;(refine jC F F F ?_);refine jK (aa 4 7) ?_;refine jA 3 F ?_;(refine jC F F F ?_);refine jK (aa 4 15) ?_;refine jQ ?_)
  all_goals repeat' (refine jR ?_)
  all_goals exact jZ (vs:=[_,_]) F ⟨aB F F F F,aB F F F F,trivial⟩ F ⟨hlb,F,_,_,_,_,_,_,_,_,F,hsl0,hsl0,⟨⟨oM,oM⟩,⟨oM,oM⟩,hb1.2.2,hb1.2.2⟩⟩
 ·rename_i x2 x3 Ga hla qa hqa hqb x5 h0
  refine Nx.sealC (b:=x5) fun G3 l3 s5=>?_
  have hsl0:=(hsl1.mono hle).mono l3
  have hb0:=hb1
  have hlb:=(hla.trans hle).trans l3
  have hcd:=((hcd.mono hla).mono hle).mono l3
  (refine al (aw (id:=8) [] (fun _ h=>absurd h (by simp)) ak ?_);refine jW 4 [1] (aa 5 2) ?_;(refine jG (aa 5 3) 0 F (kK F F aS F F) ?_);refine jA 2 F ?_;((refine d7 F F F (kA ?_ (by (repeat (assumption));done)) rfl ?_;(focus omega);rintro _ G1 _ hle ⟨sv,a1,ms,ca,q1,rfl,hsl1,hb1,rfl,hq1,hq2⟩;dsimp only [zA,fA];skip));refine jK (aa 5 7) ?_;refine jA 3 F ?_;(refine jC F F F ?_);refine jK (aa 5 15) ?_;refine jA 4 F ?_;(refine jC F F F ?_);refine jK (aa 5 31) ?_;refine jQ ?_)
  all_goals repeat' (refine jR ?_)
  all_goals exact jZ (vs:=[_,_]) F ⟨aB F F F F,aB F F F F,trivial⟩ F ⟨hlb.trans hle,F,_,_,_,_,_,_,_,_,F,hsl0.mono hle,hsl1,⟨⟨oM,oM⟩,⟨oM,oM⟩,hb0.2.2,hb1.2.2⟩⟩
abbrev qi : TypeId:=25
abbrev xJ : TypeId:=42
theorem lO {v : Value} {l : ye} (hs : bh G v 1 l.length (bD l)) : aI yd 6 [v] G (· = Bo true):=by
 obtain ⟨a,cap,rfl⟩:=hs.sl
 refine jB (Post:=fun v G' L'=>G' = G ∧ L' = [] ∧ _) [(0,_)] Tryz.func6 Tryz.ntmps6 fun B hok hB hW=>?_
 repeat' (first | refine jR ?_ | (refine jo ?_;refine jV (ai F) ?_) | refine cz F (fun _=>?_) (fun _=>?_))
 ·refine Nx.base hok hB ?_
  refine jY (vs:=[_]) ?_
  rfl
 refine jo ?_
 refine aJ F F F (kD hs) F ?_
 rintro _ G hle ⟨s1,a1,ms,ca,s2,a2,ns,cb,rfl,hsl1,hsl2,hsz⟩
 obtain ⟨⟨z1,z2⟩,⟨z3,z4⟩,hms,hns⟩:=id hsz
 cases hsv : cP s1 ms s2 ns with
 | false =>
  have cx_sr1:=d9 hsz hsl1 hsl2
  have cx_sr2:=d8 hsz hsl1 hsl2
  rw [hsv] at cx_sr1 cx_sr2
  repeat' (first | refine jR ?_ | (refine jo ?_;first | refine jL fun _=>?_ | refine jC F F F ?_ | refine aZ F ?_ | refine aG F ?_ | (refine ad F F F (d9 ?_ (by (repeat (assumption));done) (by (repeat (assumption));done)) rfl ?_;(focus ((assumption);done))) | (refine ad F F F (d8 ?_ (by (repeat (assumption));done) (by (repeat (assumption));done)) rfl ?_;(focus ((assumption);done)))) | (refine aE F F ?_ ?_;(focus ((simp [*];done);done))) | (refine ae F ?_ ?_;(focus ((simp [*];done);done))))
  all_goals refine Nx.base hok hB ?_
  all_goals refine jY (vs:=[_]) ?_
  all_goals (rw [hsv];rfl)
 | true =>
 obtain ⟨_,sok,_⟩:=jw hsv
 have cx_sr1:=d9 hsz hsl1 hsl2
 have cx_sr2:=d8 hsz hsl1 hsl2
 rw [hsv] at cx_sr1 cx_sr2
 repeat' (first | refine jR ?_ | (refine jo ?_;first | refine jL fun _=>?_ | refine jC F F F ?_ | refine aZ F ?_ | refine aG F ?_ | (refine ad F F F (d9 ?_ (by (repeat (assumption));done) (by (repeat (assumption));done)) rfl ?_;(focus ((assumption);done))) | (refine ad F F F (d8 ?_ (by (repeat (assumption));done) (by (repeat (assumption));done)) rfl ?_;(focus ((assumption);done)))) | (refine aE F F ?_ ?_;(focus ((simp [*];done);done))) | (refine af F ?_ ?_;(focus ((simp [*];done);done))))
 rename_i x3 x4
 refine aT (ι:=Nat) (fun i=>i ≤ ns.length) (fun i=>[(3,Pt x3 0),(4,Pt x4 0),(8,I i)]) (fun _=>G) (fun i=>[.blk x4 (.cells (List.toArray [S s2,.slice a2 ns.length cb]) qi (0,0)),.blk x3 (.cells (List.toArray [S s1,.slice a1 ms.length ca]) qi (0,0))]) (fun i=>ns.length - i) 0 ?_ tU F bd (fun i Hi=>?_)
 ·exact Nat.zero_le _
 by_cases hi : i < ns.length
 case neg =>
  repeat' (first | refine jR ?_ | (refine jo ?_;first | refine jV (ai F) ?_ | refine am F ?_) | refine af F (aF oM) ?_)
  all_goals refine Nx.base hok hB ?_
  all_goals refine jY (vs:=[_]) ?_
  all_goals rfl
 obtain ⟨x,hx⟩:=rh sok hi
 obtain ⟨bb,ob,cb',e,sb⟩:=hsl2.expl oM
 simp only [Value.slice.injEq] at e
 obtain ⟨rfl,-,rfl⟩:=e
 have hxo:=hns _ (a6 hi)
 have cx_st:=mF (G:=G) (s:=s2) (k:=(ac ns i).2.1) ⟨z3,hxo.2.1⟩
 unfold nS at cx_st
 rw [hx] at cx_st
 simp only [Option.getD_some,Option.isSome_some] at cx_st
 repeat' (first | refine jR ?_ | (refine jo ?_;first | refine jV (ai F) ?_ | refine jL fun _=>?_ | refine jC F F F ?_ | refine am F ?_ | (refine jV (bq F F aS ?_) ?_;focus omega) | refine jV (ah F F oM) ?_ | refine ad F F F cx_st F ?_) | refine ae F (aC oM) ?_)
 rename_i x9
 refine aT (ι:=Nat × Bool) (fun q=>q.1 ≤ ms.length ∧ (q.2 = true ∨ ∀ j,j < q.1 → (ac ms j).1 ≠ (ac ns i).1)) (fun q=>[(3,Pt x3 0),(4,Pt x4 0),(8,I i),(9,Pt x9 0),(10,S x),(11,Bo true),(12,Bo q.2),(13,I (q.1 : Nat))]) (fun _=>G) (fun q=>[.blk x9 (.cells (List.toArray (eK (ac ns i))) xJ (0,0)),.blk x4 (.cells (List.toArray [S s2,.slice (some ⟨bb,ob,none⟩) ns.length cb]) qi (0,0)),.blk x3 (.cells (List.toArray [S s1,.slice a1 ms.length ca]) qi (0,0))]) (fun q=>ms.length - q.1) (0,false) ?_ tU F bd (fun q Hq=>?_)
 ·exact ⟨Nat.zero_le _,.inr fun j hj=>absurd hj (by dsimp only;omega)⟩
 obtain ⟨k,b⟩:=q
 dsimp only at Hq ⊢
 obtain ⟨hk0,hkb⟩:=Hq
 by_cases hk : k < ms.length
 case neg =>
  obtain rfl : b = true:=by
   rcases hkb with h | h
   ·exact h
   ·obtain ⟨j,hj,he⟩:=tV hsv hi
    exact absurd he (h j oM)
  repeat' (first | refine jM ?_ | (refine jo ?_;first | refine jV (ai F) ?_ | refine am F ?_) | (refine af F (by first | rfl | (refine decide_eq_false ?_;(omega))) ?_))
  refine Nx.re (d:=8) (v':=I (i + 1 : Nat)) F (congrArg (Value.int .i64) oM) ?_
  exact aW (i + 1) oM oM tU F sB
 obtain ⟨bm,om,cm,e,sm⟩:=hsl1.expl oM
 simp only [Value.slice.injEq] at e
 obtain ⟨rfl,-,rfl⟩:=e
 have hxm:=hms _ (a6 hk)
 by_cases he : (ac ms k).1 = (ac ns i).1
 ·have hr:=ri hsv hi hk he
  have cx_el:=nM (G:=G) (s:=s1) (k:=(ac ms k).2.1) (r:=s2) (l:=(ac ns i).2.1) (x:=x) z1 hxm.2.1 z3 hxo.2.1 hx
  rw [if_pos hr] at cx_el
  unfold xm at cx_el
  simp only [Option.getD_some,Option.isSome_some] at cx_el
  repeat' (first | refine jM ?_ | (refine jo ?_;first | refine jV (ai F) ?_ | refine jL fun _=>?_ | refine jC F F F ?_ | refine am F ?_ | (refine jV (bq F F aS ?_) ?_;focus omega) | refine aV F ?_ | refine jV (ah F F oM) ?_ | refine ad F F F cx_el F ?_) | refine aU F F F ?_ | (refine ae F (by refine decide_eq_true ?_;first | assumption | omega) ?_))
  refine Nx.re (d:=13) (v':=I (k + 1 : Nat)) F (congrArg (Value.int .i64) oM) ?_
  exact aW (k + 1,true) ⟨by dsimp only;omega,.inl rfl⟩ (by dsimp only;omega) tU rfl sB
 ·repeat' (first | refine jM ?_ | (refine jo ?_;first | refine jV (ai F) ?_ | refine jL fun _=>?_ | refine jC F F F ?_ | refine am F ?_ | (refine jV (bq F F aS ?_) ?_;focus omega) | refine jV (ah F F oM) ?_) | refine ae F (aC oM) ?_ | refine af F (aF ‹_›) ?_)
  refine Nx.re (d:=13) (v':=I (k + 1 : Nat)) F (congrArg (Value.int .i64) oM) ?_
  exact aW (k + 1,b) ⟨by dsimp only;omega,by
   rcases hkb with h | h
   ·exact .inl h
   ·refine .inr fun j hj=>?_
    dsimp only at hj
    rcases Nat.lt_or_ge j k with h3 | h3
    ·exact h j h3
    ·have : j = k:=oM
     subst this;exact he⟩ (by dsimp only;omega) tU rfl sB
end Go.E
