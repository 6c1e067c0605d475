/- Contracts and plain laws that the statement rests on, part 5. Conditions: as each says. -/
import Derived.Test.YtlkjjgmfhafnaabGreatDoorT4
set_option linter.unusedVariables false
set_option linter.unusedSimpArgs false
namespace Go.E
set_option maxRecDepth 20000
set_option maxHeartbeats 2000000
open Go.Proofs
variable {G : Gh}
abbrev tKd : TypeId:=77
theorem sI {k : abu} (hr : bc (aG k) = none) : bs k = aG k:=by
 unfold bs
 cases hc : aG k with
 | nil=>rfl
 | cons c r =>
  rw [hc] at hr
  have h64 : ¬ c.toNat = 64:=by intro h64;simp [bc,h64] at hr
  simp [mR,h64]
theorem rQ {ts : List Ty} {k : abu} {t : Ty} (h : aL ts (aG k) = some t) : dK ts (nm k) = some t:=by
 unfold aL at h
 unfold nm
 cases hc : bc (aG k) with
 | none=>rw [hc] at h;cases h
 | some x=>rw [hc] at h;exact h
theorem qI {qs : List b8} {x : abu} {t : Ty} (h : dK (ag qs) x = some t) : ∃ p,(p,t) ∈ qs ∧ kl (fQ qs) x = some (Pt p 0):=by
 have hkv:=d4 qs x
 rw [← fq] at h
 rcases hq : dU qs x with _ | ⟨p,t'⟩
 ·rw [hq] at h;cases h
 ·rw [hq] at h hkv
  obtain rfl:=Option.some.inj h
  exact ⟨p,fu hq,hkv⟩
theorem q7 {eb mb ba bb : Nat} {qs rs : List b8} (hE : bN G eb 0 [Pt ba 0,Pt bb 0,.map (some mb)]) (h1 : ScI G ba qs) (h2 : ScI G bb rs) (w1 : SchW (ag qs)) (w2 : SchW (ag rs)) : ∀ n,vr G eb mb (ag qs) (ag rs) n:=by
 intro n
 induction n with
 | zero=>intro k1 k2 m hm hf;have:=hm.len;omega
 | succ n ih =>
  intro k1 k2 m hm hf hk1 hk2
  obtain ⟨ua,ma,ga1,ga2,ga3⟩:=h1.at'
  obtain ⟨ub,mb2,gb1,gb2,gb3⟩:=h2.at'
  have at1:=gB (cU hk1)
  have at2:=gB (cU hk2)
  unfold dw
  by_cases hs : sg k1 = sg k2
  case neg =>
   rw [if_pos hs]
   refine jH [(0,_),(1,_),(2,_)] Tryz.func118 Tryz.ntmps118 fun B hB hW=>?_
   repeat' (first | refine jR ?_ | (refine jo ?_;first | refine jO fun _=>?_ | refine ah F ?_ | refine aP F ?_) | refine aO F F (aC ‹_›) ?_ | refine ae F F ?_)
   all_goals exact aN (vs:=[_]) (L':=[.blk mb (cl m)]) F ⟨F,trivial⟩ F sB ⟨F,F,F⟩
  rw [if_neg (by simp [hs])]
  have hs2 : ¬ sg k1 ≠ sg k2:=fun h=>h hs
  have hno : ∀ {k : abu} {ts : List Ty},aJ ts k = true → aL ts (aG k) = none → bs k = aG k ∧ ¬ bs k = [64]:=fun hk hr=>by
   have hn:=g8 hk hr
   refine ⟨sI hn,fun e=>?_⟩
   have:=(gB (cU hk)).1 e
   rw [hn] at this;cases this
  cases r1 : aL (ag qs) (aG k1) with
  | none =>
   obtain ⟨e1,e3⟩:=hno hk1 r1
   dsimp only
   by_cases hcc : aG k1 = aG k2
   ·have hn1:=g8 hk1 r1
    have e2 : bs k2 = aG k2:=sI (by rw [← hcc];exact hn1)
    have hbb : ¬ bs k1 ≠ bs k2:=fun h=>h (by rw [e1,e2,hcc])
    have hbb2 : bs k1 = bs k2:=by rw [e1,e2,hcc]
    rw [decide_eq_true hcc]
    clear e1 e2
    refine jH [(0,_),(1,_),(2,_)] Tryz.func118 Tryz.ntmps118 fun B hB hW=>?_
    repeat' (first | refine jR ?_ | (refine jo ?_;first | refine jO fun _=>?_ | refine ah F ?_ | refine aH F ?_) | refine aD F F (aF ‹_›) ?_ | refine af F (aF ‹_›) ?_ | (refine ak (ar (id:=3) _ (fun _ h=>h) aj ?_);refine jT 27 [0] (aa 28 1) ?_;(refine jG (aa 28 3) 1 F (an F F F) ?_);refine jT 24 [2,3] (aa 28 15) ?_;(try (refine Nx.re (d:=22) (v':=Bo true) F (congrArg Value.bool (aC ‹_›)) ?_));refine jT 15 [4,5,6,7,12,15,16,17,22] (aa 28 4428031) ?_;(refine jN (aa 28 4428287) 8 F ?_);refine jT 12 [9,10] (aa 28 4429823) ?_;(refine jN (aa 28 4431871) 11 F ?_);(refine jN (aa 28 4440063) 13 F ?_);(refine jN (aa 28 4456447) 14 F ?_);(refine jN (aa 28 4718591) 18 F ?_);refine jT 6 [19,20] (aa 28 6291455) ?_;(refine jN (aa 28 8388607) 21 F ?_);(refine jN (aa 28 16777215) 23 F ?_);(refine jN (aa 28 33554431) 24 F ?_);(refine jN (aa 28 67108863) 25 F ?_);(refine jG (aa 28 134217727) 26 F (bU F F F) ?_);refine jT 0 [27] (aa 28 268435455) ?_;refine jQ ?_))
    all_goals exact aN (vs:=[_]) (L':=[.blk mb (cl m)]) F ⟨F,trivial⟩ F sB ⟨F,F,F⟩
   ·have hbb : bs k1 ≠ bs k2:=fun h=>by
     cases r2 : aL (ag rs) (aG k2) with
     | none=>have e4:=(hno hk2 r2).1;rw [e1,e4] at h;exact hcc h
     | some u=>rw [at2.2 (ff r2)] at h;exact e3 h
    rw [decide_eq_false hcc]
    clear e1
    refine jH [(0,_),(1,_),(2,_)] Tryz.func118 Tryz.ntmps118 fun B hB hW=>?_
    repeat' (first | refine jR ?_ | (refine jo ?_;first | refine jO fun _=>?_ | refine ah F ?_ | refine aH F ?_) | refine aD F F (aF ‹_›) ?_ | refine ae F (aC ‹_›) ?_)
    all_goals exact aN (vs:=[_]) (L':=[.blk mb (cl m)]) F ⟨F,trivial⟩ F sB ⟨F,F,F⟩
  | some t =>
   have b1 : bs k1 = [64]:=at1.2 (ff r1)
   cases r2 : aL (ag rs) (aG k2) with
   | none =>
    obtain ⟨e1,e3⟩:=hno hk2 r2
    have hbb : bs k1 ≠ bs k2:=fun h=>e3 (by rw [← h,b1])
    have hcc : ¬ aG k1 = aG k2:=fun e=>by have:=ff r1;rw [e,g8 hk2 r2] at this;cases this
    dsimp only
    rw [decide_eq_false hcc]
    clear e1 e3 b1
    refine jH [(0,_),(1,_),(2,_)] Tryz.func118 Tryz.ntmps118 fun B hB hW=>?_
    repeat' (first | refine jR ?_ | (refine jo ?_;first | refine jO fun _=>?_ | refine ah F ?_ | refine aH F ?_) | refine aD F F (aF ‹_›) ?_ | refine ae F (aC ‹_›) ?_)
    all_goals exact aN (vs:=[_]) (L':=[.blk mb (cl m)]) F ⟨F,trivial⟩ F sB ⟨F,F,F⟩
   | some u =>
    have b2 : bs k2 = [64]:=at2.2 (ff r2)
    obtain ⟨p1,hq1,kv1⟩:=qI (rQ r1)
    obtain ⟨p2,hq2,kv2⟩:=qI (rQ r2)
    dsimp only
    have cx_t0:=v3 hE h1 h2 w1 w2 ih hq1 hq2 hm hf
    generalize iL (ag qs) (ag rs) (dw (ag qs) (ag rs) n) t u m = r at cx_t0
    have cx_ts : b6 abt 158 [Pt eb 0,Pt p1 0,Pt p2 0] G [.blk mb (cl m)] (fun v L'=>v = Bo r.1 ∧ L' = [.blk mb (cl r.2)]):=cx_t0
    rw [b1,b2]
    refine jH [(0,_),(1,_),(2,_)] Tryz.func118 Tryz.ntmps118 fun B hB hW=>?_
    repeat' (first | refine jR ?_ | (refine jo ?_;first | refine jO fun _=>?_ | refine ah F ?_ | refine aH F ?_) | refine aD F F (aF ‹_›) ?_ | refine af F F ?_)
    rename_i x4 x5
    (refine ak (ar (id:=3) [.blk x5 (.cells (List.toArray [S (sg k2),S [64],S (nm k2)]) tKd (0,0)),.blk x4 (.cells (List.toArray [S (sg k1),S [64],S (nm k1)]) tKd (0,0))] (by intro y hy;simp only [List.mem_cons,List.not_mem_nil,or_false] at hy ⊢;rcases hy with hy | hy <;> simp [hy]) aj ?_);refine jW 27 [0] (aa 28 1) ?_;(refine jG (aa 28 3) 1 F (an F F F) ?_);refine jW 24 [2,3] (aa 28 15) ?_;(try (refine Nx.re (d:=22) (v':=Bo false) F (congrArg Value.bool F) ?_));refine jW 15 [4,5,6,7,12,15,16,17,22] (aa 28 4428031) ?_;(refine jG (aa 28 4428287) 8 F (ay F F aS F F) ?_);refine jW 12 [9,10] (aa 28 4429823) ?_;(refine jG (aa 28 4431871) 11 F (ay F F aS F F) ?_);(refine jG (aa 28 4440063) 13 F (an F F F) ?_);((refine jG (aa 28 4456447) 14 F (bG F F (c9 aS) aS F) ?_));(refine jG (aa 28 4718591) 18 F (ay F F aS F F) ?_);refine jW 6 [19,20] (aa 28 6291455) ?_;(refine jG (aa 28 8388607) 21 F (ay F F aS F F) ?_);(refine jG (aa 28 16777215) 23 F (an F F F) ?_);((refine jG (aa 28 33554431) 24 F (bG F F (c9 aS) aS F) ?_));(refine jA 25 F ?_;(refine iR F F F cx_ts F ?_;rintro _ _ ⟨rfl,rfl⟩;dsimp only [zA,fA]);refine jS (aa 28 67108863) ?_);(refine jG (aa 28 134217727) 26 F (aW F F F) ?_);refine jT 0 [27] (aa 28 268435455) ?_;refine jQ ?_)
    repeat' (refine jR ?_)
    all_goals exact aN (vs:=[_]) (L':=[.blk mb (cl r.2)]) F ⟨F,trivial⟩ F sB ⟨F,F,F⟩
theorem Nx.addNilP {n : Nat} {D : List Deferred} {E : bd} {B : Base} {L : List Own} {K : Act → World → Prop} (h : Nx n D E B G (.acc aA dY 2 ([] : List Pr).length (ao ew []) :: L) K) : Nx n D E B G L K:=Nx.mk fun a w hs hw=>h.go a w hs (hw.addNil dY 2)
theorem fG {s k r l : abu} (h : a9 s k = false ∨ a9 r l = false) : bY s k r l = false:=by
 unfold bY
 unfold a9 at h
 cases h1 : ax s with
 | none=>rfl
 | some ts =>
  cases h2 : ax r with
  | none=>rfl
  | some us =>
   rw [h1,h2] at h
   dsimp only at h ⊢
   rcases h with h | h <;> rw [h] <;> simp
theorem fF {s k : abu} (h : a9 s k = true) : ∃ ts,ax s = some ts ∧ aJ ts k = true ∧ SchW ts:=by
 unfold a9 at h
 cases h1 : ax s with
 | none=>rw [h1] at h;cases h
 | some ts=>rw [h1] at h;exact ⟨ts,F,h,co h1⟩
theorem j0 {s k r l : abu} {ts us : List Ty} (h1 : ax s = some ts) (h2 : ax r = some us) (k1 : aJ ts k = true) (k2 : aJ us l = true) : bY s k r l = (dw ts us (ts.length * us.length + 1) k l []).1:=by
 unfold bY;rw [h1,h2];dsimp only;rw [k1,k2];rfl
theorem v6 {s k r l : abu} (hs : s.length ≤ 1048576) (hk : k.length ≤ 1048576) (hr : r.length ≤ 1048576) (hl : l.length ≤ 1048576) :
  ci abt 86 [S s,S k,S r,S l] G (fun v _=>∃ a b,v = Tu [a,b,Bo (bY s k r l)]):=by
 have k0 : ∀ {s k : abu},s.length ≤ 1048576 → k.length ≤ 1048576 → ∀ G,ci abt 62 [S s,S k] G (fun v _=>∃ u,v = Tu [u,Bo (a9 s k)]):=fun hs hk G=>by
  refine (iS (G:=G) oM oM).mono ?_
  rintro v G' L' ⟨h1,h2,u,vs,rfl,_⟩
  exact ⟨h1,h2,u,F⟩
 cases e1 : a9 s k with
 | false =>
  have cx_lk1:=k0 hs hk
  have cx_lk2:=k0 hr hl
  rw [e1] at cx_lk1
  rw [fG (.inl e1)]
  refine jB [(0,_),(1,_),(2,_),(3,_)] Tryz.func86 Tryz.ntmps86 fun B hok hB hW=>?_
  repeat' (first | refine jR ?_ | (refine jo ?_;first | refine aP F ?_ | (refine aM F F F (cx_lk1 _) F ?_;rintro _ G hle ⟨u1,rfl⟩;((try have hR1:=SchR.mono hR1 hle);(try have hR1:=ScI.mono hR1 hle))) | (refine aM F F F (cx_lk2 _) F ?_;rintro _ G hle ⟨u2,rfl⟩;((try have hR1:=SchR.mono hR1 hle);(try have hR1:=ScI.mono hR1 hle)))) | refine aO F F F ?_ | refine ae F F ?_)
  all_goals refine jZ (vs:=[_,_,_]) F ⟨F,F,F,trivial⟩ F ⟨(Gh.le.trans aS hle),F,?_⟩
  all_goals exact ⟨_,_,F⟩
 | true =>
  cases e2 : a9 r l with
  | false =>
   have cx_lk1:=k0 hs hk
   have cx_lk2:=k0 hr hl
   rw [e1] at cx_lk1
   rw [e2] at cx_lk2
   rw [fG (.inr e2)]
   refine jB [(0,_),(1,_),(2,_),(3,_)] Tryz.func86 Tryz.ntmps86 fun B hok hB hW=>?_
   repeat' (first | refine jR ?_ | (refine jo ?_;first | refine aH F ?_ | (refine aM F F F (cx_lk1 _) F ?_;rintro _ G hle ⟨u1,rfl⟩;((try have hR1:=SchR.mono hR1 hle);(try have hR1:=ScI.mono hR1 hle))) | (refine aM F F F (cx_lk2 _) F ?_;rintro _ G hle ⟨u2,rfl⟩;((try have hR1:=SchR.mono hR1 hle);(try have hR1:=ScI.mono hR1 hle)))) | refine aD F F F ?_ | refine ae F F ?_)
   all_goals refine jZ (vs:=[_,_,_]) F ⟨F,F,F,trivial⟩ F ⟨(Gh.le.trans aS hle),F,?_⟩
   all_goals exact ⟨_,_,F⟩
  | true =>
   obtain ⟨ts,t1,t2,t3⟩:=fF e1
   obtain ⟨us,u1,u2,u3⟩:=fF e2
   have k1 : ∀ {s k : abu} {ts : List Ty},s.length ≤ 1048576 → k.length ≤ 1048576 → ax s = some ts → aJ ts k = true → a9 s k = true → ∀ G,ci abt 62 [S s,S k] G (fun v G'=>∃ a c vs,v = Tu [.slice a (vs : List cW).length c,Bo true] ∧ SchR G' (.slice a (vs : List cW).length c) vs ∧ aQ vs = ts):=fun hs hk h1 h2 h3 G=>by
    refine (iS (G:=G) oM oM).mono ?_
    rintro v G' L' ⟨g1,g2,u,vs,rfl,g3,_,g4⟩
    obtain ⟨a,c,rfl⟩:=g3.sl.sl
    exact ⟨g1,g2,a,c,vs,by rw [h3],g3,g4 _ h1 h2⟩
   have cx_lka:=k1 hs hk t1 t2 e1
   have cx_lkb:=k1 hr hl u1 u2 e2
   rw [j0 t1 u1 t2 u2]
   refine jB [(0,_),(1,_),(2,_),(3,_)] Tryz.func86 Tryz.ntmps86 fun B hok hB hW=>?_
   repeat' (first | refine jR ?_ | (refine jo ?_;first | refine aH F ?_ | refine jV (am F F) ?_ | refine jO fun _=>?_ | (refine aM F F F (cx_lka _) F ?_;rintro _ G hle ⟨av1,cv1,vs1,rfl,hR1,hT1⟩;((try have hR1:=SchR.mono hR1 hle);(try have hR1:=ScI.mono hR1 hle))) | (refine aM F F F (cx_lkb _) F ?_;rintro _ G hle ⟨av2,cv2,vs2,rfl,hR2,hT2⟩;((try have hR1:=SchR.mono hR1 hle);(try have hR1:=ScI.mono hR1 hle)))) | refine aD F F F ?_ | refine af F F ?_)
   rename_i ab
   subst hT1
   subst hT2
   have cx_k0:=wb (ab:=ab) hR1 hR2 t3 u3 ((aQ vs1).length * (aQ vs2).length + 1) k l [] aA AskW.nil (by simp) t2 u2
   generalize dw (aQ vs1) (aQ vs2) ((aQ vs1).length * (aQ vs2).length + 1) k l [] = q at cx_k0 ⊢
   have cx_ks : b6 abt 119 [Pt ab 0,S k,S l] G [.blk ab (.cells (List.toArray [.slice av1 vs1.length cv1,.slice av2 vs2.length cv2,aA]) dM (0,0)),.acc aA dY 2 ([] : List Pr).length (ao ew [])] (fun v L'=>∃ v',v = Bo q.1 ∧ L' = [.blk ab (.cells (List.toArray [.slice av1 vs1.length cv1,.slice av2 vs2.length cv2,v']) dM (0,0)),.acc v' dY 2 q.2.length (ao ew q.2)]):=cx_k0
   refine Nx.addNilP ?_
   repeat' (first | refine jR ?_ | (refine jo ?_;(refine fI F F F cx_ks F ?_;rintro _ _ ⟨v2,rfl,rfl⟩;dsimp only [zA,fA])))
   all_goals refine jZ (vs:=[_,_,_]) F ⟨F,F,F,trivial⟩ F ⟨(Gh.le.trans aS hle),F,?_⟩
   all_goals exact ⟨_,_,F⟩
theorem ku {s k r l : abu} (hs : s.length ≤ 1048576) (hk : k.length ≤ 1048576) (hr : r.length ≤ 1048576) (hl : l.length ≤ 1048576) :
  aI abt 51 [S s,S k,S r,S l] G (· = Bo (bY s k r l)):=by
 have cx_l8:=fun G=>v6 (G:=G) hs hk hr hl
 refine jB (Post:=fun v G' L'=>G' = G ∧ L' = [] ∧ _) [(0,_),(1,_),(2,_),(3,_)] Tryz.func51 Tryz.ntmps51 fun B hok hB hW=>?_
 repeat' (first | refine jR ?_ | (refine jo ?_;(refine aM F F F (cx_l8 _) F ?_;rintro _ G hle ⟨x1,x2,rfl⟩;((try have hR1:=SchR.mono hR1 hle);(try have hR1:=ScI.mono hR1 hle)))))
 all_goals refine Nx.base hok hB ?_
 all_goals refine jY (vs:=[_]) ?_
 all_goals rfl
abbrev tKv : TypeId:=77
theorem rf {s k r l : abu} (hs : s.length ≤ 1048576) (hk : k.length ≤ 1048576) (hr : r.length ≤ 1048576) (hl : l.length ≤ 1048576) :
  ci abt 85 [S s,S k,S r,S l] G (fun v _=>∃ p a1 b1 c1 a2 b2 c2,v = Tu [p,Ag [S a1,S b1,S c1],Ag [S a2,S b2,S c2],Bo (bY s k r l)]):=by
 have k0 : ∀ {s k : abu},s.length ≤ 1048576 → k.length ≤ 1048576 → ∀ G,ci abt 52 [S s,S k] G (fun v _=>∃ p a' b c,v = Tu [p,Ag [S a',S b,S c],Bo (a9 s k)]):=fun hs hk G=>by
  refine (eP (G:=G) oM oM).mono ?_
  rintro v G' L' ⟨h1,h2,⟨h3,p,a',b,c,rfl⟩ | ⟨b,qs,rfl,h3,h4,_⟩⟩
  ·exact ⟨h1,h2,p,a',b,c,by rw [h3]⟩
  ·exact ⟨h1,h2,_,_,_,_,by unfold a9;rw [h3];dsimp only;rw [h4];rfl⟩
 cases e1 : a9 s k with
 | false =>
  have cx_bo1:=k0 hs hk
  have cx_bo2:=k0 hr hl
  rw [e1] at cx_bo1
  rw [fG (.inl e1)]
  refine jB [(0,_),(1,_),(2,_),(3,_)] Tryz.func85 Tryz.ntmps85 fun B hok hB hW=>?_
  repeat' (first | refine jR ?_ | (refine jo ?_;first | refine jL fun _=>?_ | refine jC F F F ?_ | refine aP F ?_ | refine jV (am F F) ?_ | (refine aM F F F (cx_bo1 _) F ?_;rintro _ G hle ⟨p1,a1,b1,c1,rfl⟩;((try have hR1:=SchR.mono hR1 hle);(try have hR1:=ScI.mono hR1 hle))) | (refine aM F F F (cx_bo2 _) F ?_;rintro _ G hle ⟨p2,a2,b2,c2,rfl⟩;((try have hR1:=SchR.mono hR1 hle);(try have hR1:=ScI.mono hR1 hle)))) | refine aO F F F ?_ | refine ae F F ?_)
  all_goals refine jZ (vs:=[_,_,_,_]) F ⟨F,aw F F F F,aw F F F F,F,trivial⟩ F ⟨(Gh.le.trans aS hle),F,?_⟩
  all_goals exact ⟨_,_,_,_,_,_,_,F⟩
 | true =>
  cases e2 : a9 r l with
  | false =>
   have cx_bo1:=k0 hs hk
   have cx_bo2:=k0 hr hl
   rw [e1] at cx_bo1
   rw [e2] at cx_bo2
   rw [fG (.inr e2)]
   refine jB [(0,_),(1,_),(2,_),(3,_)] Tryz.func85 Tryz.ntmps85 fun B hok hB hW=>?_
   repeat' (first | refine jR ?_ | (refine jo ?_;first | refine jL fun _=>?_ | refine jC F F F ?_ | refine aH F ?_ | refine jV (am F F) ?_ | (refine aM F F F (cx_bo1 _) F ?_;rintro _ G hle ⟨p1,a1,b1,c1,rfl⟩;((try have hR1:=SchR.mono hR1 hle);(try have hR1:=ScI.mono hR1 hle))) | (refine aM F F F (cx_bo2 _) F ?_;rintro _ G hle ⟨p2,a2,b2,c2,rfl⟩;((try have hR1:=SchR.mono hR1 hle);(try have hR1:=ScI.mono hR1 hle)))) | refine aD F F F ?_ | refine ae F F ?_)
   all_goals refine jZ (vs:=[_,_,_,_]) F ⟨F,aw F F F F,aw F F F F,F,trivial⟩ F ⟨(Gh.le.trans aS hle),F,?_⟩
   all_goals exact ⟨_,_,_,_,_,_,_,F⟩
  | true =>
   obtain ⟨ts,t1,t2,t3⟩:=fF e1
   obtain ⟨us,u1,u2,u3⟩:=fF e2
   have k1 : ∀ {s k : abu} {ts : List Ty},s.length ≤ 1048576 → k.length ≤ 1048576 → ax s = some ts → a9 s k = true → ∀ G,ci abt 52 [S s,S k] G (fun v G'=>∃ b qs,v = Tu [Pt b 0,Ag [S (sg k),S (bs k),S (nm k)],Bo true] ∧ ag qs = ts ∧ ScI G' b qs):=fun hs hk h1 h3 G=>by
    refine (eP (G:=G) oM oM).mono ?_
    rintro v G' L' ⟨g1,g2,⟨g3,_⟩ | ⟨b,qs,rfl,g4,g5,g6⟩⟩
    ·rw [h3] at g3;cases g3
    ·rw [h1] at g4;exact ⟨g1,g2,b,qs,F,(Option.some.inj g4).symm,g6⟩
   have cx_boa:=k1 hs hk t1 e1
   have cx_bob:=k1 hr hl u1 e2
   rw [j0 t1 u1 t2 u2]
   refine jB [(0,_),(1,_),(2,_),(3,_)] Tryz.func85 Tryz.ntmps85 fun B hok hB hW=>?_
   repeat' (first | refine jR ?_ | (refine jo ?_;first | refine jL fun _=>?_ | refine jC F F F ?_ | refine aH F ?_ | refine jV (am F F) ?_ | refine wP F fun _=>?_ | refine jO fun _=>?_ | (refine aM F F F (cx_boa _) F ?_;rintro _ G hle ⟨ba,qa,rfl,hT1,hR1⟩;((try have hR1:=SchR.mono hR1 hle);(try have hR1:=ScI.mono hR1 hle))) | (refine aM F F F (cx_bob _) F ?_;rintro _ G hle ⟨bb,qb,rfl,hT2,hR2⟩;((try have hR1:=SchR.mono hR1 hle);(try have hR1:=ScI.mono hR1 hle)))) | refine aD F F F ?_ | refine af F F ?_)
   rename_i x9 x10 G1 hle1 hR0 x13 x16 mb eb
   refine Nx.sealC (b:=eb) fun G2 hle2 hE=>?_
   subst hT1
   subst hT2
   have cx_k0:=q7 (mb:=mb) hE (hR1.mono hle2) (hR2.mono hle2) t3 u3 ((ag qa).length * (ag qb).length + 1) k l [] AskW.nil (by simp) t2 u2
   generalize dw (ag qa) (ag qb) ((ag qa).length * (ag qb).length + 1) k l [] = q at cx_k0 ⊢
   have cx_ks : b6 abt 118 [Pt eb 0,Ag [S (sg k),S (bs k),S (nm k)],Ag [S (sg l),S (bs l),S (nm l)]] G2 [.blk mb (cl [])] (fun v L'=>v = Bo q.1 ∧ L' = [.blk mb (cl q.2)]):=cx_k0
   (refine ak (ar (id:=6) [.blk x16 (.cells (List.toArray [S (sg l),S (bs l),S (nm l)]) tKv (0,0)),.blk x13 (.cells (List.toArray [S (sg k),S (bs k),S (nm k)]) tKv (0,0))] (by intro y hy;simp only [List.mem_cons,List.not_mem_nil,or_false] at hy ⊢;rcases hy with hy | hy <;> simp [hy]) aj ?_);refine jW 9 [0,3] (aa 11 9) ?_;(refine jG (aa 11 11) 1 F (bC F F F F) ?_);(refine jG (aa 11 15) 2 F (bC F F F F) ?_);(refine jG (aa 11 31) 4 F (bC F F F F) ?_);(refine jG (aa 11 63) 5 F (bC F F F F) ?_);refine jA 6 F ?_;(refine iR F F F cx_ks F ?_;rintro _ _ ⟨rfl,rfl⟩;dsimp only [zA,fA]);refine jK (aa 11 127) ?_;refine jW 3 [7] (aa 11 255) ?_;refine jA 8 F ?_;(refine jC F F F ?_);refine jK (aa 11 511) ?_;refine jA 9 F ?_;(refine jC F F F ?_);refine jK (aa 11 1023) ?_;refine jW 0 [10] (aa 11 2047) ?_;refine jQ ?_)
   repeat' (refine jR ?_)
   all_goals refine jZ (vs:=[_,_,_,_]) F ⟨F,aw F F F F,aw F F F F,F,trivial⟩ F ⟨((Gh.le.trans hle1 hle).trans hle2),F,?_⟩
   all_goals exact ⟨_,_,_,_,_,_,_,F⟩
theorem kv {s k r l : abu} (hs : s.length ≤ 1048576) (hk : k.length ≤ 1048576) (hr : r.length ≤ 1048576) (hl : l.length ≤ 1048576) :
  aI abt 50 [S s,S k,S r,S l] G (· = Bo (bY s k r l)):=by
 have cx_ev:=fun G=>rf (G:=G) hs hk hr hl
 refine jB (Post:=fun v G' L'=>G' = G ∧ L' = [] ∧ _) [(0,_),(1,_),(2,_),(3,_)] Tryz.func50 Tryz.ntmps50 fun B hok hB hW=>?_
 repeat' (first | refine jR ?_ | (refine jo ?_;first | refine jL fun _=>?_ | refine jC F F F ?_ | (refine aM F F F (cx_ev _) F ?_;rintro _ G hle ⟨x1,y1,y2,y3,y4,y5,y6,rfl⟩;((try have hR1:=SchR.mono hR1 hle);(try have hR1:=ScI.mono hR1 hle)))))
 all_goals refine Nx.base hok hB ?_
 all_goals refine jY (vs:=[_]) ?_
 all_goals rfl
abbrev Mt:=abu × abu × abu
def f6 (m : Mt) : List Value:=[S m.1,S m.2.1,S m.2.2]
instance : RowF f6 3:=⟨fun _=>rfl⟩
abbrev kx (m : Mt) : Prop:=m.1.length ≤ 1048576 ∧ m.2.1.length ≤ 1048576 ∧ m.2.2.length ≤ 1048576
def lI (ss : abu) (m : Mt) : Bool:=a9 ss m.2.1 && a9 ss m.2.2 && bQ m.1
def cP (s : abu) (a : List Mt) (i : Nat) : Bool:=lI s (ac a i) && (i == 0 || Op.bytesLess (ac a (i - 1)).1 (ac a i).1)
def cT (s : abu) (a : List Mt) : Bool:=(ax s).isSome && decide (a.length ≤ 6) && (List.range a.length).all (cP s a)
theorem nC {s : abu} {a : List Mt} {i : Nat} (hi : i < a.length) (h : cP s a i = false) : cT s a = false:=by
 unfold cT
 rw [Bool.and_eq_false_iff];right
 rw [List.all_eq_false]
 exact ⟨i,List.mem_range.2 hi,by rw [h];simp⟩
theorem rN {s : abu} {a : List Mt} (hs : (ax s).isSome = true) (h6 : a.length ≤ 6) (h : ∀ k,k < a.length → cP s a k = true) : cT s a = true:=by
 unfold cT
 rw [hs,decide_eq_true h6]
 simp only [Bool.true_and,List.all_eq_true,List.mem_range]
 exact h
abbrev tSv : TypeId:=25
theorem gy {s : abu} {u : Value} {a : List Mt} (h : s.length ≤ 1048576) (hu : bh G u 3 a.length (ao f6 a)) (hn : a.length ≤ 1048576) (ha : ∀ x ∈ a,kx x) :
  aI abt 37 [Ag [S s,u]] G (· = Bo (cT s a)):=by
 have hs : s.length ≤ 10000000:=oM
 refine jB (Post:=fun v G' L'=>G' = G ∧ L' = [] ∧ _) [(0,_)] Tryz.func37 Tryz.ntmps37 fun B hok hB hW=>?_
 repeat' (first | refine jR ?_ | (refine jo ?_;first | refine jO fun _=>?_ | refine ah F ?_ | refine jV (dc F aS) ?_ | refine aP F ?_ | refine aH F ?_ | refine ad F F F (mO ‹_›) F ?_) | refine kN F F (fun _=>?_) (fun _=>?_) | refine ae F F ?_ | refine cJ F (fun _=>?_) (fun _=>?_))
 ·rename_i h1
  refine Nx.base hok hB ?_
  refine jY (vs:=[_]) ?_
  have h2 : (ax s).isSome = false:=by simpa using h1
  unfold cT;rw [h2];rfl
 ·rename_i h1
  refine Nx.base hok hB ?_
  refine jY (vs:=[_]) ?_
  have h2 : decide (a.length ≤ 6) = false:=by simp;omega
  unfold cT;rw [h2];simp
 rename_i x h1 h2
 refine aU (ι:=Nat × Gh) (fun i=>(i.1 ≤ a.length ∧ Gh.le G i.2) ∧ ∀ k,k < i.1 → cP s a k = true) (fun i=>[(1,Pt x 0),(3,I i.1)]) (fun i=>i.2) (fun i=>[.blk x (.cells #[S s,u] tSv (0,0))]) (fun i=>a.length - i.1) (0,G) ?_ tU F a6 (fun i Hi=>?_)
 ·exact ⟨⟨Nat.zero_le _,Gh.le.refl _⟩,fun k hk=>absurd hk (by simp)⟩
 obtain ⟨i,G1⟩:=i
 dsimp only at Hi ⊢
 obtain ⟨⟨hi1,hg⟩,hgood⟩:=Hi
 by_cases hi : i < a.length
 ·obtain ⟨ba,oa,ca,rfl,sa⟩:=(hu.mono hg).expl oM
  have hx:=ha _ (a7 hi)
  cases e1 : a9 s (ac a i).2.1 <;> cases e2 : a9 s (ac a i).2.2 <;> cases e3 : bQ (ac a i).1
  all_goals
   have cx_lk1 : ∀ G,ci abt 62 [S s,S (ac a i).2.1] G (fun v _=>∃ u,v = Tu [u,Bo (a9 s (ac a i).2.1)]):=fun G=>by
    refine (iS (G:=G) hs oM).mono ?_
    rintro v G' L' ⟨h1,h2,u,vs,rfl,_⟩
    exact ⟨h1,h2,u,F⟩
   have cx_lk2 : ∀ G,ci abt 62 [S s,S (ac a i).2.2] G (fun v _=>∃ u,v = Tu [u,Bo (a9 s (ac a i).2.2)]):=fun G=>by
    refine (iS (G:=G) hs oM).mono ?_
    rintro v G' L' ⟨h1,h2,u,vs,rfl,_⟩
    exact ⟨h1,h2,u,F⟩
   have cx_nm2 : ∀ G,aI abt 70 [S (ac a i).1] G (· = Bo (bQ (ac a i).1)):=fun G=>eK oM
   rw [e1] at cx_lk1
   rw [e2] at cx_lk2
   rw [e3] at cx_nm2
  case true.true.true =>
   rcases i with _ | j
   ·repeat' (first | refine jM ?_ | (refine jo ?_;first | refine ah F ?_ | (refine jV (bz F F aS ?_) ?_;focus omega) | refine jV (aq F) ?_ | refine jV (al F F oM) ?_ | refine jL fun _=>?_ | refine jC F F F ?_ | (refine aM F F F (cx_lk1 _) F ?_;rintro _ G hle ⟨u1,rfl⟩;((try have sa:=bN.mono sa hle);(try have hg:=Gh.le.trans hg hle))) | (refine aM F F F (cx_lk2 _) F ?_;rintro _ G hle ⟨u2,rfl⟩;((try have sa:=bN.mono sa hle);(try have hg:=Gh.le.trans hg hle)))) | refine ae F (aC oM) ?_ | refine af F F ?_ | (refine ak (ar (id:=9) _ (fun _ h=>h) aj ?_);refine jT 25 [0,1,2] (aa 28 7) ?_;(try (refine Nx.re (d:=49) (v':=Bo false) F (congrArg Value.bool F) ?_));refine jT 23 [3,4] (aa 28 31) ?_;(refine jG (aa 28 63) 5 F (aW F F F) ?_);refine jT 21 [6] (aa 28 127) ?_;(try (refine Nx.re (d:=53) (v':=Bo false) F (congrArg Value.bool F) ?_));refine jT 20 [7] (aa 28 255) ?_;(refine jG (aa 28 511) 8 F (an F F F) ?_);(refine jA 9 F ?_;(refine ad F F F (cx_nm2 _) F ?_);refine jS (aa 28 1023) ?_);refine jT 17 [10] (aa 28 2047) ?_;(refine jG (aa 28 4095) 11 F (aW F F F) ?_);refine jT 15 [12] (aa 28 8191) ?_;(try (refine Nx.re (d:=59) (v':=Bo false) F (congrArg Value.bool F) ?_));refine jT 12 [13,14,15] (aa 28 65535) ?_;(try (refine Nx.re (d:=62) (v':=Bo false) F (congrArg Value.bool F) ?_));refine jT 8 [16,18,19,23] (aa 28 9306111) ?_;(refine jN (aa 28 9437183) 17 F ?_);(refine jN (aa 28 10485759) 20 F ?_);refine jT 5 [21] (aa 28 12582911) ?_;(refine jN (aa 28 16777215) 22 F ?_);(refine jN (aa 28 33554431) 24 F ?_);refine jT 2 [25] (aa 28 67108863) ?_;(refine jG (aa 28 134217727) 26 F (aW F F F) ?_);(refine jG (aa 28 268435455) 27 F (aW F F F) ?_);refine jQ ?_))
    refine aT (1,G) ⟨⟨by dsimp only;omega,hg⟩,fun k hk=>?_⟩ (by dsimp only;omega) tU rfl sB
    have : k = 0:=by dsimp only at hk;omega
    subst this
    simp [cP,lI,e1,e2,e3]
   ·have ej : ((((j + 1 : Nat) : Int) - 1).toNat) = j:=oM
    cases e5 : Op.bytesLess (ac a j).1 (ac a (j + 1)).1
    ·have hb : cP s a (j + 1) = false:=by simp [cP,e5]
     have e6 : Op.bytesLess (ac a (((j + 1 : Nat) : Int) - 1).toNat).1 (ac a (j + 1)).1 = false:=by rw [ej];exact e5
     repeat' (first | refine jR ?_ | (refine jo ?_;first | refine ah F ?_ | (refine jV (bz F F aS ?_) ?_;focus omega) | refine jV (aq F) ?_ | refine jV (al F F oM) ?_ | refine jL fun _=>?_ | refine jC F F F ?_ | (refine aM F F F (cx_lk1 _) F ?_;rintro _ G hle ⟨u1,rfl⟩;((try have sa:=bN.mono sa hle);(try have hg:=Gh.le.trans hg hle))) | (refine aM F F F (cx_lk2 _) F ?_;rintro _ G hle ⟨u2,rfl⟩;((try have sa:=bN.mono sa hle);(try have hg:=Gh.le.trans hg hle)))) | (refine ae F ?_ ?_;(focus ((first | (refine decide_eq_true ?_;(omega)) | (simp [*];done));done))) | (refine ak (ar (id:=9) _ (fun _ h=>h) aj ?_);refine jT 25 [0,1,2] (aa 28 7) ?_;(try (refine Nx.re (d:=49) (v':=Bo false) F (congrArg Value.bool F) ?_));refine jT 23 [3,4] (aa 28 31) ?_;(refine jG (aa 28 63) 5 F (aW F F F) ?_);refine jT 21 [6] (aa 28 127) ?_;(try (refine Nx.re (d:=53) (v':=Bo false) F (congrArg Value.bool F) ?_));refine jT 20 [7] (aa 28 255) ?_;(refine jG (aa 28 511) 8 F (an F F F) ?_);(refine jA 9 F ?_;(refine ad F F F (cx_nm2 _) F ?_);refine jS (aa 28 1023) ?_);refine jT 17 [10] (aa 28 2047) ?_;(refine jG (aa 28 4095) 11 F (aW F F F) ?_);refine jT 15 [12] (aa 28 8191) ?_;(try (refine Nx.re (d:=59) (v':=Bo false) F (congrArg Value.bool F) ?_));refine jT 12 [13,14,15] (aa 28 65535) ?_;(try ((refine Nx.re (d:=62) (v':=Bo true) F (congrArg Value.bool (aC oM)) ?_)));refine jW 8 [16,18,19,23] (aa 28 9306111) ?_;(refine jG (aa 28 9437183) 17 F (an F F F) ?_);(refine jG (aa 28 10485759) 20 F (aZ F F oM) ?_);refine jT 5 [21] (aa 28 12582911) ?_;((refine jG (aa 28 16777215) 22 F (bq F F aS ?_ F F) ?_;focus omega));(refine jG (aa 28 33554431) 24 F (an F F F) ?_);refine jT 2 [25] (aa 28 67108863) ?_;(refine jG (aa 28 134217727) 26 F (bU F F F) ?_);(refine jG (aa 28 268435455) 27 F (aW F F F) ?_);refine jQ ?_))
     all_goals refine Nx.base hok hB ?_
     all_goals refine jY (vs:=[_]) ?_
     all_goals rw [aE,nC hi hb]
    ·have hb : cP s a (j + 1) = true:=by simp [cP,lI,e1,e2,e3,e5]
     have e6 : Op.bytesLess (ac a (((j + 1 : Nat) : Int) - 1).toNat).1 (ac a (j + 1)).1 = true:=by rw [ej];exact e5
     repeat' (first | refine jM ?_ | (refine jo ?_;first | refine ah F ?_ | (refine jV (bz F F aS ?_) ?_;focus omega) | refine jV (aq F) ?_ | refine jV (al F F oM) ?_ | refine jL fun _=>?_ | refine jC F F F ?_ | (refine aM F F F (cx_lk1 _) F ?_;rintro _ G hle ⟨u1,rfl⟩;((try have sa:=bN.mono sa hle);(try have hg:=Gh.le.trans hg hle))) | (refine aM F F F (cx_lk2 _) F ?_;rintro _ G hle ⟨u2,rfl⟩;((try have sa:=bN.mono sa hle);(try have hg:=Gh.le.trans hg hle)))) | refine ae F (aC oM) ?_ | (refine af F ?_ ?_;(focus ((simp [*];done);done))) | (refine ak (ar (id:=9) _ (fun _ h=>h) aj ?_);refine jT 25 [0,1,2] (aa 28 7) ?_;(try (refine Nx.re (d:=49) (v':=Bo false) F (congrArg Value.bool F) ?_));refine jT 23 [3,4] (aa 28 31) ?_;(refine jG (aa 28 63) 5 F (aW F F F) ?_);refine jT 21 [6] (aa 28 127) ?_;(try (refine Nx.re (d:=53) (v':=Bo false) F (congrArg Value.bool F) ?_));refine jT 20 [7] (aa 28 255) ?_;(refine jG (aa 28 511) 8 F (an F F F) ?_);(refine jA 9 F ?_;(refine ad F F F (cx_nm2 _) F ?_);refine jS (aa 28 1023) ?_);refine jT 17 [10] (aa 28 2047) ?_;(refine jG (aa 28 4095) 11 F (aW F F F) ?_);refine jT 15 [12] (aa 28 8191) ?_;(try (refine Nx.re (d:=59) (v':=Bo false) F (congrArg Value.bool F) ?_));refine jT 12 [13,14,15] (aa 28 65535) ?_;(try ((refine Nx.re (d:=62) (v':=Bo true) F (congrArg Value.bool (aC oM)) ?_)));refine jW 8 [16,18,19,23] (aa 28 9306111) ?_;(refine jG (aa 28 9437183) 17 F (an F F F) ?_);(refine jG (aa 28 10485759) 20 F (aZ F F oM) ?_);refine jT 5 [21] (aa 28 12582911) ?_;((refine jG (aa 28 16777215) 22 F (bq F F aS ?_ F F) ?_;focus omega));(refine jG (aa 28 33554431) 24 F (an F F F) ?_);refine jT 2 [25] (aa 28 67108863) ?_;(refine jG (aa 28 134217727) 26 F (bU F F F) ?_);(refine jG (aa 28 268435455) 27 F (aW F F F) ?_);refine jQ ?_))
     all_goals
      refine aT (j + 1 + 1,G) ⟨⟨by dsimp only;omega,hg⟩,fun k hk=>?_⟩ (by dsimp only;omega) tU rfl sB
      rcases Nat.lt_or_ge k (j + 1) with h1 | h1
      ·exact hgood k h1
      ·have : k = j + 1:=by dsimp only at hk;omega
       subst this;exact hb
  all_goals
   have hb : cP s a i = false:=by simp [cP,lI,e1,e2,e3]
   repeat' (first | refine jR ?_ | (refine jo ?_;first | refine ah F ?_ | (refine jV (bz F F aS ?_) ?_;focus omega) | refine jV (aq F) ?_ | refine jV (al F F oM) ?_ | refine jL fun _=>?_ | refine jC F F F ?_ | (refine aM F F F (cx_lk1 _) F ?_;rintro _ G hle ⟨u1,rfl⟩;((try have sa:=bN.mono sa hle);(try have hg:=Gh.le.trans hg hle))) | (refine aM F F F (cx_lk2 _) F ?_;rintro _ G hle ⟨u2,rfl⟩;((try have sa:=bN.mono sa hle);(try have hg:=Gh.le.trans hg hle)))) | (refine ae F (by first | rfl | (refine decide_eq_true ?_;(omega))) ?_) | (refine ak (ar (id:=9) _ (fun _ h=>h) aj ?_);refine jT 25 [0,1,2] (aa 28 7) ?_;(try (first | refine Nx.re (d:=49) (v':=Bo true) F (congrArg Value.bool F) ?_ | refine Nx.re (d:=49) (v':=Bo false) F (congrArg Value.bool F) ?_));refine jT 23 [3,4] (aa 28 31) ?_;(first | refine jG (aa 28 63) 5 F (bU F F F) ?_ | refine jG (aa 28 63) 5 F (aW F F F) ?_);refine jT 21 [6] (aa 28 127) ?_;(try (first | refine Nx.re (d:=53) (v':=Bo true) F (congrArg Value.bool F) ?_ | refine Nx.re (d:=53) (v':=Bo false) F (congrArg Value.bool F) ?_));refine jT 20 [7] (aa 28 255) ?_;(first | refine jG (aa 28 511) 8 F (an F F F) ?_ | refine jN (aa 28 511) 8 F ?_);(first | refine jN (aa 28 1023) 9 F ?_ | (refine jA 9 F ?_;(refine ad F F F (cx_nm2 _) F ?_);refine jS (aa 28 1023) ?_));refine jT 17 [10] (aa 28 2047) ?_;(first | refine jG (aa 28 4095) 11 F (bU F F F) ?_ | refine jG (aa 28 4095) 11 F (aW F F F) ?_);refine jT 15 [12] (aa 28 8191) ?_;(try (refine Nx.re (d:=59) (v':=Bo true) F (congrArg Value.bool F) ?_));refine jT 12 [13,14,15] (aa 28 65535) ?_;(try (fail));refine jT 8 [16,18,19,23] (aa 28 9306111) ?_;(refine jN (aa 28 9437183) 17 F ?_);(refine jN (aa 28 10485759) 20 F ?_);refine jT 5 [21] (aa 28 12582911) ?_;(refine jN (aa 28 16777215) 22 F ?_);(refine jN (aa 28 33554431) 24 F ?_);refine jT 2 [25] (aa 28 67108863) ?_;(refine jN (aa 28 134217727) 26 F ?_);(refine jG (aa 28 268435455) 27 F (bU F F F) ?_);refine jQ ?_))
   refine Nx.base hok hB ?_
   refine jY (vs:=[_]) ?_
   rw [aE,nC hi hb]
 ·repeat' (first | refine jR ?_ | (refine jo ?_;first | refine ah F ?_ | refine jV (dc F aS) ?_) | refine af F (aF oM) ?_)
  refine Nx.base hok hB ?_
  refine jY (vs:=[_]) ?_
  rw [aE,rN (by simpa using h1) oM (fun k hk=>hgood k oM)]
abbrev aa5 : TypeId:=25
theorem gz {s : abu} {u : Value} {a : List Mt} (h : s.length ≤ 1048576) (hu : bh G u 3 a.length (ao f6 a)) (hn : a.length ≤ 1048576) (ha : ∀ x ∈ a,kx x) :
  aI abt 32 [Ag [S s,u]] G (· = Bo (cT s a)):=by
 have hs : s.length ≤ 10000000:=oM
 refine jB (Post:=fun v G' L'=>G' = G ∧ L' = [] ∧ _) [(0,_)] Tryz.func32 Tryz.ntmps32 fun B hok hB hW=>?_
 repeat' (first | refine jR ?_ | (refine jo ?_;first | refine jO fun _=>?_ | refine ah F ?_ | refine jV (dc F aS) ?_ | refine aP F ?_ | refine aH F ?_ | refine ad F F F (rE oM) F ?_) | refine kN F F (fun _=>?_) (fun _=>?_) | refine ae F F ?_ | refine cJ F (fun _=>?_) (fun _=>?_))
 ·rename_i h1
  refine Nx.base hok hB ?_
  refine jY (vs:=[_]) ?_
  have h2 : (ax s).isSome = false:=by simpa using h1
  unfold cT;rw [h2];rfl
 ·rename_i h1
  refine Nx.base hok hB ?_
  refine jY (vs:=[_]) ?_
  have h2 : decide (a.length ≤ 6) = false:=by simp;omega
  unfold cT;rw [h2];simp
 rename_i x h1 h2
 refine aU (ι:=Nat × Gh) (fun i=>(i.1 ≤ a.length ∧ Gh.le G i.2) ∧ ∀ k,k < i.1 → cP s a k = true) (fun i=>[(1,Pt x 0),(22,u),(23,I a.length),(24,I i.1)]) (fun i=>i.2) (fun i=>[.blk x (.cells #[S s,u] aa5 (0,0))]) (fun i=>a.length - i.1) (0,G) ?_ tU F a6 (fun i Hi=>?_)
 ·exact ⟨⟨Nat.zero_le _,Gh.le.refl _⟩,fun k hk=>absurd hk (by simp)⟩
 obtain ⟨i,G1⟩:=i
 dsimp only at Hi ⊢
 obtain ⟨⟨hi1,hg⟩,hgood⟩:=Hi
 by_cases hi : i < a.length
 ·obtain ⟨ba,oa,ca,rfl,sa⟩:=(hu.mono hg).expl oM
  have hx:=ha _ (a7 hi)
  cases e1 : a9 s (ac a i).2.1 <;> cases e2 : a9 s (ac a i).2.2 <;> cases e3 : bQ (ac a i).1
  all_goals
   have cx_bo1 : ∀ G,ci abt 52 [S s,S (ac a i).2.1] G (fun v _=>∃ p a' b c,v = Tu [p,Ag [S a',S b,S c],Bo (a9 s (ac a i).2.1)]):=fun G=>by
    refine (eP (G:=G) hs oM).mono ?_
    rintro v G' L' ⟨h1,h2,⟨h3,p,a',b,c,rfl⟩ | ⟨b,qs,rfl,h3,h4,_⟩⟩
    ·exact ⟨h1,h2,p,a',b,c,by rw [h3]⟩
    ·exact ⟨h1,h2,_,_,_,_,by unfold a9;rw [h3];dsimp only;rw [h4];rfl⟩
   have cx_bo2 : ∀ G,ci abt 52 [S s,S (ac a i).2.2] G (fun v _=>∃ p a' b c,v = Tu [p,Ag [S a',S b,S c],Bo (a9 s (ac a i).2.2)]):=fun G=>by
    refine (eP (G:=G) hs oM).mono ?_
    rintro v G' L' ⟨h1,h2,⟨h3,p,a',b,c,rfl⟩ | ⟨b,qs,rfl,h3,h4,_⟩⟩
    ·exact ⟨h1,h2,p,a',b,c,by rw [h3]⟩
    ·exact ⟨h1,h2,_,_,_,_,by unfold a9;rw [h3];dsimp only;rw [h4];rfl⟩
   have cx_nm2 : ∀ G,aI abt 66 [S (ac a i).1] G (· = Bo (bQ (ac a i).1)):=fun G=>cS oM
   rw [e1] at cx_bo1
   rw [e2] at cx_bo2
   rw [e3] at cx_nm2
  case true.true.true =>
   rcases i with _ | j
   ·repeat' (first | refine jM ?_ | (refine jo ?_;first | refine ah F ?_ | (refine jV (bz F F aS ?_) ?_;focus omega) | refine jV (al F F oM) ?_ | refine jL fun _=>?_ | refine jC F F F ?_ | (refine aM F F F (cx_bo1 _) F ?_;rintro _ G hle ⟨p1,a1,b1,c1,rfl⟩;((try have sa:=bN.mono sa hle);(try have hg:=Gh.le.trans hg hle))) | (refine aM F F F (cx_bo2 _) F ?_;rintro _ G hle ⟨p2,a2,b2,c2,rfl⟩;((try have sa:=bN.mono sa hle);(try have hg:=Gh.le.trans hg hle)))) | refine ae F (aC oM) ?_ | refine af F F ?_ | (refine ak (ar (id:=8) _ (fun _ h=>h) aj ?_);refine jT 25 [0,1,2] (aa 28 7) ?_;(try (refine Nx.re (d:=49) (v':=Bo false) F (congrArg Value.bool F) ?_));refine jT 23 [3,4] (aa 28 31) ?_;(refine jG (aa 28 63) 5 F (aW F F F) ?_);refine jT 21 [6] (aa 28 127) ?_;(try (refine Nx.re (d:=53) (v':=Bo false) F (congrArg Value.bool F) ?_));refine jT 20 [7] (aa 28 255) ?_;(refine jG (aa 28 511) 8 F (an F F F) ?_);(refine jA 9 F ?_;(refine ad F F F (cx_nm2 _) F ?_);refine jS (aa 28 1023) ?_);refine jT 17 [10] (aa 28 2047) ?_;(refine jG (aa 28 4095) 11 F (aW F F F) ?_);refine jT 15 [12] (aa 28 8191) ?_;(try (refine Nx.re (d:=59) (v':=Bo false) F (congrArg Value.bool F) ?_));refine jT 12 [13,14,15] (aa 28 65535) ?_;(try (refine Nx.re (d:=62) (v':=Bo false) F (congrArg Value.bool F) ?_));refine jT 8 [16,18,19,23] (aa 28 9306111) ?_;(refine jN (aa 28 9437183) 17 F ?_);(refine jN (aa 28 10485759) 20 F ?_);refine jT 5 [21] (aa 28 12582911) ?_;(refine jN (aa 28 16777215) 22 F ?_);(refine jN (aa 28 33554431) 24 F ?_);refine jT 2 [25] (aa 28 67108863) ?_;(refine jG (aa 28 134217727) 26 F (aW F F F) ?_);(refine jG (aa 28 268435455) 27 F (aW F F F) ?_);refine jQ ?_))
    refine aT (1,G) ⟨⟨by dsimp only;omega,hg⟩,fun k hk=>?_⟩ (by dsimp only;omega) tU rfl sB
    have : k = 0:=by dsimp only at hk;omega
    subst this
    simp [cP,lI,e1,e2,e3]
   ·have ej : ((((j + 1 : Nat) : Int) - 1).toNat) = j:=oM
    cases e5 : Op.bytesLess (ac a j).1 (ac a (j + 1)).1
    ·have hb : cP s a (j + 1) = false:=by simp [cP,e5]
     have e6 : Op.bytesLess (ac a (((j + 1 : Nat) : Int) - 1).toNat).1 (ac a (j + 1)).1 = false:=by rw [ej];exact e5
     repeat' (first | refine jR ?_ | (refine jo ?_;first | refine ah F ?_ | (refine jV (bz F F aS ?_) ?_;focus omega) | refine jV (al F F oM) ?_ | refine jL fun _=>?_ | refine jC F F F ?_ | (refine aM F F F (cx_bo1 _) F ?_;rintro _ G hle ⟨p1,a1,b1,c1,rfl⟩;((try have sa:=bN.mono sa hle);(try have hg:=Gh.le.trans hg hle))) | (refine aM F F F (cx_bo2 _) F ?_;rintro _ G hle ⟨p2,a2,b2,c2,rfl⟩;((try have sa:=bN.mono sa hle);(try have hg:=Gh.le.trans hg hle)))) | (refine ae F ?_ ?_;(focus ((first | (refine decide_eq_true ?_;(omega)) | (simp [*];done));done))) | (refine ak (ar (id:=8) _ (fun _ h=>h) aj ?_);refine jT 25 [0,1,2] (aa 28 7) ?_;(try (refine Nx.re (d:=49) (v':=Bo false) F (congrArg Value.bool F) ?_));refine jT 23 [3,4] (aa 28 31) ?_;(refine jG (aa 28 63) 5 F (aW F F F) ?_);refine jT 21 [6] (aa 28 127) ?_;(try (refine Nx.re (d:=53) (v':=Bo false) F (congrArg Value.bool F) ?_));refine jT 20 [7] (aa 28 255) ?_;(refine jG (aa 28 511) 8 F (an F F F) ?_);(refine jA 9 F ?_;(refine ad F F F (cx_nm2 _) F ?_);refine jS (aa 28 1023) ?_);refine jT 17 [10] (aa 28 2047) ?_;(refine jG (aa 28 4095) 11 F (aW F F F) ?_);refine jT 15 [12] (aa 28 8191) ?_;(try (refine Nx.re (d:=59) (v':=Bo false) F (congrArg Value.bool F) ?_));refine jT 12 [13,14,15] (aa 28 65535) ?_;(try ((refine Nx.re (d:=62) (v':=Bo true) F (congrArg Value.bool (aC oM)) ?_)));refine jW 8 [16,18,19,23] (aa 28 9306111) ?_;(refine jG (aa 28 9437183) 17 F (an F F F) ?_);(refine jG (aa 28 10485759) 20 F (aZ F F oM) ?_);refine jT 5 [21] (aa 28 12582911) ?_;((refine jG (aa 28 16777215) 22 F (bq F F aS ?_ F F) ?_;focus omega));(refine jG (aa 28 33554431) 24 F (an F F F) ?_);refine jT 2 [25] (aa 28 67108863) ?_;(refine jG (aa 28 134217727) 26 F (bU F F F) ?_);(refine jG (aa 28 268435455) 27 F (aW F F F) ?_);refine jQ ?_))
     all_goals refine Nx.base hok hB ?_
     all_goals refine jY (vs:=[_]) ?_
     all_goals rw [aE,nC hi hb]
    ·have hb : cP s a (j + 1) = true:=by simp [cP,lI,e1,e2,e3,e5]
     have e6 : Op.bytesLess (ac a (((j + 1 : Nat) : Int) - 1).toNat).1 (ac a (j + 1)).1 = true:=by rw [ej];exact e5
     repeat' (first | refine jM ?_ | (refine jo ?_;first | refine ah F ?_ | (refine jV (bz F F aS ?_) ?_;focus omega) | refine jV (al F F oM) ?_ | refine jL fun _=>?_ | refine jC F F F ?_ | (refine aM F F F (cx_bo1 _) F ?_;rintro _ G hle ⟨p1,a1,b1,c1,rfl⟩;((try have sa:=bN.mono sa hle);(try have hg:=Gh.le.trans hg hle))) | (refine aM F F F (cx_bo2 _) F ?_;rintro _ G hle ⟨p2,a2,b2,c2,rfl⟩;((try have sa:=bN.mono sa hle);(try have hg:=Gh.le.trans hg hle)))) | refine ae F (aC oM) ?_ | (refine af F ?_ ?_;(focus ((simp [*];done);done))) | (refine ak (ar (id:=8) _ (fun _ h=>h) aj ?_);refine jT 25 [0,1,2] (aa 28 7) ?_;(try (refine Nx.re (d:=49) (v':=Bo false) F (congrArg Value.bool F) ?_));refine jT 23 [3,4] (aa 28 31) ?_;(refine jG (aa 28 63) 5 F (aW F F F) ?_);refine jT 21 [6] (aa 28 127) ?_;(try (refine Nx.re (d:=53) (v':=Bo false) F (congrArg Value.bool F) ?_));refine jT 20 [7] (aa 28 255) ?_;(refine jG (aa 28 511) 8 F (an F F F) ?_);(refine jA 9 F ?_;(refine ad F F F (cx_nm2 _) F ?_);refine jS (aa 28 1023) ?_);refine jT 17 [10] (aa 28 2047) ?_;(refine jG (aa 28 4095) 11 F (aW F F F) ?_);refine jT 15 [12] (aa 28 8191) ?_;(try (refine Nx.re (d:=59) (v':=Bo false) F (congrArg Value.bool F) ?_));refine jT 12 [13,14,15] (aa 28 65535) ?_;(try ((refine Nx.re (d:=62) (v':=Bo true) F (congrArg Value.bool (aC oM)) ?_)));refine jW 8 [16,18,19,23] (aa 28 9306111) ?_;(refine jG (aa 28 9437183) 17 F (an F F F) ?_);(refine jG (aa 28 10485759) 20 F (aZ F F oM) ?_);refine jT 5 [21] (aa 28 12582911) ?_;((refine jG (aa 28 16777215) 22 F (bq F F aS ?_ F F) ?_;focus omega));(refine jG (aa 28 33554431) 24 F (an F F F) ?_);refine jT 2 [25] (aa 28 67108863) ?_;(refine jG (aa 28 134217727) 26 F (bU F F F) ?_);(refine jG (aa 28 268435455) 27 F (aW F F F) ?_);refine jQ ?_))
     all_goals
      refine aT (j + 1 + 1,G) ⟨⟨by dsimp only;omega,hg⟩,fun k hk=>?_⟩ (by dsimp only;omega) tU rfl sB
      rcases Nat.lt_or_ge k (j + 1) with h1 | h1
      ·exact hgood k h1
      ·have : k = j + 1:=by dsimp only at hk;omega
       subst this;exact hb
  all_goals
   have hb : cP s a i = false:=by simp [cP,lI,e1,e2,e3]
   repeat' (first | refine jR ?_ | (refine jo ?_;first | refine ah F ?_ | (refine jV (bz F F aS ?_) ?_;focus omega) | refine jV (al F F oM) ?_ | refine jL fun _=>?_ | refine jC F F F ?_ | (refine aM F F F (cx_bo1 _) F ?_;rintro _ G hle ⟨p1,a1,b1,c1,rfl⟩;((try have sa:=bN.mono sa hle);(try have hg:=Gh.le.trans hg hle))) | (refine aM F F F (cx_bo2 _) F ?_;rintro _ G hle ⟨p2,a2,b2,c2,rfl⟩;((try have sa:=bN.mono sa hle);(try have hg:=Gh.le.trans hg hle)))) | (refine ae F (by first | rfl | (refine decide_eq_true ?_;(omega))) ?_) | (refine ak (ar (id:=8) _ (fun _ h=>h) aj ?_);refine jT 25 [0,1,2] (aa 28 7) ?_;(try (first | refine Nx.re (d:=49) (v':=Bo true) F (congrArg Value.bool F) ?_ | refine Nx.re (d:=49) (v':=Bo false) F (congrArg Value.bool F) ?_));refine jT 23 [3,4] (aa 28 31) ?_;(first | refine jG (aa 28 63) 5 F (bU F F F) ?_ | refine jG (aa 28 63) 5 F (aW F F F) ?_);refine jT 21 [6] (aa 28 127) ?_;(try (first | refine Nx.re (d:=53) (v':=Bo true) F (congrArg Value.bool F) ?_ | refine Nx.re (d:=53) (v':=Bo false) F (congrArg Value.bool F) ?_));refine jT 20 [7] (aa 28 255) ?_;(first | refine jG (aa 28 511) 8 F (an F F F) ?_ | refine jN (aa 28 511) 8 F ?_);(first | refine jN (aa 28 1023) 9 F ?_ | (refine jA 9 F ?_;(refine ad F F F (cx_nm2 _) F ?_);refine jS (aa 28 1023) ?_));refine jT 17 [10] (aa 28 2047) ?_;(first | refine jG (aa 28 4095) 11 F (bU F F F) ?_ | refine jG (aa 28 4095) 11 F (aW F F F) ?_);refine jT 15 [12] (aa 28 8191) ?_;(try (refine Nx.re (d:=59) (v':=Bo true) F (congrArg Value.bool F) ?_));refine jT 12 [13,14,15] (aa 28 65535) ?_;(try (fail));refine jT 8 [16,18,19,23] (aa 28 9306111) ?_;(refine jN (aa 28 9437183) 17 F ?_);(refine jN (aa 28 10485759) 20 F ?_);refine jT 5 [21] (aa 28 12582911) ?_;(refine jN (aa 28 16777215) 22 F ?_);(refine jN (aa 28 33554431) 24 F ?_);refine jT 2 [25] (aa 28 67108863) ?_;(refine jN (aa 28 134217727) 26 F ?_);(refine jG (aa 28 268435455) 27 F (bU F F F) ?_);refine jQ ?_))
   refine Nx.base hok hB ?_
   refine jY (vs:=[_]) ?_
   rw [aE,nC hi hb]
 ·repeat' (first | refine jR ?_ | refine af F (aF oM) ?_)
  refine Nx.base hok hB ?_
  refine jY (vs:=[_]) ?_
  rw [aE,rN (by simpa using h1) oM (fun k hk=>hgood k oM)]
def gV (a : List Mt) (x : abu) : Option Mt:=a.find? fun m=>decide (m.1 = x)
def fh (s : abu) (a : List Mt) (r : abu) (o : Mt) : Bool:=match gV a o.1 with
 | none=>false
 | some m=>bY s m.2.1 r o.2.1 && bY r o.2.2 s m.2.2
def dN (s : abu) (a : List Mt) (r : abu) (b : List Mt) : Bool:=(cT s a && cT r b) && b.all (fh s a r)
theorem m5 {a : List Mt} {x : abu} {i : Nat} (hi : i < a.length) (hno : ∀ k,k < i → (ac a k).1 ≠ x) (h : (ac a i).1 = x) : gV a x = some (ac a i) :=
 oP hi (fun k hk=>by simpa using hno k hk) (by simpa using h)
theorem qr {a : List Mt} {x : abu} (hno : ∀ k,k < a.length → (ac a k).1 ≠ x) : gV a x = none:=sd fun k hk=>by simpa using hno k hk
abbrev zM : Mt:=([],[],[])
abbrev aa9 : TypeId:=42
abbrev aa6 : TypeId:=25
theorem xM {s x : abu} {u : Value} {a : List Mt} (hu : bh G u 3 a.length (ao f6 a)) (hn : a.length ≤ 1048576) :
  aI abt 29 [Ag [S s,u],S x] G (· = Tu [Ag (f6 ((gV a x).getD zM)),Bo (gV a x).isSome]):=by
 refine jE [(0,_),(1,_)] Tryz.func29 Tryz.ntmps29 fun B hB=>?_
 repeat' (first | refine jR ?_ | (refine jo ?_;first | refine jO fun _=>?_ | refine jL fun _=>?_))
 rename_i x2 x4
 refine aU (ι:=Nat) (fun i=>i ≤ a.length ∧ ∀ k,k < i → (ac a k).1 ≠ x) (fun i=>[(1,S x),(2,Pt x2 0),(4,Pt x4 0),(6,I i)]) (fun _=>G) (fun i=>[.blk x4 (.cells (List.toArray [S [],S [],S []]) aa9 (0,0)),.blk x2 (.cells (List.toArray [S s,u]) aa6 (0,0))]) (fun i=>a.length - i) 0 ?_ tU F a6 (fun i Hi=>?_)
 ·exact ⟨Nat.zero_le _,fun k hk=>absurd hk oM⟩
 by_cases hi : i < a.length
 ·obtain ⟨ba,oa,ca,rfl,sa⟩:=hu.expl oM
  repeat' (first | refine jM ?_ | (refine jo ?_;first | refine ah F ?_ | (refine jV (bz F F aS ?_) ?_;focus omega) | (refine jV (bq F F aS ?_ F F) ?_;focus omega) | refine jV (aq F) ?_ | refine jV (al F F oM) ?_ | refine jC F F F ?_) | refine ae F (aC oM) ?_ | refine cJ F (fun _=>?_) (fun _=>?_))
  ·rename_i he
   refine jZ (vs:=[_,_]) F ⟨aw F F F F,F,trivial⟩ F ⟨F,F,?_⟩
   rw [m5 hi Hi.2 he];rfl
  ·rename_i he
   refine aT (i + 1) ⟨oM,fun k hk=>?_⟩ oM tU F a6
   rcases Nat.lt_or_ge k i with h3 | h3
   ·exact Hi.2 k h3
   ·have : k = i:=oM
    subst this;exact he
 ·repeat' (first | refine jR ?_ | (refine jo ?_;first | refine ah F ?_ | refine jV (dc F aS) ?_ | refine jC F F F ?_ | refine jV (am F F) ?_) | refine af F (aF oM) ?_)
  refine jZ (vs:=[_,_]) F ⟨aw F F F F,F,trivial⟩ F ⟨F,F,?_⟩
  rw [qr fun k hk=>Hi.2 k oM];rfl
abbrev aba : TypeId:=42
abbrev aa7 : TypeId:=25
theorem v5 {s x : abu} {u : Value} {a : List Mt} (hu : bh G u 3 a.length (ao f6 a)) (hn : a.length ≤ 1048576) :
  aI abt 31 [Ag [S s,u],S x] G (· = Tu [Ag (f6 ((gV a x).getD zM)),Bo (gV a x).isSome]):=by
 refine jE [(0,_),(1,_)] Tryz.func31 Tryz.ntmps31 fun B hB=>?_
 repeat' (first | refine jR ?_ | (refine jo ?_;first | refine jO fun _=>?_ | refine jL fun _=>?_ | refine ah F ?_ | refine jV (dc F aS) ?_))
 rename_i x2 x4
 refine aU (ι:=Nat) (fun i=>i ≤ a.length ∧ ∀ k,k < i → (ac a k).1 ≠ x) (fun i=>[(1,S x),(2,Pt x2 0),(4,Pt x4 0),(9,u),(10,I a.length),(11,I i)]) (fun _=>G) (fun i=>[.blk x4 (.cells (List.toArray [S [],S [],S []]) aba (0,0)),.blk x2 (.cells (List.toArray [S s,u]) aa7 (0,0))]) (fun i=>a.length - i) 0 ?_ tU F a6 (fun i Hi=>?_)
 ·exact ⟨Nat.zero_le _,fun k hk=>absurd hk oM⟩
 by_cases hi : i < a.length
 ·obtain ⟨ba,oa,ca,rfl,sa⟩:=hu.expl oM
  repeat' (first | refine jM ?_ | (refine jo ?_;first | refine jL fun _=>?_ | refine ah F ?_ | (refine jV (bz F F aS ?_) ?_;focus omega) | refine aK F ?_ | refine jV (al F F oM) ?_ | refine jC F F F ?_) | refine ae F (aC oM) ?_ | refine cJ F (fun _=>?_) (fun _=>?_))
  ·rename_i he
   refine jZ (vs:=[_,_]) F ⟨aw F F F F,F,trivial⟩ F ⟨F,F,?_⟩
   rw [m5 hi Hi.2 he];rfl
  ·rename_i he
   refine aT (i + 1) ⟨oM,fun k hk=>?_⟩ oM tU F sB
   rcases Nat.lt_or_ge k i with h3 | h3
   ·exact Hi.2 k h3
   ·have : k = i:=oM
    subst this;exact he
 ·repeat' (first | refine jR ?_ | (refine jo ?_;first | refine jC F F F ?_ | refine jV (am F F) ?_) | refine af F (aF oM) ?_)
  refine jZ (vs:=[_,_]) F ⟨aw F F F F,F,trivial⟩ F ⟨F,F,?_⟩
  rw [qr fun k hk=>Hi.2 k oM];rfl
theorem gS {s r : abu} {a b : List Mt} (h : cT s a = false ∨ cT r b = false) : dN s a r b = false:=by
 unfold dN
 rcases h with h | h <;> rw [h] <;> simp
theorem eR {s r : abu} {a b : List Mt} {i : Nat} (hi : i < b.length) (h : fh s a r (ac b i) = false) : dN s a r b = false:=by
 unfold dN
 have : b.all (fh s a r) = false:=by
  rw [List.all_eq_false]
  exact ⟨_,a7 hi,by rw [h];simp⟩
 rw [this,Bool.and_false]
theorem lr {s r : abu} {a b : List Mt} (h1 : cT s a = true) (h2 : cT r b = true) (h : ∀ k,k < b.length → fh s a r (ac b k) = true) : dN s a r b = true:=by
 unfold dN
 have : b.all (fh s a r) = true:=by
  rw [List.all_eq_true]
  intro x hx
  obtain ⟨k,hk,rfl⟩:=iu hx
  exact h k hk
 rw [h1,h2,this];rfl
abbrev yh : TypeId:=25
theorem eX {s r : abu} {u v : Value} {a b : List Mt} (h : (s.length ≤ 1048576 ∧ a.length ≤ 1048576) ∧ (r.length ≤ 1048576 ∧ b.length ≤ 1048576) ∧ (∀ x ∈ a,kx x) ∧ ∀ x ∈ b,kx x) (hu : bh G u 3 a.length (ao f6 a)) (hv : bh G v 3 b.length (ao f6 b)) :
  aI abt 21 [Ag [S s,u],Ag [S r,v]] G (· = Bo (dN s a r b)):=by
 obtain ⟨⟨hs,ha⟩,⟨hr,hb⟩,hma,hmb⟩:=h
 cases e1 : cT s a
 ·have cx_so1 : aI abt 37 [Ag [S s,u]] G (· = Bo false):=by rw [← e1];exact gy hs hu ha hma
  rw [gS (.inl e1)]
  refine jE [(0,_),(1,_)] Tryz.func21 Tryz.ntmps21 fun B hB=>?_
  repeat' (first | refine jR ?_ | (refine jo ?_;first | refine jO fun _=>?_ | refine aK F ?_ | refine aP F ?_ | refine ad F F F cx_so1 F ?_) | refine aO F F F ?_ | refine ae F F ?_)
  all_goals refine jY (vs:=[_]) ?_
  all_goals rfl
 have cx_so1 : aI abt 37 [Ag [S s,u]] G (· = Bo true):=by rw [← e1];exact gy hs hu ha hma
 cases e2 : cT r b
 ·have cx_so2 : aI abt 37 [Ag [S r,v]] G (· = Bo false):=by rw [← e2];exact gy hr hv hb hmb
  rw [gS (.inr e2)]
  refine jE [(0,_),(1,_)] Tryz.func21 Tryz.ntmps21 fun B hB=>?_
  repeat' (first | refine jR ?_ | (refine jo ?_;first | refine jO fun _=>?_ | refine aK F ?_ | refine aH F ?_ | refine ad F F F cx_so1 F ?_ | refine ad F F F cx_so2 F ?_) | refine aD F F F ?_ | refine ae F F ?_)
  all_goals refine jY (vs:=[_]) ?_
  all_goals rfl
 have cx_so2 : aI abt 37 [Ag [S r,v]] G (· = Bo true):=by rw [← e2];exact gy hr hv hb hmb
 refine jE [(0,_),(1,_)] Tryz.func21 Tryz.ntmps21 fun B hB=>?_
 repeat' (first | refine jR ?_ | (refine jo ?_;first | refine jO fun _=>?_ | refine aK F ?_ | refine aH F ?_ | refine ad F F F cx_so1 F ?_ | refine ad F F F cx_so2 F ?_) | refine aD F F F ?_ | refine af F F ?_)
 rename_i x2 x3
 refine aU (ι:=Nat) (fun i=>i ≤ b.length ∧ ∀ k,k < i → fh s a r (ac b k) = true) (fun i=>[(2,Pt x2 0),(3,Pt x3 0),(5,I i)]) (fun _=>G) (fun i=>[.blk x3 (.cells (List.toArray [S r,v]) yh (0,0)),.blk x2 (.cells (List.toArray [S s,u]) yh (0,0))]) (fun i=>b.length - i) 0 ?_ tU F a6 (fun i Hi=>?_)
 ·exact ⟨Nat.zero_le _,fun k hk=>absurd hk oM⟩
 by_cases hi : i < b.length
 case neg =>
  repeat' (first | refine jR ?_ | (refine jo ?_;first | refine ah F ?_ | refine jV (dc F aS) ?_) | refine af F (aF oM) ?_)
  refine jY (vs:=[_]) ?_
  rw [aE,lr e1 e2 (fun k hk=>Hi.2 k oM)]
 obtain ⟨bb,ob,cb,rfl,sb⟩:=hv.expl oM
 have hxo:=hmb _ (a7 hi)
 have cx_f0:=xM (s:=s) (x:=(ac b i).1) hu ha
 cases hf : gV a (ac b i).1 with
 | none =>
  rw [hf] at cx_f0
  have cx_find : aI abt 29 [Ag [S s,u],S (ac b i).1] G (· = Tu [Ag [S [],S [],S []],Bo false]):=cx_f0
  have hb2 : fh s a r (ac b i) = false:=by unfold fh;rw [hf]
  repeat' (first | refine jR ?_ | (refine jo ?_;first | refine ah F ?_ | (refine jV (bz F F aS ?_) ?_;focus omega) | refine aK F ?_ | refine aP F ?_ | refine jV (aq F) ?_ | refine jV (al F F oM) ?_ | refine jL fun _=>?_ | refine jC F F F ?_ | refine ad F F F cx_find F ?_) | refine aO F F F ?_ | (refine ae F (by first | rfl | (refine decide_eq_true ?_;(omega))) ?_))
  all_goals refine jY (vs:=[_]) ?_
  all_goals rw [aE,eR hi hb2]
 | some m =>
  rw [hf] at cx_f0
  have cx_find : aI abt 29 [Ag [S s,u],S (ac b i).1] G (· = Tu [Ag [S m.1,S m.2.1,S m.2.2],Bo true]):=cx_f0
  have hxm:=hma _ (List.mem_of_find?_eq_some hf)
  have cx_eva:=ku (G:=G) (s:=s) (k:=m.2.1) (r:=r) (l:=(ac b i).2.1) oM oM oM oM
  have cx_evb:=ku (G:=G) (s:=r) (k:=(ac b i).2.2) (r:=s) (l:=m.2.2) oM oM oM oM
  have hrd : fh s a r (ac b i) = (bY s m.2.1 r (ac b i).2.1 && bY r (ac b i).2.2 s m.2.2):=by unfold fh;rw [hf]
  generalize bY s m.2.1 r (ac b i).2.1 = qa at cx_eva hrd
  generalize bY r (ac b i).2.2 s m.2.2 = qb at cx_evb hrd
  cases qa
  ·repeat' (first | refine jR ?_ | (refine jo ?_;first | refine ah F ?_ | (refine jV (bz F F aS ?_) ?_;focus omega) | refine aK F ?_ | refine aP F ?_ | refine aH F ?_ | refine jV (aq F) ?_ | refine jV (al F F oM) ?_ | refine jL fun _=>?_ | refine jC F F F ?_ | refine ad F F F cx_find F ?_ | refine ad F F F cx_eva F ?_) | refine aO F F F ?_ | refine aD F F F ?_ | (refine ae F (by first | rfl | (refine decide_eq_true ?_;(omega))) ?_))
   all_goals refine jY (vs:=[_]) ?_
   all_goals rw [aE,eR hi hrd]
  cases qb
  ·repeat' (first | refine jR ?_ | (refine jo ?_;first | refine ah F ?_ | (refine jV (bz F F aS ?_) ?_;focus omega) | refine aK F ?_ | refine aH F ?_ | refine jV (aq F) ?_ | refine jV (al F F oM) ?_ | refine jL fun _=>?_ | refine jC F F F ?_ | refine ad F F F cx_find F ?_ | refine ad F F F cx_eva F ?_ | refine ad F F F cx_evb F ?_) | refine aD F F F ?_ | (refine ae F (by first | rfl | (refine decide_eq_true ?_;(omega))) ?_))
   all_goals refine jY (vs:=[_]) ?_
   all_goals rw [aE,eR hi hrd]
  repeat' (first | refine jM ?_ | (refine jo ?_;first | refine ah F ?_ | (refine jV (bz F F aS ?_) ?_;focus omega) | refine aK F ?_ | refine aH F ?_ | refine jV (aq F) ?_ | refine jV (al F F oM) ?_ | refine jL fun _=>?_ | refine jC F F F ?_ | refine ad F F F cx_find F ?_ | refine ad F F F cx_eva F ?_ | refine ad F F F cx_evb F ?_) | refine aD F F F ?_ | refine ae F (aC oM) ?_ | refine af F F ?_)
  all_goals
   refine aT (i + 1) ⟨oM,fun k hk=>?_⟩ oM tU F sB
   rcases Nat.lt_or_ge k i with h3 | h3
   ·exact Hi.2 k h3
   ·have : k = i:=oM
    subst this;exact hrd
theorem vm : ∀ x : abu,Op.bytesLess x x = false
 | []=>rfl
 | a :: x=>by rw [Op.bytesLess,vm x];simp
theorem vl : ∀ {x y z : abu},Op.bytesLess x y = true → Op.bytesLess y z = true → Op.bytesLess x z = true
 | _,[],_,h,_=>by simp [Op.bytesLess] at h
 | _,_ :: _,[],_,h=>by simp [Op.bytesLess] at h
 | [],_ :: _,_ :: _,_,_=>rfl
 | a :: x,b :: y,c :: z,h1,h2=>by
  simp only [Op.bytesLess,Bool.or_eq_true,Bool.and_eq_true,decide_eq_true_eq,beq_iff_eq] at h1 h2 ⊢
  rcases h1 with h1 | ⟨rfl,h1⟩
  ·rcases h2 with h2 | ⟨rfl,h2⟩
   ·exact .inl (UInt8.lt_trans h1 h2)
   ·exact .inl h1
  ·rcases h2 with h2 | ⟨rfl,h2⟩
   ·exact .inl h2
   ·exact .inr ⟨F,vl h1 h2⟩
theorem vN {s : abu} {a : List Mt} (h : ∀ k,k < a.length → cP s a k = true) {i : Nat} : ∀ j,i < j → j < a.length → Op.bytesLess (ac a i).1 (ac a j).1 = true:=by
 intro j
 induction j with
 | zero=>intro h1;omega
 | succ j ih =>
  intro h1 h2
  have hg:=h (j + 1) h2
  unfold cP at hg
  simp only [Bool.and_eq_true,Bool.or_eq_true,Nat.add_sub_cancel] at hg
  have h3 : Op.bytesLess (ac a j).1 (ac a (j + 1)).1 = true:=by
   rcases hg.2 with h4 | h4
   ·simp at h4
   ·exact h4
  by_cases hij : i = j
  ·subst hij;exact h3
  ·exact vl (ih oM oM) h3
theorem nD {s : abu} {a : List Mt} (h : cT s a = true) : ∀ k,k < a.length → cP s a k = true:=by
 unfold cT at h
 simp only [Bool.and_eq_true,List.all_eq_true,List.mem_range] at h
 exact h.2
theorem tp {s : abu} {a : List Mt} (h : cT s a = true) {i : Nat} (hi : i < a.length) : gV a (ac a i).1 = some (ac a i) :=
 m5 hi (fun k hk e=>by
  have:=vN (nD h) (i:=k) i hk hi
  rw [e,vm] at this;cases this) rfl
theorem vw {ts : List Ty} {k s : abu} {u : V} {t : abu} {N : Nat} (hN : 12 ≤ N) (hl : s.length ≤ 400) (h : rd ts N k s = some (u,t)) : dp ts k s = if t = [] ∧ V.deep u ≤ 12 then some u else none:=by
 unfold dp
 rw [if_pos hl]
 cases h12 : rd ts 12 k s with
 | none =>
  dsimp only
  rw [if_neg]
  rintro ⟨_,hd⟩
  have:=wx _ 12 k s _ h hd
  rw [h12] at this;cases this
 | some x =>
  have h1:=wv (m:=N) hN h12
  rw [h] at h1
  have hd:=nI _ _ _ _ h12
  obtain rfl:=Option.some.inj h1
  dsimp only at hd ⊢
  cases t with
  | nil=>dsimp only;rw [if_pos ⟨rfl,hd⟩]
  | cons c t=>dsimp only;rw [if_neg (fun h=>by cases h.1)]
theorem vx {ts : List Ty} {k s : abu} {N : Nat} (hN : 12 ≤ N) (hl : s.length ≤ 400) (h : rd ts N k s = none) : dp ts k s = none:=by
 unfold dp
 rw [if_pos hl]
 cases h12 : rd ts 12 k s with
 | none=>rfl
 | some x=>rw [wv (m:=N) hN h12] at h;cases h
theorem oW {b : Nat} {qs : List b8} {k s : abu} (hS : ScI G b qs) (hw : SchW (ag qs)) (hk : aJ (ag qs) k = true) (hs : s.length ≤ 10000000) :
  ci abt 92 [Pt b 0,Ag (dQ k),S s] G (fun v G'=>(dp (ag qs) k s = none ∧ v = Tu [zP,Bo false]) ∨ ∃ u c,dp (ag qs) k s = some u ∧ v = Tu [Ag (bE c),Bo true] ∧ V.rep G' u c):=by
 unfold dQ
 by_cases hl : s.length ≤ 400
 case neg =>
  have hno : dp (ag qs) k s = none:=by unfold dp;rw [if_neg hl]
  refine jB [(0,_),(1,_),(2,_)] Tryz.func92 Tryz.ntmps92 fun B hok hB hW=>?_
  repeat' (first | refine jR ?_ | (refine jo ?_;first | refine jO fun _=>?_ | refine jL fun _=>?_ | refine jV (am F F) ?_ | refine jC F F F ?_) | refine ae F (aC oM) ?_)
  all_goals refine jZ (vs:=[_,_]) F ⟨aw F F F F,F,trivial⟩ F ⟨Gh.le.refl _,F,?_⟩
  all_goals exact .inl ⟨hno,F⟩
 obtain ⟨N,hN⟩ : ∃ N,s.length + 12 ≤ N:=⟨_,Nat.le_refl _⟩
 have hN2 : 12 ≤ N:=oM
 have hV:=pU (sc:=b) hw N
 have cy_vl : ∀ {r : Nat},cX abt 126 [Pt r 0,Ag (dQ k)] G [dH r b s false] (gO (rd (ag qs) N k) r b s false):=fun {r}=>hV G r k s false hS hk oM oM
 refine jB [(0,_),(1,_),(2,_)] Tryz.func92 Tryz.ntmps92 fun B hok hB hW=>?_
 repeat' (first | refine jR ?_ | (refine jo ?_;first | refine jO fun _=>?_ | refine jL fun _=>?_ | refine jV (am F F) ?_ | refine aK F ?_) | refine af F (aF oM) ?_)
 refine jo ?_
 rename_i r
 refine da F F F (cy_vl (r:=r)) F ?_
 rintro _ G1 _ hle ⟨u1,c1,t1,b1,rfl,hrep,rfl,hP⟩
 dsimp only [zA,fA]
 obtain ⟨hPl,hP0,hP1⟩:=hP
 cases b1 with
 | true =>
  have hno : dp (ag qs) k s = none:=vx hN2 hl (by rcases (hP1 rfl).1 with h | h;cases h;exact h)
  repeat' (first | refine jR ?_ | (refine jo ?_;first | refine jL fun _=>?_ | refine jV (am F F) ?_ | refine jC F F F ?_ | refine ah F ?_ | refine aP F ?_) | refine aO F F F ?_ | refine ae F F ?_)
  all_goals refine jZ (vs:=[_,_]) F ⟨aw F F F F,F,trivial⟩ F ⟨hle,F,?_⟩
  all_goals exact .inl ⟨hno,F⟩
 | false =>
  have hrd:=(hP0 rfl).2
  have hof:=vw hN2 hl hrd
  have htt:=j9 _ _ _ _ hrd
  dsimp only at htt
  by_cases ht : t1 = []
  case neg =>
   have hno : dp (ag qs) k s = none:=by rw [hof,if_neg (fun h=>ht h.1)]
   repeat' (first | refine jR ?_ | (refine jo ?_;first | refine jL fun _=>?_ | refine jV (am F F) ?_ | refine jC F F F ?_ | refine ah F ?_ | refine aP F ?_ | refine aH F ?_) | refine aO F F (aC ‹_›) ?_ | refine aD F F F ?_ | refine ae F F ?_)
   all_goals refine jZ (vs:=[_,_]) F ⟨aw F F F F,F,trivial⟩ F ⟨hle,F,?_⟩
   all_goals exact .inl ⟨hno,F⟩
  have hnn : ¬ t1 ≠ []:=fun h=>h ht
  have cx_dp:=u7 (G:=G1) u1.tot (Nat.le_refl _) oM hrep
  have hdt:=nf u1
  by_cases hd : V.deep u1 ≤ 12
  ·have hyes : dp (ag qs) k s = some u1:=by rw [hof,if_pos ⟨ht,hd⟩]
   repeat' (first | refine jR ?_ | (refine jo ?_;first | refine jL fun _=>?_ | refine jC F F F ?_ | refine ah F ?_ | refine aK F ?_ | refine aH F ?_ | refine ad F F F cx_dp F ?_) | (refine aD F F (by first | rfl | (refine decide_eq_false ?_;(assumption))) ?_) | refine af F (aF oM) ?_)
   all_goals refine jZ (vs:=[_,_]) F ⟨aw F F F F,F,trivial⟩ F ⟨hle,F,?_⟩
   all_goals exact .inr ⟨u1,c1,hyes,F,hrep⟩
  ·have hno : dp (ag qs) k s = none:=by rw [hof,if_neg (fun h=>hd h.2)]
   repeat' (first | refine jR ?_ | (refine jo ?_;first | refine jL fun _=>?_ | refine jV (am F F) ?_ | refine jC F F F ?_ | refine ah F ?_ | refine aK F ?_ | refine aH F ?_ | refine ad F F F cx_dp F ?_) | (refine aD F F (by first | rfl | (refine decide_eq_false ?_;(assumption))) ?_) | refine ae F (aC oM) ?_)
   all_goals refine jZ (vs:=[_,_]) F ⟨aw F F F F,F,trivial⟩ F ⟨hle,F,?_⟩
   all_goals exact .inl ⟨hno,F⟩
theorem mK {s k : abu} (h : a9 s k = true) : ∃ ts,ax s = some ts ∧ aJ ts k = true ∧ SchW ts:=by
 unfold a9 at h
 cases h1 : ax s with
 | none=>rw [h1] at h;cases h
 | some ts=>rw [h1] at h;exact ⟨ts,F,h,co h1⟩
def gr (s k v : abu) : Option V:=match ax s with
 | some ts=>if aJ ts k = true then dp ts k v else none
 | none=>none
theorem wd {s k w : abu} (h : s.length ≤ 1048576 ∧ k.length ≤ 1048576 ∧ w.length ≤ 1048576) (hno : gr s k w = none) : ci abt 56 [S s,S k,S w] G (fun v _=>∃ p a b c,v = Tu [p,Ag [S a,S b,S c],zP,Bo false]):=by
 by_cases hk : a9 s k = true
 case neg =>
  have cx_bo1 : ∀ G,ci abt 52 [S s,S k] G (fun v _=>∃ p a b c,v = Tu [p,Ag [S a,S b,S c],Bo false]):=fun G=>by
   refine (eP (G:=G) (s:=s) (k:=k) oM oM).mono ?_
   rintro v G' L' ⟨h1,h2,⟨_,p,a,b,c,rfl⟩ | ⟨b,qs,rfl,h4,h5,_⟩⟩
   ·exact ⟨h1,h2,p,a,b,c,F⟩
   ·exact absurd (by unfold a9;rw [h4];exact h5) hk
  refine jB [(0,_),(1,_),(2,_)] Tryz.func56 Tryz.ntmps56 fun B hok hB hW=>?_
  repeat' (first | refine jR ?_ | (refine jo ?_;first | refine jL fun _=>?_ | refine jC F F F ?_ | refine jV (am F F) ?_ | (refine aM F F F (cx_bo1 _) F ?_;rintro _ G hle ⟨p1,a1,b1,c1,rfl⟩;skip)) | refine ae F F ?_)
  all_goals refine jZ (vs:=[_,_,_,_]) F ⟨F,aw F F F F,aw F F F F,F,trivial⟩ F ⟨hle,F,?_⟩
  all_goals exact ⟨_,_,_,_,F⟩
 obtain ⟨ts,hs,hki,hw⟩:=mK hk
 have hvo : dp ts k w = none:=by unfold gr at hno;rw [hs] at hno;dsimp only at hno;rwa [if_pos hki] at hno
 have cx_boa : ∀ G,ci abt 52 [S s,S k] G (fun v G'=>∃ b qs,v = Tu [Pt b 0,Ag [S (sg k),S (bs k),S (nm k)],Bo true] ∧ ag qs = ts ∧ ScI G' b qs):=fun G=>by
  refine (eP (G:=G) (s:=s) (k:=k) oM oM).mono ?_
  rintro v G' L' ⟨h1,h2,⟨h4,_⟩ | ⟨b,qs,rfl,h4,h5,h6⟩⟩
  ·rw [h4] at hk;cases hk
  ·rw [hs] at h4;exact ⟨h1,h2,b,qs,F,(Option.some.inj h4).symm,h6⟩
 have cx_ri0 : ∀ G b qs,ag qs = ts → ScI G b qs → ci abt 92 [Pt b 0,Ag [S (sg k),S (bs k),S (nm k)],S w] G (fun v _=>v = Tu [zP,Bo false]):=fun G b qs hq hS=>by
  subst hq
  refine (oW (G:=G) (b:=b) (s:=w) hS hw hki oM).mono ?_
  rintro v G' L' ⟨h1,h2,⟨_,rfl⟩ | ⟨u,c,h4,_⟩⟩
  ·exact ⟨h1,h2,F⟩
  ·rw [hvo] at h4;cases h4
 refine jB [(0,_),(1,_),(2,_)] Tryz.func56 Tryz.ntmps56 fun B hok hB hW=>?_
 repeat' (first | refine jR ?_ | (refine jo ?_;first | refine jL fun _=>?_ | refine jC F F F ?_ | refine aK F ?_ | (refine aM F F F (cx_boa _) F ?_;rintro _ G hle ⟨ba,qa,rfl,hT1,hR1⟩;skip) | (refine aM F F F ((cx_ri0 _ _ _) (by (repeat (assumption));done) (by (repeat (assumption));done)) rfl ?_;rintro _ G hle rfl;skip)) | refine af F F ?_ | (refine ak (dq (id:=5) (tt:=7) F aj ?_);refine jW 5 [0,3,4] (aa 8 25) ?_;(refine jG (aa 8 27) 1 F (bC F F F F) ?_);(refine jG (aa 8 31) 2 F (bC F F F F) ?_);refine jA 5 F ?_;(refine jC F F F ?_);refine jK (aa 8 63) ?_;refine jA 6 F ?_;(refine jC F F F ?_);refine jK (aa 8 127) ?_;refine jW 0 [7] (aa 8 255) ?_;refine jQ ?_))
 all_goals refine jZ (vs:=[_,_,_,_]) F ⟨F,aw F F F F,aw F F F F,F,trivial⟩ F ⟨(Gh.le.trans aS hle),F,?_⟩
 all_goals exact ⟨_,_,_,_,F⟩
theorem wc {s k w : abu} {u : V} {ts : List Ty} (h : s.length ≤ 1048576 ∧ k.length ≤ 1048576 ∧ w.length ≤ 1048576) (hs : ax s = some ts) (hki : aJ ts k = true) (hvo : dp ts k w = some u) :
  ci abt 56 [S s,S k,S w] G (fun v G'=>∃ b qs cv,v = Tu [Pt b 0,Ag [S (sg k),S (bs k),S (nm k)],Ag (bE cv),Bo true] ∧ ag qs = ts ∧ ScI G' b qs ∧ V.rep G' u cv):=by
 have hw:=co hs
 have hk : a9 s k = true:=by unfold a9;rw [hs];exact hki
 have cx_boa : ∀ G,ci abt 52 [S s,S k] G (fun v G'=>∃ b qs,v = Tu [Pt b 0,Ag [S (sg k),S (bs k),S (nm k)],Bo true] ∧ ag qs = ts ∧ ScI G' b qs):=fun G=>by
  refine (eP (G:=G) (s:=s) (k:=k) oM oM).mono ?_
  rintro v G' L' ⟨h1,h2,⟨h4,_⟩ | ⟨b,qs,rfl,h4,h5,h6⟩⟩
  ·rw [h4] at hk;cases hk
  ·rw [hs] at h4;exact ⟨h1,h2,b,qs,F,(Option.some.inj h4).symm,h6⟩
 have cx_ri1 : ∀ G b qs,ag qs = ts → ScI G b qs → ci abt 92 [Pt b 0,Ag [S (sg k),S (bs k),S (nm k)],S w] G (fun v G'=>∃ cv,v = Tu [Ag (bE cv),Bo true] ∧ V.rep G' u cv):=fun G b qs hq hS=>by
  subst hq
  refine (oW (G:=G) (b:=b) (s:=w) hS hw hki oM).mono ?_
  rintro v G' L' ⟨h1,h2,⟨h4,_⟩ | ⟨u',c,h4,rfl,h5⟩⟩
  ·rw [hvo] at h4;cases h4
  ·rw [hvo] at h4;obtain rfl:=Option.some.inj h4;exact ⟨h1,h2,c,F,h5⟩
 refine jB [(0,_),(1,_),(2,_)] Tryz.func56 Tryz.ntmps56 fun B hok hB hW=>?_
 repeat' (first | refine jR ?_ | (refine jo ?_;first | refine jL fun _=>?_ | refine jC F F F ?_ | refine aK F ?_ | (refine aM F F F (cx_boa _) F ?_;rintro _ G hle ⟨ba,qa,rfl,hT1,hR1⟩;skip) | (refine aM F F F ((cx_ri1 _ _ _) (by (repeat (assumption));done) (by (repeat (assumption));done)) rfl ?_;rintro _ G hle ⟨cv,rfl,hrv⟩;skip)) | refine af F F ?_)
 rename_i x7 x8 Ga hla x11 x13
 dsimp only [bE,VC.sl]
 (refine ak (ar (id:=5) [.blk x13 (.cells (List.toArray [U8 (cv.what : Nat),S cv.text,I cv.tag,.slice cv.a cv.n cv.c]) hX (0,0)),.blk x11 (.cells (List.toArray [S (sg k),S (bs k),S (nm k)]) sV (0,0))] (by intro y hy;simp only [List.mem_cons,List.not_mem_nil,or_false] at hy ⊢;rcases hy with hy | hy <;> simp [hy]) aj ?_);refine jW 5 [0,3,4] (aa 8 25) ?_;(refine jG (aa 8 27) 1 F (bC F F F F) ?_);(refine jG (aa 8 31) 2 F (bC F F F F) ?_);refine jA 5 F ?_;(refine jC F F F ?_);refine jK (aa 8 63) ?_;refine jA 6 F ?_;(refine jC F F F ?_);refine jK (aa 8 127) ?_;refine jW 0 [7] (aa 8 255) ?_;refine jQ ?_)
 all_goals repeat' (refine jR ?_)
 all_goals refine jZ (vs:=[_,_,_,_]) F ⟨F,aw F F F F,aw F F F F,F,trivial⟩ F ⟨(Gh.le.trans aS hle),F,?_⟩
 all_goals exact ⟨ba,qa,cv,F,hT1,hR1.mono hle,hrv⟩
def yx (b : Nat) : List Value:=[Pt b 0]
instance : RowF yx 1:=⟨fun _=>rfl⟩
def r7 (n : Int) : List Value:=[I n]
instance : RowF r7 1:=⟨fun _=>rfl⟩
inductive RepR (G : Gh) (ts : List Ty) : V → abu → Nat → Prop
 | leaf (w : Nat) (x k tx : abu) (b : Nat) : bN G b 0 [S k,S tx,aA,aA] → ((w = 110 ∧ k = [110] ∧ tx = x ∧ ∀ c ∈ x,br c = true) ∨ (w = 116 ∧ k = [116] ∧ tx = 39 :: (x ++ [39])) ∨ (w = 102 ∧ k = [102] ∧ tx = x ∧ (x = [121,101,115] ∨ x = [110,111]))) → RepR G ts (.nd w x 0 []) k b
 | lst (k : abu) (b : Nat) (ks : List V) (bs : List Nat) (a : Option Addr) (c : Nat) : bN G b 0 [S (91 :: k),S [],aA,.slice a ks.length c] → bh G (.slice a ks.length c) 1 ks.length (ao yx bs) → bs.length = ks.length → (∀ i,i < ks.length → RepR G ts (ac ks i) k (ac bs i)) → RepR G ts (.nd 91 [] 0 ks) (91 :: k) b
 | non (k : abu) (b : Nat) : bN G b 0 [S (63 :: k),S [],aA,aA] → RepR G ts (.nd 63 [] 0 []) (63 :: k) b
 | opt (k : abu) (b kb b' cc : Nat) (v : V) : 1 ≤ cc → bN G b 0 [S (63 :: k),S [],aA,.slice (some ⟨kb,0,none⟩) 1 cc] → bN G kb 0 [Pt b' 0] → RepR G ts v k b' → RepR G ts (.nd 63 [] 0 [v]) (63 :: k) b
 | recd (k : abu) (b : Nat) (t : Ty) (fs : List (Fld × V)) (bs : List Nat) (a a2 : Option Addr) (c c2 : Nat) : aL ts k = some t ∧ t.sort = 82 → bN G b 0 [S k,S [82],.slice a fs.length c,.slice a2 fs.length c2] → bh G (.slice a fs.length c) 1 fs.length (ao r7 (fs.map fun p=>p.1.tag)) → bh G (.slice a2 fs.length c2) 1 fs.length (ao yx bs) → bs.length = fs.length → (∀ i,i < fs.length → (ac fs i).1 ∈ t.fields) → (∀ i,i < fs.length → RepR G ts (ac fs i).2 (ac fs i).1.kind (ac bs i)) → RepR G ts (.nd 82 [] 0 (fs.map fun p=>.nd 61 [] p.1.tag [p.2])) k b
 | enm (k : abu) (b tb : Nat) (t : Ty) (d : Fld) {tc : Nat} : aL ts k = some t ∧ t.sort = 69 → d ∈ t.fields → bN G b 0 [S k,S [69],.slice (some ⟨tb,0,none⟩) 1 (tc + 1),aA] → bN G tb 0 [I d.tag] → RepR G ts (.nd 69 [] d.tag []) k b
 | uni (k : abu) (b tb kb b' cc : Nat) (t : Ty) (d : Fld) (v : V) {tc : Nat} : 1 ≤ cc → aL ts k = some t ∧ t.sort = 85 → d ∈ t.fields → bN G b 0 [S k,S [85],.slice (some ⟨tb,0,none⟩) 1 (tc + 1),.slice (some ⟨kb,0,none⟩) 1 cc] → bN G tb 0 [I d.tag] → bN G kb 0 [Pt b' 0] → RepR G ts v d.kind b' → RepR G ts (.nd 85 [] d.tag [v]) k b
theorem RepR.mono {G G' : Gh} {ts : List Ty} (hl : Gh.le G G') {v : V} {k : abu} {b : Nat} (h : RepR G ts v k b) : RepR G' ts v k b:=by
 induction h with
 | leaf w x k tx b h1 h2=>exact .leaf w x k tx b (h1.mono hl) h2
 | lst k b ks bs a c h1 h2 h3 _ ih=>exact .lst k b ks bs a c (h1.mono hl) (h2.mono hl) h3 ih
 | non k b h1=>exact .non k b (h1.mono hl)
 | opt k b kb b' cc v h0 h1 h2 _ ih=>exact .opt k b kb b' cc v h0 (h1.mono hl) (h2.mono hl) ih
 | recd k b t fs bs a a2 c c2 h0 h1 h2 h3 h4 h5 _ ih=>exact .recd k b t fs bs a a2 c c2 h0 (h1.mono hl) (h2.mono hl) (h3.mono hl) h4 h5 ih
 | enm k b tb t d h0 h1 h2 h3=>exact .enm k b tb t d h0 h1 (h2.mono hl) (h3.mono hl)
 | uni k b tb kb b' cc t d v hcc h0 h1 h2 h3 h4 _ ih=>exact .uni k b tb kb b' cc t d v hcc h0 h1 (h2.mono hl) (h3.mono hl) (h4.mono hl) ih
theorem w6 {ts : List Ty} {k : abu} {t : Ty} (h : aL ts k = some t) : ∃ r,k = 64 :: r:=by
 unfold aL at h
 cases k with
 | nil=>cases h
 | cons c r =>
  unfold bc at h
  dsimp only at h
  by_cases h64 : c.toNat = 64
  ·exact ⟨r,by rw [show c = 64 from UInt8.toNat_inj.1 h64]⟩
  ·rw [if_neg h64] at h;cases h
def kg (n : Int) : Value:=if 0 ≤ n ∧ n ≤ 999999 then Tu [S (cA n),Bo true] else Tu [S [],Bo false]
theorem vh {n : Int} : aI abt 68 [I n] G (· = kg n):=by
 refine jE [(0,_)] Tryz.func68 Tryz.ntmps68 fun B hB=>?_
 repeat' (first | refine jR ?_ | (refine jo ?_;first | refine aP F ?_ | refine aH F ?_) | refine dR F F (fun _=>?_) (fun _=>?_) | refine ae F F ?_ | refine cJ F (fun _=>?_) (fun _=>?_))
 ·refine jY (vs:=[_,_]) ?_
  rw [dV,kg,if_neg oM]
 ·refine jY (vs:=[_,_]) ?_
  rw [dV,kg,if_neg oM]
 ·refine Nx.addNil 5 1 ?_
  refine aU (ι:=Value × abu × Int) (fun i=>0 ≤ i.2.2 ∧ i.2.2 ≤ 999999 ∧ i.2.1 ++ cA i.2.2 = cA n ∧ i.2.1.length ≤ 100) (fun i=>[(0,I i.2.2),(4,i.1)]) (fun _=>G) (fun i=>[.acc i.1 5 1 i.2.1.length (bB i.2.1)]) (fun i=>i.2.2.toNat) (aA,[],n) ?_ tU F a6 (fun i hI=>?_)
  ·dsimp only;refine ⟨?_,?_,?_,?_⟩ <;> first | omega | simp
  ·obtain ⟨v,l,m⟩:=i
   dsimp only at hI ⊢
   repeat' (first | refine jM ?_ | (refine jo ?_;first | refine jF fun _=>?_ | refine pR F F F F F F F F oM fun _=>?_ | refine jV (aai F (by (repeat (first | exact BL.nil | apply BL.cons | apply BL.ap));done)) ?_) | refine cJ F (fun _=>?_) (fun _=>?_))
   ·have h1:=iq (n:=m) oM
    (refine aT (_,l ++ [u8 (m % 128 + 128)],m / 128) ?_ ?_ tU F (by (dsimp only;simp only [vy,List.length_append,List.length_cons,List.length_nil,Nat.zero_add];repeat (first | exact List.nil_sublist _ | apply List.Sublist.cons_cons))))
    ·refine ⟨?_,?_,?_,?_⟩ <;> dsimp only
     ·omega
     ·omega
     ·rw [← hI.2.2.1,h1,Int.add_comm];simp
     ·have:=dA (n:=n) oM
      rw [← hI.2.2.1,h1] at this
      simp at this ⊢;omega
    ·dsimp only;omega
   ·refine jY (vs:=[_,_]) ?_
    rw [dV,kg,if_pos oM,← hI.2.2.1,gF oM hI.1]
theorem g9 {n : Int} (h : 0 ≤ n ∧ n ≤ 999999) : aI abt 35 [I n] G (· = S (cA n)):=by
 have e : kg n = Tu [S (cA n),Bo true]:=by rw [kg,if_pos h]
 have cx_NumPut : aI abt 68 [I n] G (· = Tu [S (cA n),Bo true]):=by rw [← e];exact vh
 refine jE [(0,_)] Tryz.func35 Tryz.ntmps35 fun B hB=>?_
 repeat' (first | refine jR ?_ | (refine jo ?_;refine ad F F F cx_NumPut F ?_))
 refine jY (vs:=[_]) ?_
 rfl
theorem su {s : abu} (h : s.length ≤ 999999) : aI abt 36 [S s] G (· = S (cA s.length ++ s)):=by
 have:=dA (n:=s.length) oM
 refine jE [(0,_)] Tryz.func36 Tryz.ntmps36 fun B hB=>?_
 repeat' (first | refine jM ?_ | (refine jo ?_;refine ad F F F (g9 oM) F ?_))
 refine jY (vs:=[_]) ?_
 rfl
theorem sq {b : Nat} {l : abu} (hm : 0 < l.length ∧ l.length ≤ 1000000000) : b6 abt 133 [Pt b 0,S l] G [.blk b (.cells (List.toArray [.pointer none,aA]) dZ (0,0))]
  (fun r L'=>∃ b2 c2,r = Tu [I l.length,.nilIface] ∧ L' = [.acc (.slice (some ⟨b2,0,none⟩) l.length (c2 + 1)) gn 1 l.length (bB l),.blk b (.cells (List.toArray [Pt b 0,.slice (some ⟨b2,0,none⟩) l.length (c2 + 1)]) dZ (0,0))]):=by
 refine jH [(0,_),(1,_)] Tryz.func133 Tryz.ntmps133 fun B hB hW=>?_
 repeat' (first | refine jR ?_ | (refine jo ?_;first | refine ah F ?_ | refine zz F F F oM fun _ _=>?_ | refine jD F F F ?_ | (refine ai F F F wR F ?_;rintro _ _ rfl;dsimp only [zA,fA])))
 exact aN (vs:=[_,_]) F ⟨F,F,trivial⟩ F (List.Sublist.refl _) ⟨F,_,_,F,F⟩
theorem xP {b : Nat} : b6 abt 134 [Pt b 0] G [.blk b (.cells (List.toArray [.pointer none,aA]) dZ (0,0))] (fun r L'=>r = S [] ∧ L' = []):=by
 refine jH [(0,_)] Tryz.func134 Tryz.ntmps134 fun B hB hW=>?_
 repeat' (first | refine jR ?_ | (refine ak (ar (id:=1) _ (fun _ h=>h) aj ?_);refine jT 6 [0,1,2,5,6,7] (aa 12 231) ?_;(refine jG (aa 12 239) 3 F (an F F F) ?_);(refine jG (aa 12 255) 4 F (xm F) ?_);(refine jG (aa 12 511) 8 F (an F F F) ?_);(refine jG (aa 12 1023) 9 F (aq F) ?_);(refine jG (aa 12 2047) 10 F (xh F F) ?_);refine jT 0 [11] (aa 12 4095) ?_;refine jQ ?_))
 refine jZ (vs:=[_]) F ⟨F,trivial⟩ F ⟨F,F,?_⟩
 rfl
def mc (b : Nat) (q : Option (Nat × Nat)) (l : abu) : List Own:=match q with
 | none=>[.blk b (.cells (List.toArray [.pointer none,aA]) dZ (0,0))]
 | some (b2,c2)=>[.acc (.slice (some ⟨b2,0,none⟩) l.length (c2 + 1)) gn 1 l.length (bB l),.blk b (.cells (List.toArray [Pt b 0,.slice (some ⟨b2,0,none⟩) l.length (c2 + 1)]) dZ (0,0))]
theorem sJ {b b2 c2 : Nat} {l m : abu} {L : List Own} : (Own.acc (.slice (some ⟨b2,0,none⟩) (l.length + m.length) (c2 + 1)) gn 1 (l.length + m.length) (bB l ++ bB m) :: .blk b (.cells (List.toArray [Pt b 0,.slice (some ⟨b2,0,none⟩) (l.length + m.length) (c2 + 1)]) dZ (0,0)) :: L) =
  Own.acc (.slice (some ⟨b2,0,none⟩) (l ++ m).length (c2 + 1)) gn 1 (l ++ m).length (bB (l ++ m)) :: .blk b (.cells (List.toArray [Pt b 0,.slice (some ⟨b2,0,none⟩) (l ++ m).length (c2 + 1)]) dZ (0,0)) :: L:=by
 simp [bB]
theorem ik {w : Nat} {x : abu} {t : Int} {a : Option Addr} {k : Nat} (hw : tY w x t []) (h : w = 110 ∨ w = 116 ∨ w = 102 ∨ w = 69) (hx : x.length ≤ 100000) : aI abt 95 [Ag [U8 (w : Nat),S x,I t,.slice a ([] : List V).length k]] G (· = S (V.nd w x t []).bys):=by
 have hty:=oB hw
 unfold tY at hw
 rcases h with rfl | rfl | rfl | rfl
 ·simp only [Nat.reduceEqDiff,false_and,or_false,true_and] at hw
  obtain ⟨rfl,m,hm0,hm1,hx1,hnum0⟩:=hw
  have cx_pnB:=gN (G:=G) (s:=x) (top:=999999) oM
  refine jE [(0,_)] Tryz.func95 Tryz.ntmps95 fun B hB=>?_
  repeat' (first | refine jR ?_ | (refine jo ?_;first | refine jO fun _=>?_ | refine ah F ?_ | (refine dO F F F (eO oM) F ?_;rintro _ ⟨n,rfl,hnum⟩)) | refine ae F F ?_)
  obtain rfl:=hnum _ hnum0
  repeat' (first | refine jR ?_ | (refine jo ?_;refine ad F F F (g9 oM) F ?_))
  refine jY (vs:=[_]) ?_
  rw [aE,V.bys];simp [j5,hnum0]
 ·refine jE [(0,_)] Tryz.func95 Tryz.ntmps95 fun B hB=>?_
  repeat' (first | refine jR ?_ | (refine jo ?_;first | refine jO fun _=>?_ | refine ah F ?_ | refine ad F F F (su oM) F ?_) | refine ae F F ?_ | refine af F F ?_)
  refine jY (vs:=[_]) ?_
  rw [aE,V.bys];rfl
 ·simp only [Nat.reduceEqDiff,false_and,or_false,true_and,false_or] at hw
  obtain ⟨rfl,rfl | rfl⟩:=hw
  all_goals
   refine jE [(0,_)] Tryz.func95 Tryz.ntmps95 fun B hB=>?_
   repeat' (first | refine jR ?_ | (refine jo ?_;first | refine jO fun _=>?_ | refine ah F ?_) | refine ae F F ?_ | refine af F F ?_)
   refine jY (vs:=[_]) ?_
   rw [aE,V.bys];rfl
 ·have h7 : (cA t).length ≤ 3:=dA oM
  refine jE [(0,_)] Tryz.func95 Tryz.ntmps95 fun B hB=>?_
  repeat' (first | refine jR ?_ | (refine jo ?_;first | refine jO fun _=>?_ | refine ah F ?_ | refine ad F F F (g9 oM) F ?_) | refine ae F F ?_ | refine af F F ?_)
  refine jY (vs:=[_]) ?_
  rw [aE,V.bys];rfl
theorem tQ {a : Option Addr} {k : Nat} : aI abt 95 [Ag [U8 (63 : Nat),S [],I 0,.slice a ([] : List V).length k]] G (· = S (V.nd 63 [] 0 []).bys):=by
 refine jE [(0,_)] Tryz.func95 Tryz.ntmps95 fun B hB=>?_
 repeat' (first | refine jR ?_ | (refine jo ?_;first | refine jO fun _=>?_ | refine ah F ?_ | refine jV (aq F) ?_) | refine ae F F ?_ | refine af F F ?_)
 refine jY (vs:=[_]) ?_
 rw [aE,V.bys];rfl
theorem vd {w : Nat} {t : Int} {u : V} {b o k : Nat} {d : VC} (h : w = 63 ∨ w = 85 ∨ w = 61) (ht : 0 ≤ t ∧ t ≤ 200) (cx_bys : aI abt 95 [Ag (bE d)] G (· = S u.bys)) (hbl : u.bys.length ≤ 100000) (hs : bN G b o (bE d)) :
  aI abt 95 [Ag [U8 (w : Nat),S [],I t,.slice (some ⟨b,o,none⟩) 1 k]] G (· = S (V.nd w [] t [u]).bys):=by
 have hn3:=dA (n:=t) oM
 have hn4:=dA (n:=(u.bys.length : Nat)) oM
 have e1 : (V.nd w [] t [u]).bys = j5 w [] t 1 u.bys:=by rw [V.bys];simp [V.byss]
 rw [e1]
 rcases h with rfl | rfl | rfl
 all_goals
  refine jE [(0,_)] Tryz.func95 Tryz.ntmps95 fun B hB=>?_
  repeat' (first | refine jX ?_ | (refine jo ?_;first | refine jO fun _=>?_ | refine ah F ?_ | refine jV (uI F F aS F F F) ?_ | refine jV (aq F) ?_ | refine jV (aZ F F oM) ?_ | refine ad F F F cx_bys F ?_) | refine ae F F ?_ | refine af F F ?_ | (refine ak (ar (id:=28) _ (fun _ h=>h) aj ?_);refine jT 9 [0,3] (aa 11 9) ?_;(refine jG (aa 11 11) 1 F (an F F F) ?_);(refine jG (aa 11 27) 4 F (an F F F) ?_);(refine jG (aa 11 59) 5 F (aZ F F oM) ?_);(refine jG (aa 11 123) 6 F (uI F F aS F F F) ?_);refine jA 2 F ?_;(refine ad F F F (g9 oM) F ?_);refine jS (aa 11 127) ?_;refine jA 7 F ?_;(refine ad F F F cx_bys F ?_);refine jS (aa 11 255) ?_;refine jA 8 F ?_;(refine ad F F F (su oM) F ?_);refine jS (aa 11 511) ?_;refine jW 0 [9,10] (aa 11 2047) ?_;refine jQ ?_))
  refine jY (vs:=[_]) ?_
  rw [aE];rfl
theorem ve {ks : List V} {cs : List VC} {a : Option Addr} {k : Nat} (hk : ks.length ≤ 100000) (hcl : cs.length = ks.length) (hsl : bh G (.slice a ks.length k) 4 cs.length (ao bE cs)) (hfl : (V.byss ks).flatten.length ≤ 100000)
  (ih : ∀ i,i < ks.length → aI abt 95 [Ag (bE (ac cs i))] G (· = S (ac ks i).bys) ∧ (ac ks i).bys.length ≤ 100000) :
  aI abt 95 [Ag [U8 (91 : Nat),S [],I 0,.slice a ks.length k]] G (· = S (V.nd 91 [] 0 ks).bys):=by
 have hkp:=fk ks.length
 have hk3:=dA (n:=ks.length) oM
 have hnp : 0 < (cA ks.length).length ∧ (cA ks.length).length ≤ 1000000000:=oM
 refine jE [(0,_)] Tryz.func95 Tryz.ntmps95 fun B hB=>?_
 repeat' (first | refine jR ?_ | (refine jo ?_;first | refine jO fun _=>?_ | refine ah F ?_ | refine jL fun _=>?_ | refine jV (aq F) ?_ | refine ad F F F (g9 oM) F ?_ | (refine ai F F F (sq oM) F ?_;rintro _ _ ⟨b3,c3,rfl,rfl⟩;dsimp only [zA,fA])) | refine ae F F ?_ | refine af F F ?_)
 rename_i bv bb
 refine aU (ι:=Nat × Nat × Nat × abu) (fun q=>q.1 ≤ ks.length ∧ q.2.2.2 = cA (ks.length : Nat) ++ ((V.byss ks).take q.1).flatten) (fun q=>[(5,Pt bb 0),(41,.slice a ks.length k),(42,I ks.length),(43,I q.1)]) (fun _=>G) (fun q=>[.acc (.slice (some ⟨q.2.1,0,none⟩) q.2.2.2.length (q.2.2.1 + 1)) gn 1 q.2.2.2.length (bB q.2.2.2),.blk bb (.cells (List.toArray [Pt bb 0,.slice (some ⟨q.2.1,0,none⟩) q.2.2.2.length (q.2.2.1 + 1)]) dZ (0,0)),.blk bv (.cells (List.toArray [U8 (91 : Nat),S [],I 0,.slice a ks.length k]) hX (0,0))]) (fun q=>ks.length - q.1) (0,b3,c3,cA (ks.length : Nat)) ?_ tU F a6 (fun q Hq=>?_)
 ·exact ⟨Nat.zero_le _,by simp⟩
 obtain ⟨i,b2,c2,l⟩:=q
 dsimp only at Hq ⊢
 obtain ⟨hi0,hl⟩:=Hq
 have hj1:=pq ks i
 have hll : l.length ≤ 200000:=by rw [hl,List.length_append];omega
 by_cases hi : i < ks.length
 ·obtain ⟨cx_bys,hbl⟩:=ih i hi
  obtain ⟨bf,of,cf,e,hs⟩:=hsl.expl oM
  simp only [Value.slice.injEq] at e
  obtain ⟨rfl,-,rfl⟩:=e
  have hm9 : l.length + (ac ks i).bys.length ≤ 1000000000:=oM
  repeat' (first | refine jM ?_ | (refine jo ?_;first | (refine jV (bz F F aS ?_) ?_;focus omega) | refine aK F ?_ | refine jL fun _=>?_ | refine jV (al F F oM) ?_ | refine jC F F F ?_ | (refine fI F F F (oc (by (repeat (assumption));done)) rfl ?_;rintro _ _ ⟨b3,c3,rfl,rfl⟩;dsimp only [zA,fA]) | refine ad F F F cx_bys F ?_) | refine ae F (aC oM) ?_)
  rw [sJ]
  exact aT (i + 1,_,_,l ++ (ac ks i).bys) ⟨by dsimp only;omega,by dsimp only;rw [hl,pr hi,List.append_assoc]⟩ (by dsimp only;omega) tU rfl sB
 ·have hin : i = ks.length:=oM
  subst hin
  rw [← ld,List.take_length] at hl
  repeat' (first | refine jR ?_ | (refine jo ?_;(refine fI F F F (rh oM) F ?_;rintro _ _ ⟨rfl,rfl⟩;dsimp only [zA,fA])) | refine af F (aF oM) ?_)
  refine jY (vs:=[_]) ?_
  rw [aE,V.bys,hl,ld];rfl
theorem vb {ks : List V} {cs : List VC} {a : Option Addr} {k : Nat} (hk : ks.length ≤ 100000) (hcl : cs.length = ks.length) (hsl : bh G (.slice a ks.length k) 4 cs.length (ao bE cs)) (hfl : (V.byss ks).flatten.length ≤ 100000)
  (ih : ∀ i,i < ks.length → aI abt 95 [Ag (bE (ac cs i))] G (· = S (ac ks i).bys) ∧ 0 < (ac ks i).bys.length ∧ (ac ks i).bys.length ≤ 100000) :
  aI abt 95 [Ag [U8 (82 : Nat),S [],I 0,.slice a ks.length k]] G (· = S (V.nd 82 [] 0 ks).bys):=by
 refine jE [(0,_)] Tryz.func95 Tryz.ntmps95 fun B hB=>?_
 repeat' (first | refine jR ?_ | (refine jo ?_;first | refine jO fun _=>?_ | refine ah F ?_ | refine jL fun _=>?_ | refine jV (aq F) ?_) | refine af F F ?_)
 rename_i bv bb
 refine aU (ι:=Nat × Option (Nat × Nat) × abu) (fun q=>q.1 ≤ ks.length ∧ q.2.2 = ((V.byss ks).take q.1).flatten ∧ (q.2.1 = none → q.2.2 = [])) (fun q=>[(8,Pt bb 0),(83,.slice a ks.length k),(84,I ks.length),(85,I q.1)]) (fun _=>G) (fun q=>mc bb q.2.1 q.2.2 ++ [.blk bv (.cells (List.toArray [U8 (82 : Nat),S [],I 0,.slice a ks.length k]) hX (0,0))]) (fun q=>ks.length - q.1) (0,none,[]) ?_ tU F (by dsimp only [mc];repeat (exact List.Sublist.refl _)) (fun q Hq=>?_)
 ·exact ⟨Nat.zero_le _,by simp,fun _=>rfl⟩
 obtain ⟨i,q,l⟩:=q
 dsimp only at Hq ⊢
 obtain ⟨hi0,hl,hl0⟩:=Hq
 have hj1:=pq ks i
 have hll : l.length ≤ 200000:=by rw [hl];omega
 by_cases hi : i < ks.length
 ·obtain ⟨cx_bys,hbl⟩:=ih i hi
  obtain ⟨bf,of,cf,e,hs⟩:=hsl.expl oM
  simp only [Value.slice.injEq] at e
  obtain ⟨rfl,-,rfl⟩:=e
  have hm9 : l.length + (ac ks i).bys.length ≤ 1000000000:=oM
  have hbl0 : 0 < (ac ks i).bys.length ∧ (ac ks i).bys.length ≤ 1000000000:=oM
  have hfn:=pr hi
  rw [← hl] at hfn
  cases q with
  | none =>
   obtain rfl:=hl0 rfl
   simp only [mc,List.cons_append,List.nil_append]
   repeat' (first | refine jM ?_ | (refine jo ?_;first | (refine jV (bz F F aS ?_) ?_;focus omega) | refine aK F ?_ | refine jL fun _=>?_ | refine jV (al F F oM) ?_ | refine jC F F F ?_ | (refine ai F F F (sq oM) F ?_;rintro _ _ ⟨b3,c3,rfl,rfl⟩;dsimp only [zA,fA]) | refine ad F F F cx_bys F ?_) | refine ae F (aC oM) ?_)
   exact aT (i + 1,some (_,_),(ac ks i).bys) ⟨by dsimp only;omega,by dsimp only;rw [hfn];rfl,fun h=>(by cases h)⟩ (by dsimp only;omega) tU rfl (by dsimp only [mc];repeat (first | exact List.Sublist.refl _ | apply List.Sublist.cons_cons | apply List.Sublist.cons))
  | some q =>
   obtain ⟨b2,c2⟩:=q
   simp only [mc,List.cons_append,List.nil_append]
   repeat' (first | refine jM ?_ | (refine jo ?_;first | (refine jV (bz F F aS ?_) ?_;focus omega) | refine aK F ?_ | refine jL fun _=>?_ | refine jV (al F F oM) ?_ | refine jC F F F ?_ | (refine fI F F F (oc (by (repeat (assumption));done)) rfl ?_;rintro _ _ ⟨b3,c3,rfl,rfl⟩;dsimp only [zA,fA]) | refine ad F F F cx_bys F ?_) | refine ae F (aC oM) ?_)
   rw [sJ]
   exact aT (i + 1,some (_,_),l ++ (ac ks i).bys) ⟨by dsimp only;omega,by dsimp only;rw [hfn],fun h=>(by cases h)⟩ (by dsimp only;omega) tU rfl (by dsimp only [mc];repeat (first | exact List.Sublist.refl _ | apply List.Sublist.cons_cons | apply List.Sublist.cons))
 ·have hin : i = ks.length:=oM
  subst hin
  rw [← ld,List.take_length] at hl
  have e2 : (V.nd 82 [] 0 ks).bys = l ++ [0]:=by rw [V.bys,hl];rfl
  rw [e2]
  cases q with
  | none =>
   obtain rfl:=hl0 rfl
   simp only [mc,List.cons_append,List.nil_append]
   repeat' (first | refine jX ?_ | (refine jo ?_;(refine ai F F F xP F ?_;rintro _ _ ⟨rfl,rfl⟩;dsimp only [zA,fA])) | refine af F (aF oM) ?_)
   refine jY (vs:=[_]) ?_
   rw [aE];rfl
  | some q =>
   obtain ⟨b2,c2⟩:=q
   simp only [mc,List.cons_append,List.nil_append]
   repeat' (first | refine jX ?_ | (refine jo ?_;(refine fI F F F (rh oM) F ?_;rintro _ _ ⟨rfl,rfl⟩;dsimp only [zA,fA])) | refine af F (aF oM) ?_)
   refine jY (vs:=[_]) ?_
   rw [aE]
theorem aaF : ∀ (n : Nat) {v : V} {c : VC},v.tot ≤ n → v.tot ≤ 100000 → v.wf → V.rep G v c → aI abt 95 [Ag (bE c)] G (· = S v.bys):=by
 intro n
 induction n with
 | zero=>intro v c h1 _ _ _;have:=im v;omega
 | succ n ih =>
  intro v c h1 h2 hwf h
  obtain ⟨w,x,t,ks⟩:=v
  rw [V.wf] at hwf
  obtain ⟨hwf,hwk⟩:=hwf
  have hty:=oB hwf
  rw [fm] at h1 h2
  obtain ⟨a,k,cs,rfl,hw,ht,h61,hcl,hsl,hks⟩:=ip h
  have hkl:=e7 ks
  have hfl:=l8 ks hwk oM
  have hK : ∀ i,i < ks.length → aI abt 95 [Ag (bE (ac cs i))] G (· = S (ac ks i).bys) ∧ 0 < (ac ks i).bys.length ∧ (ac ks i).bys.length ≤ 100000:=fun i hi=>by
   have hti:=mg hi
   have hwi:=xZ hwk hi
   have hbl:=sH _ hwi oM
   exact ⟨ih oM oM hwi (iE hks i hi),oM,oM⟩
  have h1K : ks.length = 1 → (w = 63 ∨ w = 85 ∨ w = 61) → x = [] → aI abt 95 [Ag (bE ⟨w,x,t,a,ks.length,k⟩)] G (· = S (V.nd w x t ks).bys):=fun hk1 hw3 hx=>by
   obtain ⟨hk0,_,hk0l⟩:=hK 0 oM
   obtain ⟨bf,of,cf,e,hs⟩:=hsl.expl oM
   simp only [Value.slice.injEq] at e
   obtain ⟨rfl,-,rfl⟩:=e
   obtain ⟨u,rfl⟩:=List.length_eq_one_iff.1 hk1
   obtain ⟨d,rfl⟩:=List.length_eq_one_iff.1 (show cs.length = 1 by rw [hcl];rfl)
   subst hx
   exact vd hw3 hty hk0 hk0l hs
  rcases hwf with h7 | h7 | h7 | ⟨rfl,rfl,rfl,hk20,hk61⟩ | ⟨rfl,rfl,rfl,hk1,hk61⟩ | h7 | ⟨rfl,rfl,_,_,hk1,_⟩ | ⟨rfl,rfl,_,_,hk1,_⟩ | ⟨rfl,rfl,rfl,hpw,hka⟩
  ·obtain ⟨rfl,rfl,h8⟩:=h7
   exact ik (.inl ⟨F,F,h8⟩) (.inl F) (by dsimp only;omega)
  ·obtain ⟨rfl,rfl,h8⟩:=h7
   exact ik (.inr (.inl ⟨F,F,h8⟩)) (.inr (.inl F)) (by dsimp only;omega)
  ·obtain ⟨rfl,rfl,h8⟩:=h7
   exact ik (.inr (.inr (.inl ⟨F,F,h8⟩))) (.inr (.inr (.inl F))) (by dsimp only;omega)
  ·exact ve oM hcl hsl oM fun i hi=>⟨(hK i hi).1,(hK i hi).2.2⟩
  ·by_cases hk0 : ks.length = 0
   ·obtain rfl:=List.eq_nil_of_length_eq_zero hk0
    exact tQ
   ·exact h1K oM (.inl F) F
  ·obtain ⟨rfl,rfl,h8,h9,rfl⟩:=h7
   exact ik (.inr (.inr (.inr (.inr (.inr (.inl ⟨F,F,h8,h9,F⟩)))))) (.inr (.inr (.inr F))) (by simp)
  ·exact h1K hk1 (.inr (.inl F)) F
  ·exact h1K hk1 (.inr (.inr F)) F
  ·exact vb oM hcl hsl oM fun i hi=>⟨(hK i hi).1,(hK i hi).2.1,(hK i hi).2.2⟩
def fM (s k w : abu) : Option abu:=match gr s k w with
 | some u=>if u.bys.length ≤ 600 then some u.bys else none
 | none=>none
theorem tS {s k w b : abu} (h : fM s k w = some b) : b.length ≤ 600:=by
 unfold fM at h
 split at h
 ·split at h
  ·simp only [Option.some.injEq] at h;subst h;assumption
  ·cases h
 ·cases h
theorem nY {s k w : abu} {u : V} (hg : gr s k w = some u) : ∃ ts,ax s = some ts ∧ aJ ts k = true ∧ dp ts k w = some u ∧ u.tot ≤ 40000 ∧ u.wf:=by
 obtain ⟨ts,hs,hki,hvo⟩ : ∃ ts,ax s = some ts ∧ aJ ts k = true ∧ dp ts k w = some u:=by
  unfold gr at hg
  cases hs : ax s with
  | none=>rw [hs] at hg;cases hg
  | some ts =>
   rw [hs] at hg
   dsimp only at hg
   by_cases hk : aJ ts k = true
   ·rw [if_pos hk] at hg;exact ⟨ts,F,hk,hg⟩
   ·rw [if_neg hk] at hg;cases hg
 refine ⟨ts,hs,hki,hvo,?_,(vv hvo).1⟩
 unfold dp at hvo
 split at hvo
 ·split at hvo
  ·rename_i v hv
   obtain rfl:=Option.some.inj hvo
   have:=j9 _ _ _ _ hv
   dsimp only at this;omega
  ·cases hvo
 ·cases hvo
theorem pG {c : VC} {b : abu} (cx_bys : aI abt 95 [Ag (bE c)] G (· = S b)) : aI abt 57 [Ag (bE c)] G (· = Tu [S (if b.length ≤ 600 then b else []),Bo (decide (b.length ≤ 600))]):=by
 simp only [bE,VC.sl] at *
 by_cases h6 : b.length ≤ 600
 ·rw [if_pos h6,decide_eq_true h6]
  refine jE [(0,_)] Tryz.func57 Tryz.ntmps57 fun B hB=>?_
  repeat' (first | refine jR ?_ | (refine jo ?_;first | refine jO fun _=>?_ | refine aK F ?_ | refine ad F F F cx_bys F ?_) | refine af F (aF oM) ?_)
  all_goals refine jY (vs:=[_,_]) ?_
  all_goals rfl
 ·rw [if_neg h6,decide_eq_false h6]
  refine jE [(0,_)] Tryz.func57 Tryz.ntmps57 fun B hB=>?_
  repeat' (first | refine jR ?_ | (refine jo ?_;first | refine jO fun _=>?_ | refine aK F ?_ | refine ad F F F cx_bys F ?_) | refine ae F (aC oM) ?_)
  all_goals refine jY (vs:=[_,_]) ?_
  all_goals rfl
theorem rH {s k w : abu} (h : s.length ≤ 1048576 ∧ k.length ≤ 1048576 ∧ w.length ≤ 1048576) : aI abt 24 [S s,S k,S w] G (· = Tu [S ((fM s k w).getD []),Bo (fM s k w).isSome]):=by
 unfold fM
 cases hg : gr s k w with
 | none =>
  have cx_gi0:=wd (G:=G) h hg
  refine jB (Post:=fun v G' L'=>G' = G ∧ L' = [] ∧ _) [(0,_),(1,_),(2,_)] Tryz.func24 Tryz.ntmps24 fun B hok hB hW=>?_
  repeat' (first | refine jR ?_ | (refine jo ?_;first | refine jL fun _=>?_ | refine jC F F F ?_ | (refine aM F F F cx_gi0 F ?_;rintro _ G hle ⟨p1,a1,b1,c1,rfl⟩;skip)) | refine ae F F ?_)
  all_goals refine Nx.base hok hB ?_
  all_goals refine jY (vs:=[_,_]) ?_
  all_goals rfl
 | some u =>
  obtain ⟨ts,hs,hki,hvo,hto,hwf⟩:=nY hg
  have cx_gi1:=wc (G:=G) h hs hki hvo
  dsimp only
  have cy_bys : ∀ {G : Gh} {c : VC},V.rep G u c → aI abt 95 [Ag (bE c)] G (· = S u.bys):=fun h=>aaF u.tot (Nat.le_refl _) oM hwf h
  generalize u.bys = ub at *
  by_cases h6 : ub.length ≤ 600
  ·rw [if_pos h6]
   refine jB (Post:=fun v G' L'=>G' = G ∧ L' = [] ∧ _) [(0,_),(1,_),(2,_)] Tryz.func24 Tryz.ntmps24 fun B hok hB hW=>?_
   repeat' (first | refine jR ?_ | (refine jo ?_;first | refine jL fun _=>?_ | refine jC F F F ?_ | refine aK F ?_ | (refine aM F F F cx_gi1 F ?_;rintro _ G hle ⟨bg,qg,cv,rfl,hTg,hRg,hrv⟩;skip)) | refine af F F ?_)
   have cx_tb:=pG (G:=G) (cy_bys hrv)
   rw [if_pos h6,decide_eq_true h6] at cx_tb
   repeat' (first | refine jR ?_ | (refine jo ?_;refine ad F F F cx_tb F ?_))
   all_goals refine Nx.base hok hB ?_
   all_goals refine jY (vs:=[_,_]) ?_
   all_goals rfl
  ·rw [if_neg h6]
   refine jB (Post:=fun v G' L'=>G' = G ∧ L' = [] ∧ _) [(0,_),(1,_),(2,_)] Tryz.func24 Tryz.ntmps24 fun B hok hB hW=>?_
   repeat' (first | refine jR ?_ | (refine jo ?_;first | refine jL fun _=>?_ | refine jC F F F ?_ | refine aK F ?_ | (refine aM F F F cx_gi1 F ?_;rintro _ G hle ⟨bg,qg,cv,rfl,hTg,hRg,hrv⟩;skip)) | refine af F F ?_)
   have cx_tb:=pG (G:=G) (cy_bys hrv)
   rw [if_neg h6,decide_eq_false h6] at cx_tb
   repeat' (first | refine jR ?_ | (refine jo ?_;refine ad F F F cx_tb F ?_))
   all_goals refine Nx.base hok hB ?_
   all_goals refine jY (vs:=[_,_]) ?_
   all_goals rfl
def ec (s k : abu) : Option abu:=match ax s with
 | some ts=>if aJ ts k = true then some (lx ts k) else none
 | none=>none
def fD (m : Nat) : abu → Option (Int × abu)
 | []=>none
 | c :: r=>if c.toNat < 128 then (if c.toNat = 0 ∨ 999999 < m + c.toNat * 16384 then none else some (((m + c.toNat * 16384 : Nat) : Int),r)) else none
def fP (m : Nat) : abu → Option (Int × abu)
 | []=>none
 | b :: r=>if b.toNat < 128 then (if b.toNat = 0 then none else some (((m + b.toNat * 128 : Nat) : Int),r)) else fD (m + b.toNat % 128 * 128) r
def bR : abu → Option (Int × abu)
 | []=>none
 | a :: r=>if a.toNat < 128 then some ((a.toNat : Int),r) else fP (a.toNat % 128) r
theorem ir {n : Int} (h0 : 0 ≤ n) (h1 : n ≤ 999999) (r : abu) : bR (cA n ++ r) = some (n,r):=by
 by_cases h2 : n < 128
 ·have e:=er (a:=n) oM
  rw [gF h2 h0,List.singleton_append,bR,if_pos oM,e]
 ·have e:=er (a:=128 + n % 128) oM
  rw [iq h2]
  by_cases h3 : n / 128 < 128
  ·have e2:=er (a:=n / 128) oM
   rw [gF h3 oM]
   simp only [List.cons_append,List.nil_append]
   rw [bR,if_neg oM,fP,if_pos oM,if_neg oM]
   congr 2
   omega
  ·have e2:=er (a:=128 + n / 128 % 128) oM
   have e3:=er (a:=n / 128 / 128) oM
   rw [iq h3,gF oM oM]
   simp only [List.cons_append,List.nil_append]
   rw [bR,if_neg oM,fP,if_neg oM,fD,if_pos oM,if_neg oM]
   congr 2
   omega
theorem d3 {s r : abu} {n : Int} (h : bR s = some (n,r)) : 0 ≤ n ∧ n ≤ 999999 ∧ s = cA n ++ r:=by
 cases s with
 | nil=>cases h
 | cons a s =>
  rw [bR] at h
  have ha:=a.toNat_lt
  split at h
  ·simp only [Option.some.injEq,Prod.mk.injEq] at h
   obtain ⟨rfl,rfl⟩:=h
   refine ⟨oM,oM,?_⟩
   rw [gF oM oM,gD];rfl
  ·cases s with
   | nil=>cases h
   | cons b s =>
    rw [fP] at h
    have hb:=b.toNat_lt
    split at h
    ·split at h
     ·cases h
     ·simp only [Option.some.injEq,Prod.mk.injEq] at h
      obtain ⟨rfl,rfl⟩:=h
      refine ⟨oM,oM,?_⟩
      rw [iq oM,gF oM oM]
      rw [show (128 + ((a.toNat % 128 + b.toNat * 128 : Nat) : Int) % 128) = (a.toNat : Int) by omega,show ((a.toNat % 128 + b.toNat * 128 : Nat) : Int) / 128 = (b.toNat : Int) by omega,gD,gD];rfl
    ·cases s with
     | nil=>cases h
     | cons c s =>
      rw [fD] at h
      have hc:=c.toNat_lt
      split at h
      ·split at h
       ·cases h
       ·simp only [Option.some.injEq,Prod.mk.injEq] at h
        obtain ⟨rfl,rfl⟩:=h
        refine ⟨oM,oM,?_⟩
        rw [iq oM,iq oM,gF oM oM]
        rw [show (128 + ((a.toNat % 128 + b.toNat % 128 * 128 + c.toNat * 16384 : Nat) : Int) % 128) = (a.toNat : Int) by omega,
         show (128 + ((a.toNat % 128 + b.toNat % 128 * 128 + c.toNat * 16384 : Nat) : Int) / 128 % 128) = (b.toNat : Int) by omega,
         show ((a.toNat % 128 + b.toNat % 128 * 128 + c.toNat * 16384 : Nat) : Int) / 128 / 128 = (c.toNat : Int) by omega,gD,gD,gD];rfl
      ·cases h
theorem cy {s r : abu} {n : Int} (h : bR s = some (n,r)) : r.length < s.length:=by
 obtain ⟨_,_,rfl⟩:=d3 h
 have:=fk n
 simp;omega
def cM (s : abu) : Option (abu × abu):=match bR s with
 | none=>none
 | some (n,r)=>if n.toNat ≤ r.length then some (r.take n.toNat,r.drop n.toNat) else none
theorem lF {x r : abu} (h : x.length ≤ 999999) : cM (cA x.length ++ (x ++ r)) = some (x,r):=by
 unfold cM
 rw [ir oM oM]
 dsimp only
 rw [if_pos (by simp),Int.toNat_natCast,List.take_left,List.drop_left]
theorem te {s x r : abu} (h : cM s = some (x,r)) : x.length ≤ 999999 ∧ s = cA x.length ++ (x ++ r):=by
 unfold cM at h
 split at h
 ·cases h
 ·rename_i n q hn
  obtain ⟨h0,h1,rfl⟩:=d3 hn
  split at h
  ·rename_i hl
   simp only [Option.some.injEq,Prod.mk.injEq] at h
   obtain ⟨rfl,rfl⟩:=h
   have e : ((List.take n.toNat q).length : Int) = n:=by rw [List.length_take];omega
   exact ⟨oM,by rw [e,List.take_append_drop]⟩
  ·cases h
theorem fB {s x r : abu} (h : cM s = some (x,r)) : r.length + x.length < s.length:=by
 obtain ⟨_,rfl⟩:=te h
 have:=fk x.length
 simp;omega
def bT (f : abu → Option (V × abu)) : Nat → abu → List V → Option (List V × abu)
 | 0,s,acc=>some (acc,s)
 | m + 1,s,acc=>match f s with
  | none=>none
  | some (v,r)=>bT f m r (acc ++ [v])
def db (f : abu → abu → Option (V × abu)) (k p : abu) : Option V:=match f k p with
 | some (v,[])=>some v
 | _=>none
def bO (ts : List Ty) (f : abu → abu → Option (V × abu)) (t : Ty) : Nat → Int → abu → List V → Option (List V × abu)
 | 0,_,_,_=>none
 | m + 1,last,s,acc=>match bR s with
  | none=>none
  | some (n,r)=>if n = 0 then some (acc,r) else match cM r with
   | none=>none
   | some (p,r')=>if n ≤ last then none else match bZ t.fields n with
    | none=>bO ts f t m n r' acc
    | some d=>match db f d.kind p with
     | none=>none
     | some v=>bO ts f t m n r' (if v.out = cx ts d then acc else acc ++ [.nd 61 [] d.tag [v]])
def cI (ts : List Ty) (f : abu → abu → Option (V × abu)) (t : Ty) (s : abu) : Option (V × abu) :=
 if t.sort = 82 then (bO ts f t (s.length + 1) 0 s []).map fun x=>(.nd 82 [] 0 x.1,x.2) else match bR s with
  | none=>none
  | some (n,r)=>match bZ t.fields n with
   | none=>none
   | some d=>if t.sort = 69 then some (.nd 69 [] d.tag [],r) else match cM r with
    | none=>none
    | some (p,r')=>(db f d.kind p).map fun v=>(.nd 85 [] d.tag [v],r')
def dt : abu → Option (Bool × abu)
 | []=>none
 | b :: r=>if b.toNat = 0 then some (false,r) else if b.toNat = 1 then some (true,r) else none
def fj (ts : List Ty) (f : abu → abu → Option (V × abu)) : abu → abu → Option (V × abu)
 | [],_=>none
 | c :: k,s =>
  if c.toNat = 91 then (match bR s with
   | none=>none
   | some (n,r)=>if n ≤ 20 then (bT (f k) n.toNat r []).map fun x=>(.nd 91 [] 0 x.1,x.2) else none)
  else if c.toNat = 63 then (match dt s with
   | none=>none
   | some (false,r)=>some (.nd 63 [] 0 [],r)
   | some (true,r)=>(f k r).map fun x=>(.nd 63 [] 0 [x.1],x.2))
  else match aL ts (c :: k) with
   | some t=>cI ts f t s
   | none=>if c.toNat = 110 then (bR s).map fun x=>(.nd 110 (a8 x.1) 0 [],x.2)
    else if c.toNat = 116 then (match cM s with
     | none=>none
     | some (p,r)=>if dn (39 :: (p ++ [39])) = true then some (.nd 116 p 0 [],r) else none)
    else if c.toNat = 102 then (dt s).map fun x=>(.nd 102 (if x.1 = true then [121,101,115] else [110,111]) 0 [],x.2) else none
def rb (ts : List Ty) : Nat → abu → abu → Option (V × abu)
 | 0,_,_=>none
 | n + 1,k,s=>fj ts (rb ts n) k s
theorem mJ {f : abu → Option (V × abu)} {p : V → Prop} (h : ∀ s y,f s = some y → p y.1) : ∀ (m : Nat) (s : abu) (acc : List V) {x : List V × abu},bT f m s acc = some x → (∀ v ∈ acc,p v) → (∀ v ∈ x.1,p v) ∧ x.1.length = acc.length + m
 | 0,s,acc,x,e,ha=>by simp only [bT,Option.some.injEq] at e;subst e;exact ⟨ha,F⟩
 | m + 1,s,acc,x,e,ha=>by
  unfold bT at e
  cases hf : f s with
  | none=>rw [hf] at e;cases e
  | some y =>
   rw [hf] at e
   obtain ⟨v,r⟩:=y
   have:=mJ h m r _ e (fun u hu=>by
    rcases List.mem_append.1 hu with hu | hu
    ·exact ha u hu
    ·simp only [List.mem_singleton] at hu;subst hu;exact h _ _ hf)
   exact ⟨this.1,by rw [this.2,List.length_append,List.length_singleton];omega⟩
theorem f5 {f : abu → abu → Option (V × abu)} {k p : abu} {v : V} (h : db f k p = some v) : f k p = some (v,[]):=by
 unfold db at h
 split at h
 ·rename_i u hu;rw [hu];simp only [Option.some.injEq] at h;subst h;rfl
 ·cases h
theorem pp {fs : List Fld} {n : Int} {d : Fld} (h : bZ fs n = some d) : d.tag = n ∧ d ∈ fs:=⟨by have:=List.find?_some h;simpa using this,List.mem_of_find?_eq_some h⟩
theorem i9 {ts : List Ty} {f : abu → abu → Option (V × abu)} {q : abu → V → Prop} (h : ∀ k s y,f k s = some y → q k y.1) {t : Ty} : ∀ (m : Nat) (last : Int) (s : abu) (fs : List (Fld × V)) {x : List V × abu},bO ts f t m last s (fs.map cZ) = some x → (∀ p ∈ fs,p.1 ∈ t.fields ∧ q p.1.kind p.2 ∧ p.2.out ≠ cx ts p.1 ∧ p.1.tag ≤ last) → fs.Pairwise (fun a b=>a.1.tag < b.1.tag) →
  ∃ gs : List (Fld × V),x.1 = gs.map cZ ∧ (∀ p ∈ gs,p.1 ∈ t.fields ∧ q p.1.kind p.2 ∧ p.2.out ≠ cx ts p.1) ∧ gs.Pairwise (fun a b=>a.1.tag < b.1.tag)
 | 0,_,_,_,_,e,_,_=>by cases e
 | m + 1,last,s,fs,x,e,ha,hp=>by
  unfold bO at e
  cases hn : bR s with
  | none=>rw [hn] at e;cases e
  | some y =>
   rw [hn] at e
   obtain ⟨n,r⟩:=y
   dsimp only at e
   split at e
   ·simp only [Option.some.injEq] at e;subst e
    exact ⟨fs,F,fun p hp=>⟨(ha p hp).1,(ha p hp).2.1,(ha p hp).2.2.1⟩,hp⟩
   ·split at e
    ·cases e
    ·split at e
     ·cases e
     ·rename_i hl
      have ha1 : ∀ p ∈ fs,p.1 ∈ t.fields ∧ q p.1.kind p.2 ∧ p.2.out ≠ cx ts p.1 ∧ p.1.tag ≤ n:=fun p hp=>by
       obtain ⟨a1,a2,a3,a4⟩:=ha p hp;exact ⟨a1,a2,a3,oM⟩
      split at e
      ·exact i9 h m n _ fs e ha1 hp
      ·rename_i d hd
       obtain ⟨hd1,hd2⟩:=pp hd
       split at e
       ·cases e
       ·rename_i v hv
        have hq:=h _ _ _ (f5 hv)
        split at e
        ·exact i9 h m n _ fs e ha1 hp
        ·rename_i hne
         have e2 : fs.map cZ ++ [V.nd 61 [] d.tag [v]] = (fs ++ [(d,v)]).map cZ:=by simp
         rw [e2] at e
         refine i9 h m n _ _ e (fun p hp=>?_) ?_
         ·rcases List.mem_append.1 hp with hp | hp
          ·exact ha1 p hp
          ·simp only [List.mem_singleton] at hp;subst hp;exact ⟨hd2,hq,hne,by dsimp only;omega⟩
         ·rw [List.pairwise_append]
          refine ⟨hp,List.pairwise_singleton _ _,fun a hA b hB=>?_⟩
          simp only [List.mem_singleton] at hB;subst hB
          have:=(ha a hA).2.2.2
          show a.1.tag < d.tag
          omega
theorem wy {ts : List Ty} : ∀ (n : Nat) (k s : abu) (x : V × abu),rb ts n k s = some x → OfK ts k x.1 ∧ x.1.deep ≤ n
 | 0,_,_,_,e=>by cases e
 | n + 1,k,s,x,e=>by
  have ih : ∀ k s y,rb ts n k s = some y → OfK ts k y.1 ∧ y.1.deep ≤ n:=fun k s y hy=>wy n k s y hy
  replace e : fj ts (rb ts n) k s = some x:=e
  cases k with
  | nil=>cases e
  | cons c k =>
   unfold fj at e
   dsimp only at e
   split at e
   ·rename_i hc
    obtain rfl:=cB hc dC
    split at e
    ·cases e
    ·split at e
     ·rename_i m r hm hm2
      cases hi : bT (rb ts n k) m.toNat r [] with
      | none=>rw [hi] at e;cases e
      | some y =>
       rw [hi] at e
       simp only [Option.map_some,Option.some.injEq] at e;subst e
       have h1:=mJ (p:=fun v=>OfK ts k v ∧ v.deep ≤ n) (fun s y hy=>ih k s y hy) _ _ _ hi (by simp)
       obtain ⟨h2,h3⟩:=h1
       simp only [List.length_nil] at h3
       refine ⟨.lst _ _ oM fun v hv=>(h2 v hv).1,?_⟩
       rw [cj dC]
       have:=V.deeps_le (n:=n) fun v hv=>(h2 v hv).2
       omega
     ·cases e
   ·rename_i hc
    split at e
    ·rename_i hc2
     obtain rfl:=cB hc2 dC
     split at e
     ·cases e
     ·simp only [Option.some.injEq] at e;subst e
      exact ⟨.non _,by rw [cj dC];simp [V.deeps]⟩
     ·rename_i r _
      cases hf : rb ts n k r with
      | none=>rw [hf] at e;cases e
      | some y =>
       rw [hf] at e
       simp only [Option.map_some,Option.some.injEq] at e;subst e
       obtain ⟨h1,h2⟩:=ih _ _ _ hf
       refine ⟨.opt _ _ h1,?_⟩
       rw [cj dC]
       have:=V.deeps_le (ks:=[y.1]) (n:=n) fun v hv=>by simp only [List.mem_singleton] at hv;subst hv;exact h2
       omega
    ·split at e
     ·rename_i t ht
      unfold cI at e
      split at e
      ·rename_i h82
       cases hf : bO ts (rb ts n) t (s.length + 1) 0 s [] with
       | none=>rw [hf] at e;cases e
       | some y =>
        rw [hf] at e
        simp only [Option.map_some,Option.some.injEq] at e;subst e
        obtain ⟨gs,e1,e2,e3⟩:=i9 (q:=fun k v=>OfK ts k v ∧ v.deep ≤ n) (fs:=[]) ih _ _ _ hf (by simp) (by simp)
        dsimp only
        rw [e1]
        refine ⟨.recd _ t gs ht h82 (fun p hp=>(e2 p hp).1) (fun p hp=>(e2 p hp).2.1.1) (fun p hp=>(e2 p hp).2.2) e3,?_⟩
        rw [cj dC]
        have:=V.deeps_le (ks:=gs.map cZ) (n:=n) fun v hv=>by
         obtain ⟨p,hp,rfl⟩:=List.mem_map.1 hv
         have:=(e2 p hp).2.1.2
         show V.deep (.nd 61 [] p.1.tag [p.2]) ≤ n
         rw [V.deep,if_pos rfl]
         exact V.deeps_le (ks:=[p.2]) fun v hv=>by simp only [List.mem_singleton] at hv;subst hv;exact this
        omega
      ·rename_i h82
       split at e
       ·cases e
       ·split at e
        ·cases e
        ·rename_i d hd
         obtain ⟨hd1,hd2⟩:=pp hd
         split at e
         ·rename_i h69
          simp only [Option.some.injEq] at e;subst e
          exact ⟨.enm _ t d ht h69 hd2,by rw [cj dC];simp [V.deeps]⟩
         ·rename_i h69
          split at e
          ·cases e
          ·rename_i p r' _
           cases hf : db (rb ts n) d.kind p with
           | none=>rw [hf] at e;cases e
           | some v =>
            rw [hf] at e
            simp only [Option.map_some,Option.some.injEq] at e;subst e
            obtain ⟨h1,h2⟩:=ih _ _ _ (f5 hf)
            refine ⟨.uni _ t d v ht h82 h69 hd2 h1,?_⟩
            rw [cj dC]
            have:=V.deeps_le (ks:=[v]) (n:=n) fun u hv=>by simp only [List.mem_singleton] at hv;subst hv;exact h2
            omega
     ·rename_i ht
      split at e
      ·rename_i h1
       obtain rfl:=cB h1 dC
       cases hn : bR s with
       | none=>rw [hn] at e;cases e
       | some y =>
        rw [hn] at e
        obtain ⟨m,r⟩:=y
        obtain ⟨g1,g2,_⟩:=d3 hn
        simp only [Option.map_some,Option.some.injEq] at e;subst e
        exact ⟨.num _ _ g1 g2,by rw [cj dC];simp [V.deeps]⟩
      ·split at e
       ·rename_i h1
        obtain rfl:=cB h1 dC
        split at e
        ·cases e
        ·split at e
         ·rename_i hx
          simp only [Option.some.injEq] at e;subst e
          exact ⟨.txt _ _ hx,by rw [cj dC];simp [V.deeps]⟩
         ·cases e
       ·split at e
        ·rename_i h1
         obtain rfl:=cB h1 dC
         cases hn : dt s with
         | none=>rw [hn] at e;cases e
         | some y =>
          rw [hn] at e
          simp only [Option.map_some,Option.some.injEq] at e;subst e
          refine ⟨.flg _ _ ?_,by rw [cj dC];simp [V.deeps]⟩
          split
          ·exact .inl F
          ·exact .inr F
        ·cases e
theorem nO {f : abu → Option (V × abu)} {r : abu} : ∀ (ks : List V) (acc : List V),(∀ v ∈ ks,∀ r,f (v.bys ++ r) = some (v,r)) → bT f ks.length ((V.byss ks).flatten ++ r) acc = some (acc ++ ks,r)
 | [],acc,_=>by simp [bT,V.byss]
 | v :: ks,acc,h=>by
  rw [V.byss,List.flatten_cons,List.append_assoc,List.length_cons,bT,h v (by simp)]
  dsimp only
  rw [nO ks (acc ++ [v]) fun u hu=>h u (by simp [hu])]
  simp
theorem iG {f : abu → abu → Option (V × abu)} {k p : abu} {v : V} (h : f k p = some (v,[])) : db f k p = some v:=by unfold db;rw [h]
theorem nu (p : Fld × V) : (cZ p).bys = cA p.1.tag ++ (cA p.2.bys.length ++ p.2.bys):=by
 show V.bys (.nd 61 [] p.1.tag [p.2]) = _
 rw [V.bys];simp [V.byss,j5]
theorem yy (r : abu) : bR (0 :: r) = some (0,r):=by rw [bR,if_pos dC];rfl
theorem pd {ts : List Ty} {f : abu → abu → Option (V × abu)} {t : Ty} (hw : TyW t) {r : abu} : ∀ (fs : List (Fld × V)) (m : Nat) (last : Int) (acc : List V),fs.length < m → (∀ p ∈ fs,p.1 ∈ t.fields ∧ p.2.out ≠ cx ts p.1 ∧ last < p.1.tag ∧ p.2.bys.length ≤ 999999 ∧ f p.1.kind p.2.bys = some (p.2,[])) → fs.Pairwise (fun a b=>a.1.tag < b.1.tag) →
  bO ts f t m last ((V.byss (fs.map cZ)).flatten ++ 0 :: r) acc = some (acc ++ fs.map cZ,r)
 | [],m,last,acc,hm,_,_=>by
  obtain ⟨m,rfl⟩ : ∃ n,m = n + 1:=⟨m - 1,by simp at hm;omega⟩
  simp only [List.map_nil,V.byss,List.flatten_nil,List.nil_append,bO,yy,if_pos,List.append_nil]
 | p :: fs,m,last,acc,hm,hf,hp=>by
  obtain ⟨m,rfl⟩ : ∃ n,m = n + 1:=⟨m - 1,by simp at hm;omega⟩
  obtain ⟨h1,h2,h3,h4,h5⟩:=hf p (by simp)
  have ht:=(hw.fld _ h1).tag
  rw [List.pairwise_cons] at hp
  have ih:=pd (ts:=ts) (f:=f) hw (r:=r) fs m p.1.tag (acc ++ [cZ p]) (by simp at hm;omega) (fun q hq=>⟨(hf q (by simp [hq])).1,(hf q (by simp [hq])).2.1,hp.1 q hq,(hf q (by simp [hq])).2.2.2⟩) hp.2
  rw [List.map_cons,V.byss,List.flatten_cons,nu,bO]
  simp only [List.append_assoc]
  rw [ir oM oM]
  dsimp only
  rw [if_neg oM,lF h4]
  dsimp only
  rw [if_neg oM,fX hw h1]
  dsimp only
  rw [iG h5]
  dsimp only
  rw [if_neg h2]
  show bO ts f t m p.1.tag _ (acc ++ [cZ p]) = _
  rw [ih];simp
theorem ro {ks : List V} {v : V} (h : v ∈ ks) : v.bys.length ≤ (V.byss ks).flatten.length:=by
 rw [lc]
 induction ks with
 | nil=>cases h
 | cons u ks ih =>
  simp only [List.map_cons,List.flatten_cons,List.length_append]
  rcases List.mem_cons.1 h with rfl | h
  ·omega
  ·have:=ih h;omega
theorem sG : ∀ {fs : List (Fld × V)},fs.length ≤ (V.byss (fs.map cZ)).flatten.length
 | []=>by simp [V.byss]
 | p :: fs=>by
  have:=sG (fs:=fs)
  have h2:=fk p.1.tag
  rw [List.map_cons,V.byss,List.flatten_cons,List.length_append,nu]
  simp only [List.length_append,List.length_cons]
  omega
theorem oI {ts : List Ty} {k : abu} {t : Ty} (h : aL ts k = some t) : ∃ k',k = 64 :: k':=by
 cases k with
 | nil=>simp [aL,bc] at h
 | cons c k' =>
  by_cases h64 : c.toNat = 64
  ·exact ⟨k',by rw [show c = 64 from UInt8.toNat_inj.1 h64]⟩
  ·exact (dg h F h64).elim
theorem td {ts : List Ty} (hw : SchW ts) : ∀ (n : Nat) {k : abu} {v : V},OfK ts k v → v.deep ≤ n → v.bys.length ≤ 999999 → ∀ r,rb ts n k (v.bys ++ r) = some (v,r)
 | 0,k,v,h,hd,_,r=>by
  obtain ⟨w,x,t,ks⟩:=v
  have hne : w ≠ 61:=by cases h <;> decide
  rw [cj hne] at hd;omega
 | n + 1,k,v,h,hd,hl,r=>by
  have ih:=fun {k : abu} {v : V}=>td hw n (k:=k) (v:=v)
  show fj ts (rb ts n) k (v.bys ++ r) = some (v,r)
  cases h with
  | num k m h1 h2 =>
   have e : V.bys (.nd 110 (a8 m) 0 []) = cA m:=by rw [V.bys];unfold j5;rw [if_pos rfl,nQ h1 h2 dC];rfl
   have hrf : aL ts (110 :: k) = none:=by cases h : aL ts (110 :: k) with | none=>rfl | some t=>exact (dg h F dC).elim
   rw [e]
   unfold fj
   try dsimp only
   rw [if_neg dC,if_neg dC,hrf]
   try dsimp only
   rw [if_pos dC,ir h1 h2];rfl
  | txt k x h1 =>
   have e : V.bys (.nd 116 x 0 []) = cA x.length ++ x:=by rw [V.bys];rfl
   have hrf : aL ts (116 :: k) = none:=by cases h : aL ts (116 :: k) with | none=>rfl | some t=>exact (dg h F dC).elim
   rw [e] at hl ⊢
   rw [List.length_append] at hl
   unfold fj
   try dsimp only
   rw [if_neg dC,if_neg dC,hrf]
   try dsimp only
   rw [if_neg dC,if_pos dC,List.append_assoc,lF oM]
   dsimp only
   rw [if_pos h1]
  | flg k x h1 =>
   have hrf : aL ts (102 :: k) = none:=by cases h : aL ts (102 :: k) with | none=>rfl | some t=>exact (dg h F dC).elim
   unfold fj
   try dsimp only
   rw [if_neg dC,if_neg dC,hrf]
   try dsimp only
   rw [if_neg dC,if_neg dC,if_pos dC]
   rcases h1 with rfl | rfl
   ·rw [show V.bys (.nd 102 [121,101,115] 0 []) = [1] by rw [V.bys];rfl];rfl
   ·rw [show V.bys (.nd 102 [110,111] 0 []) = [0] by rw [V.bys];rfl];rfl
  | lst k ks h1 h2 =>
   rw [cj dC] at hd
   have e : V.bys (.nd 91 [] 0 ks) = cA ks.length ++ (V.byss ks).flatten:=by rw [V.bys];rfl
   rw [e] at hl ⊢
   rw [List.length_append] at hl
   have hI:=nO (f:=rb ts n k) (r:=r) ks [] fun v hv r=>ih (h2 v hv) (by have:=V.deep_mem hv;omega) (by have:=ro hv;omega) r
   unfold fj
   try dsimp only
   rw [if_pos dC,List.append_assoc,ir oM oM]
   dsimp only
   rw [if_pos oM,Int.toNat_natCast,hI];rfl
  | non k =>
   rw [show V.bys (.nd 63 [] 0 []) = [0] by rw [V.bys];rfl]
   unfold fj
   try dsimp only
   rw [if_neg dC,if_pos dC];rfl
  | opt k v h1 =>
   rw [cj dC] at hd
   have hd2 : v.deep ≤ n:=by have:=V.deep_mem (ks:=[v]) (v:=v) (by simp);omega
   have e : V.bys (.nd 63 [] 0 [v]) = 1 :: v.bys:=by rw [V.bys];simp [V.byss,j5]
   rw [e] at hl ⊢
   rw [List.length_cons] at hl
   unfold fj
   try dsimp only
   rw [if_neg dC,if_pos dC]
   rw [show dt (1 :: v.bys ++ r) = some (true,v.bys ++ r) from rfl]
   try dsimp only
   rw [ih h1 hd2 oM];rfl
  | recd k t fs h1 h2 h3 h4 h5 h6 =>
   rw [cj dC] at hd
   obtain ⟨k',rfl⟩:=oI h1
   have e : V.bys (.nd 82 [] 0 (fs.map cZ)) = (V.byss (fs.map cZ)).flatten ++ [0]:=by rw [V.bys];rfl
   have hg:=sG (fs:=fs)
   rw [e] at hl ⊢
   rw [List.length_append] at hl
   have hW:=hw.ty t (bM h1)
   have hF:=pd (ts:=ts) (f:=rb ts n) hW (r:=r) fs (((V.byss (fs.map cZ)).flatten ++ 0 :: r).length + 1) 0 [] (by rw [List.length_append];omega) (fun p hp=>by
    have hdp : p.2.deep ≤ n:=by
     have h7:=V.deep_mem (List.mem_map_of_mem (f:=cZ) hp)
     have h8 : (cZ p).deep = p.2.deep:=by
      show V.deep (.nd 61 [] p.1.tag [p.2]) = _
      rw [V.deep,if_pos rfl];simp [V.deeps]
     omega
    have hbp : p.2.bys.length ≤ 999999:=by
     have h7:=ro (List.mem_map_of_mem (f:=cZ) hp)
     rw [nu] at h7
     simp only [List.length_append] at h7
     omega
    have ht:=(hW.fld _ (h3 p hp)).tag
    refine ⟨h3 p hp,h5 p hp,oM,hbp,?_⟩
    have:=ih (h4 p hp) hdp hbp []
    rwa [List.append_nil] at this) h6
   unfold fj
   try dsimp only
   rw [if_neg dC,if_neg dC,h1]
   try dsimp only
   unfold cI
   rw [if_pos h2,List.append_assoc,List.singleton_append,hF];rfl
  | enm k t d h1 h2 h3 =>
   obtain ⟨k',rfl⟩:=oI h1
   have hW:=hw.ty t (bM h1)
   have ht:=(hW.fld _ h3).tag
   rw [show V.bys (.nd 69 [] d.tag []) = cA d.tag by rw [V.bys];rfl]
   unfold fj
   try dsimp only
   rw [if_neg dC,if_neg dC,h1]
   try dsimp only
   unfold cI
   rw [if_neg oM,ir oM oM]
   dsimp only
   rw [fX hW h3]
   dsimp only
   rw [if_pos h2]
  | uni k t d v h1 h2 h3 h4 h5 =>
   rw [cj dC] at hd
   have hd2 : v.deep ≤ n:=by have:=V.deep_mem (ks:=[v]) (v:=v) (by simp);omega
   obtain ⟨k',rfl⟩:=oI h1
   have hW:=hw.ty t (bM h1)
   have ht:=(hW.fld _ h4).tag
   have e : V.bys (.nd 85 [] d.tag [v]) = cA d.tag ++ (cA v.bys.length ++ v.bys):=by rw [V.bys];simp [V.byss,j5]
   rw [e] at hl ⊢
   simp only [List.length_append] at hl
   unfold fj
   try dsimp only
   rw [if_neg dC,if_neg dC,h1]
   try dsimp only
   unfold cI
   simp only [List.append_assoc]
   rw [if_neg h2,ir oM oM]
   dsimp only
   rw [fX hW h4]
   dsimp only
   rw [if_neg h3,lF oM]
   dsimp only
   have:=ih h5 hd2 oM []
   rw [List.append_nil] at this
   rw [iG this];rfl
def n9 (ts : List Ty) (k b : abu) : Option V:=match rb ts 12 k b with
 | some (v,[])=>if v.bys = b ∧ v.out.length ≤ 400 then some v else none
 | _=>none
theorem n8 {ts : List Ty} (hw : SchW ts) {k b : abu} (hb : b.length ≤ 999999) {v : V} : n9 ts k b = some v ↔ OfK ts k v ∧ v.deep ≤ 12 ∧ v.out.length ≤ 400 ∧ v.bys = b:=by
 constructor
 ·intro h
  unfold n9 at h
  split at h
  ·rename_i u hu
   obtain ⟨g1,g2⟩:=wy _ _ _ _ hu
   split at h
   ·rename_i hc
    simp only [Option.some.injEq] at h;subst h
    exact ⟨g1,g2,hc.2,hc.1⟩
   ·cases h
  ·cases h
 ·rintro ⟨h1,h2,h3,rfl⟩
  have:=td hw 12 h1 h2 hb []
  rw [List.append_nil] at this
  unfold n9
  rw [this]
  dsimp only
  rw [if_pos ⟨rfl,h3⟩]
theorem eJ {s r : abu} {b : Bool} (h : dt s = some (b,r)) : s = (if b = true then 1 else 0) :: r:=by
 unfold dt at h
 split at h
 ·cases h
 ·rename_i c q
  split at h
  ·rename_i hc
   simp only [Option.some.injEq,Prod.mk.injEq] at h
   obtain ⟨rfl,rfl⟩:=h
   rw [cB hc dC];rfl
  ·split at h
   ·rename_i hc
    simp only [Option.some.injEq,Prod.mk.injEq] at h
    obtain ⟨rfl,rfl⟩:=h
    rw [cB hc dC];rfl
   ·cases h
section
variable {ts : List Ty}
end
variable {ts : List Ty}
inductive LoK (ts : List Ty) : abu → V → Prop
 | num (k : abu) (n : Int) : 0 ≤ n → LoK ts (110 :: k) (.nd 110 (a8 n) 0 [])
 | txt (k x : abu) : dn (39 :: (x ++ [39])) = true → LoK ts (116 :: k) (.nd 116 x 0 [])
 | flg (k x : abu) : x = [121,101,115] ∨ x = [110,111] → LoK ts (102 :: k) (.nd 102 x 0 [])
 | lst (k : abu) (ks : List V) : (∀ v ∈ ks,LoK ts k v) → LoK ts (91 :: k) (.nd 91 [] 0 ks)
 | non (k : abu) : LoK ts (63 :: k) (.nd 63 [] 0 [])
 | opt (k : abu) (v : V) : LoK ts k v → LoK ts (63 :: k) (.nd 63 [] 0 [v])
 | recd (k : abu) (t : Ty) (fs : List (Fld × V)) : aL ts k = some t → t.sort = 82 → (∀ p ∈ fs,p.1 ∈ t.fields) → (∀ p ∈ fs,LoK ts p.1.kind p.2) → LoK ts k (.nd 82 [] 0 (fs.map cZ))
 | enm (k : abu) (t : Ty) (d : Fld) : aL ts k = some t → t.sort = 69 → d ∈ t.fields → LoK ts k (.nd 69 [] d.tag [])
 | uni (k : abu) (t : Ty) (d : Fld) (v : V) : aL ts k = some t → t.sort ≠ 82 → t.sort ≠ 69 → d ∈ t.fields → LoK ts d.kind v → LoK ts k (.nd 85 [] d.tag [v])
variable {ts : List Ty}
theorem mI {f : abu → Option (V × abu)} (h : ∀ s v r,f s = some (v,r) → r.length < s.length) : ∀ (m : Nat) (s : abu) (acc : List V) {x : List V × abu},bT f m s acc = some x → x.2.length + m ≤ s.length
 | 0,s,acc,x,e=>by simp only [bT,Option.some.injEq] at e;subst e;dsimp only;omega
 | m + 1,s,acc,x,e=>by
  unfold bT at e
  cases hf : f s with
  | none=>rw [hf] at e;cases e
  | some y =>
   rw [hf] at e
   obtain ⟨v,r⟩:=y
   have h1:=mI h m r _ e
   have h2:=h _ _ _ hf
   omega
theorem kI {f : abu → abu → Option (V × abu)} {t : Ty} : ∀ (m : Nat) (last : Int) (s : abu) (acc : List V) {x : List V × abu},bO ts f t m last s acc = some x → x.2.length < s.length
 | 0,_,_,_,_,e=>by cases e
 | m + 1,last,s,acc,x,e=>by
  unfold bO at e
  cases hn : bR s with
  | none=>rw [hn] at e;cases e
  | some y =>
   rw [hn] at e
   obtain ⟨n,r⟩:=y
   have hl:=cy hn
   dsimp only at e
   split at e
   ·simp only [Option.some.injEq] at e;subst e;exact hl
   ·split at e
    ·cases e
    ·rename_i p r' hp
     have hl2:=fB hp
     split at e
     ·cases e
     ·split at e
      ·have:=kI m n r' _ e;omega
      ·split at e
       ·cases e
       ·have:=kI m n r' _ e;omega
theorem rz {f : abu → abu → Option (V × abu)} {t : Ty} {s r : abu} {v : V} (e : cI ts f t s = some (v,r)) : r.length < s.length:=by
 unfold cI at e
 split at e
 ·cases hi : bO ts f t (s.length + 1) 0 s [] with
  | none=>rw [hi] at e;cases e
  | some y=>rw [hi] at e;cases e;exact kI _ _ _ _ hi
 ·split at e
  ·cases e
  ·rename_i n q hn
   have hl:=cy hn
   split at e
   ·cases e
   ·rename_i d hd
    split at e
    ·cases e;exact hl
    ·split at e
     ·cases e
     ·rename_i p r' hp
      have hl2:=fB hp
      cases ha : db f d.kind p with
      | none=>rw [ha] at e;cases e
      | some w=>rw [ha] at e;cases e;omega
theorem un : ∀ (n : Nat) (k s : abu) (v : V) (r : abu),rb ts n k s = some (v,r) → r.length < s.length
 | 0,_,_,_,_,e=>by cases e
 | n + 1,k,s,v,r,e=>by
  have ih:=un n
  replace e : fj ts (rb ts n) k s = some (v,r):=e
  cases k with
  | nil=>cases e
  | cons c k =>
   unfold fj at e
   dsimp only at e
   split at e
   ·split at e
    ·cases e
    ·rename_i q1 q hn
     have hl:=cy hn
     split at e
     ·cases hi : bT (rb ts n k) q1.toNat q [] with
      | none=>rw [hi] at e;cases e
      | some y=>rw [hi] at e;cases e;have:=mI (ih k) _ _ _ hi;omega
     ·cases e
   ·split at e
    ·cases hb : dt s with
     | none=>rw [hb] at e;cases e
     | some y =>
      rw [hb] at e
      obtain ⟨b,q⟩:=y
      have hl : s.length = q.length + 1:=by rw [eJ hb];rfl
      cases b with
      | false=>cases e;omega
      | true =>
       dsimp only at e
       cases hf : rb ts n k q with
       | none=>rw [hf] at e;cases e
       | some y=>rw [hf] at e;obtain ⟨w,q2⟩:=y;cases e;have:=ih _ _ _ _ hf;dsimp only;omega
    ·split at e
     ·exact rz e
     ·split at e
      ·cases hn : bR s with
       | none=>rw [hn] at e;cases e
       | some y=>rw [hn] at e;obtain ⟨a,q⟩:=y;cases e;exact cy hn
      ·split at e
       ·split at e
        ·cases e
        ·rename_i p q hp
         have hl2:=fB hp
         split at e
         ·cases e;omega
         ·cases e
       ·split at e
        ·cases hb : dt s with
         | none=>rw [hb] at e;cases e
         | some y=>rw [hb] at e;obtain ⟨b,q⟩:=y;have hl : s.length = q.length + 1:=by { rw [eJ hb];rfl };cases e;dsimp only;omega
        ·cases e
theorem yv {n : Nat} {k s : abu} : rb ts (n + 1) (91 :: k) s = match bR s with
      | none=>none
      | some (m,r)=>if m ≤ 20 then (bT (rb ts n k) m.toNat r []).map fun x=>(.nd 91 [] 0 x.1,x.2) else none:=by
  rw [rb];unfold fj;dsimp only;rw [if_pos dC]
  all_goals (rcases bR s with _ | ⟨b,r⟩)
  all_goals rfl
theorem yu {n : Nat} {k s : abu} : rb ts (n + 1) (63 :: k) s = match dt s with
      | none=>none
      | some (false,r)=>some (.nd 63 [] 0 [],r)
      | some (true,r)=>(rb ts n k r).map fun x=>(.nd 63 [] 0 [x.1],x.2):=by
  rw [rb];unfold fj;dsimp only;rw [if_neg dC,if_pos dC]
  all_goals (rcases dt s with _ | ⟨b,r⟩)
  all_goals (try cases b)
  all_goals rfl
theorem abe {n : Nat} {s : abu} (h : aL ts [110] = none) : rb ts (n + 1) [110] s = (bR s).map fun x=>(.nd 110 (a8 x.1) 0 [],x.2):=by
 rw [rb];unfold fj;dsimp only;rw [if_neg dC,if_neg dC,h];dsimp only;rw [if_pos dC]
theorem abd {n : Nat} {s : abu} (h : aL ts [116] = none) : rb ts (n + 1) [116] s = match cM s with
          | none=>none
          | some (p,r)=>if dn (39 :: (p ++ [39])) = true then some (.nd 116 p 0 [],r) else none:=by
  rw [rb];unfold fj;dsimp only;rw [if_neg dC,if_neg dC,h];dsimp only;rw [if_neg dC,if_pos dC]
  all_goals (rcases cM s with _ | ⟨b,r⟩)
  all_goals rfl
theorem abf {n : Nat} {s : abu} (h : aL ts [102] = none) : rb ts (n + 1) [102] s = (dt s).map fun x=>(.nd 102 (if x.1 = true then [121,101,115] else [110,111]) 0 [],x.2):=by
 rw [rb];unfold fj;dsimp only;rw [if_neg dC,if_neg dC,h];dsimp only;rw [if_neg dC,if_neg dC,if_pos dC]
theorem mH {f : abu → Option (V × abu)} (h : ∀ s v r,f s = some (v,r) → v.tot + 100 * r.length ≤ 100 * s.length) : ∀ (m : Nat) (s : abu) (acc : List V) {x : List V × abu},bT f m s acc = some x → V.tots x.1 + 100 * x.2.length ≤ V.tots acc + 100 * s.length
 | 0,s,acc,x,e=>by simp only [bT,Option.some.injEq] at e;subst e;exact Nat.le_refl _
 | m + 1,s,acc,x,e=>by
  unfold bT at e
  cases hf : f s with
  | none=>rw [hf] at e;cases e
  | some y =>
   rw [hf] at e
   obtain ⟨v,r⟩:=y
   have h1:=mH h m r _ e
   have h2:=h _ _ _ hf
   have e2 : V.tots (acc ++ [v]) = V.tots acc + v.tot:=by simp [fS,V.tots]
   omega
theorem kH {f : abu → abu → Option (V × abu)} (h : ∀ k s v r,f k s = some (v,r) → v.tot + 100 * r.length ≤ 100 * s.length) {t : Ty} : ∀ (m : Nat) (last : Int) (s : abu) (acc : List V) {x : List V × abu},bO ts f t m last s acc = some x → V.tots x.1 + 100 * x.2.length + 100 ≤ V.tots acc + 100 * s.length
 | 0,_,_,_,_,e=>by cases e
 | m + 1,last,s,acc,x,e=>by
  unfold bO at e
  cases hn : bR s with
  | none=>rw [hn] at e;cases e
  | some y =>
   rw [hn] at e
   obtain ⟨n,r⟩:=y
   have hl:=cy hn
   dsimp only at e
   split at e
   ·simp only [Option.some.injEq] at e;subst e;dsimp only;omega
   ·split at e
    ·cases e
    ·rename_i p r' hp
     have hl2:=fB hp
     split at e
     ·cases e
     ·split at e
      ·have:=kH h m n r' _ e;omega
      ·rename_i d hd
       split at e
       ·cases e
       ·rename_i v hv
        have h1:=kH h m n r' _ e
        have h2:=h _ _ _ _ (f5 hv)
        have e2 : V.tots (acc ++ [V.nd 61 [] d.tag [v]]) = V.tots acc + (20 + v.tot):=by simp [fS,V.tots,V.tot]
        simp only [List.length_nil] at h2
        split at h1
        ·omega
        ·omega
theorem ry {f : abu → abu → Option (V × abu)} (h : ∀ k s v r,f k s = some (v,r) → v.tot + 100 * r.length ≤ 100 * s.length) {t : Ty} {s r : abu} {v : V} (e : cI ts f t s = some (v,r)) : v.tot + 100 * r.length ≤ 100 * s.length:=by
 unfold cI at e
 split at e
 ·cases hi : bO ts f t (s.length + 1) 0 s [] with
  | none=>rw [hi] at e;cases e
  | some y =>
   rw [hi] at e;cases e
   have:=kH h _ _ _ _ hi
   simp only [V.tot,V.tots,List.length_nil] at this ⊢;omega
 ·split at e
  ·cases e
  ·rename_i n q hn
   have hl:=cy hn
   split at e
   ·cases e
   ·rename_i d _
    split at e
    ·cases e;simp only [V.tot,V.tots,List.length_nil];omega
    ·split at e
     ·cases e
     ·rename_i p r' hp
      have hl2:=fB hp
      cases ha : db f d.kind p with
      | none=>rw [ha] at e;cases e
      | some w =>
       rw [ha] at e;cases e
       have:=h _ _ _ _ (f5 ha)
       simp only [V.tot,V.tots,List.length_nil] at this ⊢;omega
theorem qd : ∀ (n : Nat) (k s : abu) (v : V) (r : abu),rb ts n k s = some (v,r) → v.tot + 100 * r.length ≤ 100 * s.length
 | 0,_,_,_,_,e=>by cases e
 | n + 1,k,s,v,r,e=>by
  have ih:=qd n
  replace e : fj ts (rb ts n) k s = some (v,r):=e
  cases k with
  | nil=>cases e
  | cons c k =>
   unfold fj at e
   dsimp only at e
   split at e
   ·split at e
    ·cases e
    ·rename_i q1 q hn
     have hl:=cy hn
     split at e
     ·cases hi : bT (rb ts n k) q1.toNat q [] with
      | none=>rw [hi] at e;cases e
      | some y =>
       rw [hi] at e;cases e
       have:=mH (ih k) _ _ _ hi
       simp only [V.tot,V.tots,List.length_nil] at this ⊢;omega
     ·cases e
   ·split at e
    ·cases hb : dt s with
     | none=>rw [hb] at e;cases e
     | some y =>
      rw [hb] at e
      obtain ⟨b,q⟩:=y
      have hl : s.length = q.length + 1:=by rw [eJ hb];rfl
      cases b with
      | false=>cases e;simp only [V.tot,V.tots,List.length_nil];omega
      | true =>
       dsimp only at e
       cases hf : rb ts n k q with
       | none=>rw [hf] at e;cases e
       | some y=>rw [hf] at e;obtain ⟨w,q2⟩:=y;cases e;have:=ih _ _ _ _ hf;simp only [V.tot,V.tots,List.length_nil];omega
    ·split at e
     ·exact ry ih e
     ·split at e
      ·cases hn : bR s with
       | none=>rw [hn] at e;cases e
       | some y =>
        rw [hn] at e;obtain ⟨a,q⟩:=y;cases e
        have hl:=cy hn
        obtain ⟨h0,h1,_⟩:=d3 hn
        have:=n5 (m:=a) h1
        simp only [V.tot,V.tots];omega
      ·split at e
       ·split at e
        ·cases e
        ·rename_i p q hp
         have hl2:=fB hp
         split at e
         ·cases e;simp only [V.tot,V.tots];omega
         ·cases e
       ·split at e
        ·cases hb : dt s with
         | none=>rw [hb] at e;cases e
         | some y =>
          rw [hb] at e;obtain ⟨b,q⟩:=y
          have hl : s.length = q.length + 1:=by rw [eJ hb];rfl
          cases e
          cases b
          all_goals (simp [V.tot,V.tots];omega)
        ·cases e
theorem qe {f : abu → Option (V × abu)} {m : Nat} {t r : abu} {acc : List V} {v : V} (hf : f t = some (v,r)) : bT f (m + 1) t acc = bT f m r (acc ++ [v]):=by
 rw [bT,hf]
theorem tf {f : abu → Option (V × abu)} {m : Nat} {t : abu} {acc : List V} (hf : f t = none) : bT f (m + 1) t acc = none:=by
 rw [bT,hf]
theorem vG {f : abu → abu → Option (V × abu)} {ty : Ty} {m : Nat} {la : Int} {t r : abu} {acc : List V} (h : bR t = some (0,r)) : bO ts f ty (m + 1) la t acc = some (acc,r):=by rw [bO,h];dsimp only;rw [if_pos rfl]
theorem tm {f : abu → abu → Option (V × abu)} {ty : Ty} {m : Nat} {la : Int} {t : abu} {acc : List V} (h : bR t = none) : bO ts f ty (m + 1) la t acc = none:=by rw [bO,h]
theorem nP {f : abu → abu → Option (V × abu)} {ty : Ty} {m : Nat} {la n : Int} {t r : abu} {acc : List V} (h : bR t = some (n,r)) (h0 : n ≠ 0) (hp : cM r = none) : bO ts f ty (m + 1) la t acc = none:=by rw [bO,h];dsimp only;rw [if_neg h0,hp]
theorem tl {f : abu → abu → Option (V × abu)} {ty : Ty} {m : Nat} {la n : Int} {t r p r' : abu} {acc : List V} (h : bR t = some (n,r)) (h0 : n ≠ 0) (hp : cM r = some (p,r')) (hl : n ≤ la) : bO ts f ty (m + 1) la t acc = none:=by rw [bO,h];dsimp only;rw [if_neg h0,hp];dsimp only;rw [if_pos hl]
theorem rA {f : abu → abu → Option (V × abu)} {ty : Ty} {m : Nat} {la n : Int} {t r p r' : abu} {acc : List V} (h : bR t = some (n,r)) (h0 : n ≠ 0) (hp : cM r = some (p,r')) (hl : ¬ n ≤ la) (hd : bZ ty.fields n = none) : bO ts f ty (m + 1) la t acc = bO ts f ty m n r' acc:=by rw [bO,h];dsimp only;rw [if_neg h0,hp];dsimp only;rw [if_neg hl,hd]
theorem tj {f : abu → abu → Option (V × abu)} {ty : Ty} {m : Nat} {la n : Int} {t r p r' : abu} {acc : List V} {d : Fld} (h : bR t = some (n,r)) (h0 : n ≠ 0) (hp : cM r = some (p,r')) (hl : ¬ n ≤ la) (hd : bZ ty.fields n = some d) (ha : db f d.kind p = none) : bO ts f ty (m + 1) la t acc = none:=by rw [bO,h];dsimp only;rw [if_neg h0,hp];dsimp only;rw [if_neg hl,hd];dsimp only;rw [ha]
theorem th {f : abu → abu → Option (V × abu)} {ty : Ty} {m : Nat} {la n : Int} {t r p r' : abu} {acc : List V} {d : Fld} {v : V} (h : bR t = some (n,r)) (h0 : n ≠ 0) (hp : cM r = some (p,r')) (hl : ¬ n ≤ la) (hd : bZ ty.fields n = some d) (ha : db f d.kind p = some v) : bO ts f ty (m + 1) la t acc = bO ts f ty m n r' (if v.out = cx ts d then acc else acc ++ [.nd 61 [] d.tag [v]]):=by rw [bO,h];dsimp only;rw [if_neg h0,hp];dsimp only;rw [if_neg hl,hd];dsimp only;rw [ha]
def iJ (s k b : abu) : Option V:=match ax s with
 | some ts=>if aJ ts k = true ∧ b.length ≤ 600 then (match db (rb ts 13) k b with
  | some v=>if v.out.length ≤ 400 ∧ v.deep ≤ 12 then some v else none
  | none=>none) else none
 | none=>none
def iP (s k b : abu) : Option V:=match ax s with
 | some ts=>if aJ ts k = true ∧ b.length ≤ 600 then n9 ts k b else none
 | none=>none
theorem xg {s k b : abu} {v : V} (h : iJ s k b = some v) : ∃ ts,ax s = some ts ∧ aJ ts k = true ∧ b.length ≤ 600 ∧ db (rb ts 13) k b = some v ∧ v.out.length ≤ 400 ∧ v.deep ≤ 12:=by
 unfold iJ at h
 split at h
 ·rename_i ts hs
  split at h
  ·rename_i hk
   split at h
   ·rename_i u hu
    split at h
    ·rename_i hc
     cases h;exact ⟨ts,hs,hk.1,hk.2,hu,hc.1,hc.2⟩
    ·cases h
   ·cases h
  ·cases h
 ·cases h
theorem pF {s k b : abu} {v : V} (h : iP s k b = some v) : ∃ ts,ax s = some ts ∧ aJ ts k = true ∧ b.length ≤ 600 ∧ OfK ts k v ∧ v.deep ≤ 12 ∧ v.out.length ≤ 400 ∧ v.bys = b:=by
 unfold iP at h
 split at h
 ·rename_i ts hs
  split at h
  ·rename_i hk
   obtain ⟨h1,h2,h3,h4⟩:=(n8 (co hs) oM).1 h
   exact ⟨ts,hs,hk.1,hk.2,h1,h2,h3,h4⟩
  ·cases h
 ·cases h
theorem lW {s k : abu} {ts : List Ty} {v : V} (hs : ax s = some ts) (hk : aJ ts k = true) (h : OfK ts k v) (hd : v.deep ≤ 12) (ho : v.out.length ≤ 400) (hb : v.bys.length ≤ 600) : iP s k v.bys = some v:=by
 unfold iP
 rw [hs]
 dsimp only
 rw [if_pos ⟨hk,hb⟩]
 exact (n8 (co hs) oM).2 ⟨h,hd,ho,F⟩
theorem tL {s k b : abu} {v : V} (h : iP s k b = some v) : iJ s k b = some v:=by
 obtain ⟨ts,hs,hk,hb,h1,h2,h3,rfl⟩:=pF h
 have:=td (co hs) 13 h1 oM oM []
 rw [List.append_nil] at this
 unfold iJ
 rw [hs]
 dsimp only
 rw [if_pos ⟨hk,hb⟩,iG this]
 dsimp only
 rw [if_pos ⟨h3,h2⟩]
theorem vH {s k : abu} {v : V} {ts : List Ty} (hs : ax s = some ts) (hk : aJ ts k = true) (h : OfK ts k v) (hd : v.deep ≤ 12) (ho : v.out.length ≤ 400) : gr s k v.out = some v:=by
 unfold gr
 rw [hs]
 dsimp only
 rw [if_pos hk]
 exact pT (co hs) h ho hd
theorem rJ {s k : abu} {v : V} {ts : List Ty} (hs : ax s = some ts) (hk : aJ ts k = true) (h : OfK ts k v) (hd : v.deep ≤ 12) (ho : v.out.length ≤ 400) : fM s k v.out = if v.bys.length ≤ 600 then some v.bys else none:=by
 unfold fM
 rw [vH hs hk h hd ho]
theorem pE {s k b : abu} {v : V} (h : iP s k b = some v) : fM s k v.out = some b:=by
 obtain ⟨ts,hs,hk,hb,h1,h2,h3,rfl⟩:=pF h
 rw [rJ hs hk h1 h2 h3,if_pos hb]
inductive Thin : V → Prop
 | leaf (w : Nat) (x : abu) (t : Int) : w ≠ 85 → x.length ≤ 20 → 0 ≤ t ∧ t ≤ 999 → Thin (.nd w x t [])
 | uni (t : Int) (v : V) : 0 ≤ t ∧ t ≤ 999 → Thin v → Thin (.nd 85 [] t [v])
theorem ru {ts : List Ty} (hw : SchW ts) : ∀ (n : Nat) {k : abu},aJ ts k = true → (∀ t,aL ts k = some t → bJ ts n t = true) → ∃ u,OfK ts k u ∧ u.out = b5 ts (n + 1) k ∧ u.deep ≤ n + 1 ∧ u.out.length ≤ 30 * (n + 1) ∧ Thin u:=by
 intro n
 induction n with
 | zero =>
  intro k hk he
  obtain ⟨c,r,rfl⟩:=r3 hk
  unfold b5
  by_cases h91 : c.toNat = 91
  ·obtain rfl:=cB h91 dC
   exact ⟨_,.lst _ [] (by simp) (by simp),by rw [if_pos h91,V.out];rfl,by simp [V.deep,V.deeps],by rw [V.out];decide,.leaf _ _ _ dC (by (decide)) (by (decide))⟩
  by_cases h63 : c.toNat = 63
  ·obtain rfl:=cB h63 dC
   exact ⟨_,.non _,by rw [if_neg h91,if_pos h63,V.out];rfl,by simp [V.deep,V.deeps],by rw [V.out];decide,.leaf _ _ _ dC (by (decide)) (by (decide))⟩
  rw [if_neg h91,if_neg h63]
  cases hr : aL ts (c :: r) with
  | some t=>have:=he t hr;simp [bJ] at this
  | none =>
   dsimp only
   rcases gU hk (by rintro (h | h) <;> contradiction) hr with e | e | e
   all_goals rw [e]
   ·exact ⟨_,.num [] 0 dC dC,by rw [kJ];decide,by simp [V.deep,V.deeps],by rw [kJ];decide,.leaf _ _ _ dC (by (rw [tI];decide)) (by (decide))⟩
   ·exact ⟨_,.txt [] [] dC,by rw [V.out];decide,by simp [V.deep,V.deeps],by rw [V.out];decide,.leaf _ _ _ dC (by (decide)) (by (decide))⟩
   ·exact ⟨_,.flg [] _ (.inr F),by rw [V.out];decide,by simp [V.deep,V.deeps],by rw [V.out];decide,.leaf _ _ _ dC (by (decide)) (by (decide))⟩
 | succ n ih =>
  intro k hk he
  obtain ⟨c,r,rfl⟩:=r3 hk
  unfold b5
  by_cases h91 : c.toNat = 91
  ·obtain rfl:=cB h91 dC
   exact ⟨_,.lst _ [] (by simp) (by simp),by rw [if_pos h91,V.out];rfl,by simp [V.deep,V.deeps],by rw [V.out];simp [d6,V.outs,aV];omega,.leaf _ _ _ dC (by (decide)) (by (decide))⟩
  by_cases h63 : c.toNat = 63
  ·obtain rfl:=cB h63 dC
   exact ⟨_,.non _,by rw [if_neg h91,if_pos h63,V.out];rfl,by simp [V.deep,V.deeps],by rw [V.out];simp [d6];omega,.leaf _ _ _ dC (by (decide)) (by (decide))⟩
  rw [if_neg h91,if_neg h63]
  cases hr : aL ts (c :: r) with
  | none =>
   dsimp only
   rcases gU hk (by rintro (h | h) <;> contradiction) hr with e | e | e
   all_goals rw [e]
   ·exact ⟨_,.num [] 0 dC dC,by rw [kJ];decide,by simp [V.deep,V.deeps],by rw [kJ];simp;omega,.leaf _ _ _ dC (by (rw [tI];decide)) (by (decide))⟩
   ·exact ⟨_,.txt [] [] dC,by rw [V.out];decide,by simp [V.deep,V.deeps],by rw [V.out];simp [d6];omega,.leaf _ _ _ dC (by (decide)) (by (decide))⟩
   ·exact ⟨_,.flg [] _ (.inr F),by rw [V.out];decide,by simp [V.deep,V.deeps],by rw [V.out];simp [d6];omega,.leaf _ _ _ dC (by (decide)) (by (decide))⟩
  | some t =>
   have htm:=bM hr
   have htw:=hw.ty t htm
   dsimp only
   by_cases h82 : t.sort = 82
   ·rw [if_pos h82]
    exact ⟨_,.recd _ t [] hr h82 (by simp) (by simp) (by simp) (by simp),by rw [V.out];rfl,by simp [V.deep,V.deeps],by rw [V.out];simp [d6,V.outs,aV];omega,.leaf _ _ _ dC (by (decide)) (by (decide))⟩
   rw [if_neg h82]
   have hd:=z6 htw h82
   have htg:=(htw.fld _ hd).tag
   have hdl:=n5 (m:=tag0 t) (by unfold tag0;omega)
   by_cases h69 : t.sort = 69
   ·rw [if_pos h69]
    exact ⟨_,.enm _ t _ hr h69 hd,by rw [V.out];rfl,by simp [V.deep,V.deeps],by rw [V.out];show (35 :: a8 (tag0 t)).length ≤ _;simp only [List.length_cons];omega,.leaf _ _ _ dC (by (decide)) (by (constructor <;> omega))⟩
   rw [if_neg h69]
   have h85 : t.sort = 85:=by have:=htw.sort;unfold dP at this;omega
   have he1:=he t hr
   unfold bJ at he1
   rw [if_neg (by simpa using h85)] at he1
   obtain ⟨u,g1,g2,g3,g4,g5⟩:=ih (k:=eV t) (dv hw htm h69 hd) (fun t' ht'=>by rw [ht'] at he1;exact he1)
   refine ⟨_,.uni _ t _ u hr h82 h69 hd g1,?_,?_,?_,?_⟩
   ·rw [V.out,← g2];simp [d6,V.outs,aV,tag0]
   ·rw [cj dC,V.deeps,V.deeps];omega
   ·have e:=rW (v:=u) (n:=tag0 t) (r:=[])
    rw [List.append_nil] at e
    show (V.out (.nd 85 [] (tag0 t) [u])).length ≤ _
    rw [e];simp only [List.length_cons,List.length_append,List.length_nil];omega
   ·exact .uni _ _ (by constructor <;> omega) g5
theorem pY {u : V} (h : Thin u) : u.deep ≤ 100 → u.bys.length ≤ 6 * u.deep + 26:=by
 induction h with
 | leaf w x t h1 h2 h3 =>
  intro _
  rw [V.bys,V.byss]
  have:=nv (w:=w) (x:=x) (t:=t) (k:=([] : List V).length) (j:=([] : List abu).flatten) oM oM (by simp) (by simp)
  simp only [List.flatten_nil,List.length_nil] at this ⊢
  omega
 | uni t v h1 h2 ih =>
  intro hd
  have e : V.deep (.nd 85 [] t [v]) = v.deep + 1:=by rw [cj dC,V.deeps,V.deeps];simp
  rw [e] at hd ⊢
  have ih:=ih oM
  rw [V.bys,V.byss,V.byss]
  have:=nv (w:=85) (x:=[]) (t:=t) (k:=[v].length) (j:=[v.bys].flatten) oM (by simp) (by simp) (by simp;omega)
  simp only [List.flatten_cons,List.flatten_nil,List.append_nil,List.length_nil] at this ⊢
  omega
theorem kD {s k x : abu} (h : ec s k = some x) : ∃ ts u,ax s = some ts ∧ aJ ts k = true ∧ OfK ts k u ∧ Thin u ∧ u.out = x ∧ u.deep ≤ 12 ∧ x.length ≤ 400:=by
 unfold ec at h
 cases hs : ax s with
 | none=>rw [hs] at h;cases h
 | some ts =>
  rw [hs] at h
  dsimp only at h
  split at h
  ·rename_i hk
   simp only [Option.some.injEq] at h
   have hw:=co hs
   have hl:=hw.len
   obtain ⟨u,h1,h2,h3,h4,h5⟩:=ru hw (ts.length + 1) hk (fun t ht=>by
    have hm:=bM ht
    obtain ⟨i,hi,rfl⟩:=List.mem_iff_getElem.1 hm
    have:=hw.valid.2 i hi
    rwa [ck hi] at this)
   exact ⟨ts,u,F,hk,h1,h5,by rw [h2,← h];rfl,oM,by rw [← h];show (b5 ts (ts.length + 2) k).length ≤ 400;rw [← h2];omega⟩
  ·cases h
def iV (ts us : List Ty) (m : List Pr) (k1 k2 : abu) : Prop:=sg k1 = sg k2 ∧ ((∃ t u,aL ts (aG k1) = some t ∧ aL us (aG k2) = some u ∧ (t.name,u.name) ∈ m) ∨ aG k1 = aG k2 ∧ (aL ts (aG k1) = none ∨ aL us (aG k2) = none))
def rp (ts us : List Ty) (m : List Pr) (t u : Ty) (gs : List Fld) : Prop:=∀ g ∈ gs,(bZ t.fields g.tag = none ∧ u.sort = 82) ∨ ∃ f,bZ t.fields g.tag = some f ∧ (u.sort = 69 ∨ iV ts us m f.kind g.kind)
def ny (ts us : List Ty) (m : List Pr) (p : Pr) : Prop:=∀ t u,dK ts p.1 = some t → dK us p.2 = some u → t.sort = u.sort ∧ rp ts us m t u u.fields
theorem iV.mono {ts us : List Ty} {m m' : List Pr} {k1 k2 : abu} (h : iV ts us m k1 k2) (hm : ∀ p ∈ m,p ∈ m') : iV ts us m' k1 k2 :=
 ⟨h.1,h.2.imp (fun ⟨t,u,h1,h2,h3⟩=>⟨t,u,h1,h2,hm _ h3⟩) id⟩
theorem rp.mono {ts us : List Ty} {m m' : List Pr} {t u : Ty} {gs : List Fld} (h : rp ts us m t u gs) (hm : ∀ p ∈ m,p ∈ m') : rp ts us m' t u gs :=
 fun g hg=>(h g hg).imp id fun ⟨f,h1,h2⟩=>⟨f,h1,h2.imp id fun h=>h.mono hm⟩
theorem ny.mono {ts us : List Ty} {m m' : List Pr} {p : Pr} (h : ny ts us m p) (hm : ∀ p ∈ m,p ∈ m') : ny ts us m' p :=
 fun t u h1 h2=>⟨(h t u h1 h2).1,(h t u h1 h2).2.mono hm⟩
def iW (ts us : List Ty) (m m' : List Pr) : Prop:=(∀ p ∈ m,p ∈ m') ∧ ∀ p ∈ m',p ∉ m → ny ts us m' p
theorem iW.refl {ts us : List Ty} {m : List Pr} : iW ts us m m:=⟨fun _ h=>h,fun _ h h2=>absurd h h2⟩
theorem iW.trans {ts us : List Ty} {m1 m2 m3 : List Pr} (h1 : iW ts us m1 m2) (h2 : iW ts us m2 m3) : iW ts us m1 m3 :=
 ⟨fun p h=>h2.1 p (h1.1 p h),fun p h h3=>by
  by_cases h4 : p ∈ m2
  ·exact (h1.2 p h4 h3).mono h2.1
  ·exact h2.2 p h h4⟩
theorem jk {ts us : List Ty} {kk : abu → abu → List Pr → Bool × List Pr} {t u : Ty} (hk : ∀ (f g : Fld) (m : List Pr),(kk f.kind g.kind m).1 = true → iW ts us m (kk f.kind g.kind m).2 ∧ iV ts us (kk f.kind g.kind m).2 f.kind g.kind) :
  ∀ (gs : List Fld) (m : List Pr),(fw ts us kk t u gs m).1 = true → iW ts us m (fw ts us kk t u gs m).2 ∧ rp ts us (fw ts us kk t u gs m).2 t u gs
 | [],m,_=>⟨.refl,fun g hg=>by cases hg⟩
 | g :: gs,m,h=>by
  unfold fw at h ⊢
  cases hf : bZ t.fields g.tag with
  | none =>
   rw [hf] at h
   dsimp only at h ⊢
   by_cases h82 : u.sort = 82
   ·rw [if_pos h82] at h ⊢
    obtain ⟨h1,h2⟩:=jk hk gs m h
    refine ⟨h1,fun x hx=>?_⟩
    rcases List.mem_cons.1 hx with rfl | hx
    ·exact .inl ⟨hf,h82⟩
    ·exact h2 x hx
   ·rw [if_neg h82] at h;cases h
  | some f =>
   rw [hf] at h
   dsimp only at h ⊢
   by_cases h69 : u.sort = 69
   ·rw [if_pos h69] at h ⊢
    obtain ⟨h1,h2⟩:=jk hk gs m h
    refine ⟨h1,fun x hx=>?_⟩
    rcases List.mem_cons.1 hx with rfl | hx
    ·exact .inr ⟨f,hf,.inl h69⟩
    ·exact h2 x hx
   ·rw [if_neg h69] at h ⊢
    by_cases hkk : (kk f.kind g.kind m).1 = false
    ·rw [if_pos hkk] at h;cases h
    ·rw [if_neg hkk] at h ⊢
     split at h
     ·cases h
     ·rename_i hst
      rw [if_neg hst]
      obtain ⟨g1,g2⟩:=hk f g m (by simpa using hkk)
      obtain ⟨h1,h2⟩:=jk hk gs _ h
      refine ⟨g1.trans h1,fun x hx=>?_⟩
      rcases List.mem_cons.1 hx with rfl | hx
      ·exact .inr ⟨f,hf,.inr (g2.mono h1.1)⟩
      ·exact h2 x hx
theorem eE {ts : List Ty} {k : abu} {t : Ty} (h : aL ts k = some t) : dK ts t.name = some t:=by
 unfold aL at h
 cases hn : bc k with
 | none=>rw [hn] at h;cases h
 | some n =>
  rw [hn] at h
  have h2 : dK ts n = some t:=h
  have h3:=List.find?_some h2
  simp only [decide_eq_true_eq] at h3
  rw [h3];exact h2
theorem uN {ts us : List Ty} {kk : abu → abu → List Pr → Bool × List Pr} {t u : Ty} (hk : ∀ (f g : Fld) (m : List Pr),(kk f.kind g.kind m).1 = true → iW ts us m (kk f.kind g.kind m).2 ∧ iV ts us (kk f.kind g.kind m).2 f.kind g.kind)
  (ht : dK ts t.name = some t) (hu : dK us u.name = some u) {m : List Pr} (h : (iL ts us kk t u m).1 = true) : iW ts us m (iL ts us kk t u m).2 ∧ (t.name,u.name) ∈ (iL ts us kk t u m).2:=by
 unfold iL at h ⊢
 by_cases hm : (t.name,u.name) ∈ m
 ·rw [if_pos hm];exact ⟨.refl,hm⟩
 ·rw [if_neg hm] at h ⊢
  unfold lQ at h ⊢
  by_cases hs : t.sort = u.sort
  ·rw [if_neg (by simp [hs])] at h ⊢
   obtain ⟨h1,h2⟩:=jk hk u.fields _ h
   have hin : (t.name,u.name) ∈ (fw ts us kk t u u.fields (m ++ [(t.name,u.name)])).2:=h1.1 _ (by simp)
   refine ⟨⟨fun p hp=>h1.1 p (List.mem_append_left _ hp),fun p hp hn=>?_⟩,hin⟩
   by_cases he : p = (t.name,u.name)
   ·subst he
    intro t' u' g1 g2
    rw [ht] at g1
    rw [hu] at g2
    obtain rfl:=Option.some.inj g1
    obtain rfl:=Option.some.inj g2
    exact ⟨hs,h2⟩
   ·exact h1.2 p hp (by simp [hn,he])
  ·rw [if_pos hs] at h;cases h
theorem pu {ts us : List Ty} : ∀ (n : Nat) (k1 k2 : abu) (m : List Pr),(dw ts us n k1 k2 m).1 = true → iW ts us m (dw ts us n k1 k2 m).2 ∧ iV ts us (dw ts us n k1 k2 m).2 k1 k2
 | 0,_,_,_,h=>by cases h
 | n + 1,k1,k2,m,h=>by
  unfold dw at h ⊢
  by_cases hs : sg k1 = sg k2
  ·rw [if_neg (by simp [hs])] at h ⊢
   cases r1 : aL ts (aG k1) with
   | none =>
    rw [r1] at h
    dsimp only at h ⊢
    exact ⟨.refl,hs,.inr ⟨of_decide_eq_true h,.inl r1⟩⟩
   | some t =>
    cases r2 : aL us (aG k2) with
    | none =>
     rw [r1,r2] at h
     dsimp only at h ⊢
     exact ⟨.refl,hs,.inr ⟨of_decide_eq_true h,.inr r2⟩⟩
    | some u =>
     rw [r1,r2] at h
     dsimp only at h ⊢
     obtain ⟨h1,h2⟩:=uN (fun f g m h=>pu n f.kind g.kind m h) (eE r1) (eE r2) h
     exact ⟨h1,hs,.inl ⟨t,u,r1,r2,h2⟩⟩
  ·rw [if_pos hs] at h;cases h
theorem mU : ∀ k : abu,sg k ++ aG k = k
 | []=>rfl
 | c :: r=>by
  by_cases h : c.toNat = 91 ∨ c.toNat = 63
  ·have:=mU r
   rw [io h,aG,if_pos h,List.cons_append,this]
  ·rw [f4 h,dB h];rfl
theorem rZ {k1 k2 : abu} {c : UInt8} {r : abu} (h : sg k1 = sg k2) (hk : k2 = c :: r) (hc : c.toNat = 91 ∨ c.toNat = 63) : ∃ r',k1 = c :: r':=by
 subst hk
 rw [io hc] at h
 refine ⟨sg r ++ aG k1,?_⟩
 rw [← List.cons_append,← h,mU]
theorem km {k1 : abu} (h : sg k1 = []) : aG k1 = k1:=by have:=mU k1;rwa [h] at this
theorem rR {c : UInt8} {r : abu} (h : c.toNat ≠ 64) : bc (c :: r) = none:=by simp [bc,h]
theorem uk {ts : List Ty} {k : abu} {t : Ty} (h : aL ts k = some t) : ∃ c r,k = c :: r ∧ c.toNat = 64:=by
 have h1:=ff h
 cases k with
 | nil=>cases h1
 | cons c r =>
  refine ⟨c,r,F,?_⟩
  by_cases h2 : c.toNat = 64
  ·exact h2
  ·rw [rR h2] at h1;cases h1
theorem vD {ts : List Ty} {c : UInt8} {r : abu} (h : c.toNat ≠ 64) : aL ts (c :: r) = none:=by unfold aL;rw [rR h];rfl
theorem kK {ts us : List Ty} {m : List Pr} {k1 : abu} {c : UInt8} {r : abu} (h : iV ts us m k1 (c :: r)) (hc : c.toNat ≠ 64 ∧ c.toNat ≠ 91 ∧ c.toNat ≠ 63) : k1 = c :: r:=by
 have e1 : sg (c :: r) = []:=f4 oM
 have e2 : aG (c :: r) = c :: r:=dB oM
 obtain ⟨h1,h2⟩:=h
 rw [e1] at h1
 rw [e2] at h2
 rcases h2 with ⟨t,u,_,g2,_⟩ | ⟨h2,_⟩
 ·rw [vD hc.1] at g2;cases g2
 ·rw [← km h1];exact h2
theorem m6 {ts us : List Ty} {m : List Pr} {k1 k2 : abu} {u : Ty} (hk : aJ ts k1 = true) (h : iV ts us m k1 k2) (hr : aL us k2 = some u) : ∃ t,aL ts k1 = some t ∧ (t.name,u.name) ∈ m:=by
 obtain ⟨c,r,rfl,hc⟩:=uk hr
 have e1 : sg (c :: r) = []:=f4 oM
 have e2 : aG (c :: r) = c :: r:=dB oM
 obtain ⟨h1,h2⟩:=h
 rw [e1] at h1
 rw [e2,km h1] at h2
 rcases h2 with ⟨t,u',g1,g2,g3⟩ | ⟨h2,h3⟩
 ·rw [hr] at g2
  obtain rfl:=Option.some.inj g2
  exact ⟨t,g1,g3⟩
 ·exfalso
  rw [hr] at h3
  rcases h3 with h3 | h3
  ·obtain ⟨t,ht⟩:=f8 hk (by rw [km h1,h2];exact ff hr)
   rw [km h1,h3] at ht;cases ht
  ·cases h3
theorem t9 {ts us : List Ty} (w1 : SchW ts) (w2 : SchW us) {m : List Pr} (hm : ∀ p ∈ m,ny ts us m p) {k2 : abu} {v : V} (h : OfK us k2 v) : Thin v → aJ us k2 = true → ∀ {k1},aJ ts k1 = true → iV ts us m k1 k2 → OfK ts k1 v:=by
 induction h with
 | num k n h1 h2=>intro _ _ k1 _ hs;rw [kK hs dC];exact .num _ _ h1 h2
 | txt k x h1=>intro _ _ k1 _ hs;rw [kK hs dC];exact .txt _ _ h1
 | flg k x h1=>intro _ _ k1 _ hs;rw [kK hs dC];exact .flg _ _ h1
 | lst k ks h1 h2 ih =>
  intro ht _ k1 _ hs
  obtain ⟨r,rfl⟩:=rZ hs.1 rfl (.inl dC)
  cases ht with
  | leaf=>exact .lst _ [] (by simp) (by simp)
 | non k =>
  intro _ _ k1 _ hs
  obtain ⟨r,rfl⟩:=rZ hs.1 rfl (.inr dC)
  exact .non _
 | opt k v h1 ih=>intro ht;cases ht
 | recd k t fs h0 h1 h2 h3 h4 h5 =>
  intro ht _ k1 hk1 hs
  obtain ⟨t1,g1,g2⟩:=m6 hk1 hs h0
  obtain ⟨g3,_⟩:=hm _ g2 t1 t (eE g1) (eE h0)
  cases fs with
  | nil=>exact .recd _ t1 [] g1 oM (by simp) (by simp) (by simp) (by simp)
  | cons a b=>cases ht
 | enm k t d h0 h1 h2 =>
  intro ht _ k1 hk1 hs
  obtain ⟨t1,g1,g2⟩:=m6 hk1 hs h0
  obtain ⟨g3,g4⟩:=hm _ g2 t1 t (eE g1) (eE h0)
  rcases g4 d h2 with ⟨_,h82⟩ | ⟨f,hf,_⟩
  ·omega
  ·obtain ⟨i,hi,_,hft,rfl⟩:=cV hf
   rw [← hft]
   exact .enm _ t1 _ g1 oM (a7 hi)
 | uni k t d v h0 h1 h2 h3 h4 ih =>
  intro ht hk2 k1 hk1 hs
  obtain ⟨t1,g1,g2⟩:=m6 hk1 hs h0
  obtain ⟨g3,g4⟩:=hm _ g2 t1 t (eE g1) (eE h0)
  rcases g4 d h3 with ⟨_,h82⟩ | ⟨f,hf,h69 | hks⟩
  ·omega
  ·omega
  ·obtain ⟨i,hi,_,hft,rfl⟩:=cV hf
   have htv : Thin v:=by cases ht;assumption
   rw [← hft]
   exact .uni _ t1 _ v g1 oM oM (a7 hi) (ih htv (dv w2 (bM h0) h2 h3) (dv w1 (bM g1) oM (a7 hi)) hks)
theorem qJ {s k r l : abu} (h : bY s k r l = true) {us : List Ty} (hs : ax r = some us) {u : V} (hu : OfK us l u) (ht : Thin u) : ∃ ts m,ax s = some ts ∧ aJ ts k = true ∧ aJ us l = true ∧ OfK ts k u ∧ (∀ p ∈ m,ny ts us m p) ∧ iV ts us m k l:=by
 unfold bY at h
 cases h1 : ax s with
 | none=>rw [h1] at h;cases h
 | some ts =>
  rw [h1,hs] at h
  dsimp only at h
  rw [Bool.and_eq_true,Bool.and_eq_true] at h
  obtain ⟨⟨h2,h3⟩,h4⟩:=h
  obtain ⟨h5,h6⟩:=pu _ _ _ _ h4
  have hm : ∀ p ∈ (dw ts us (ts.length * us.length + 1) k l []).2,ny ts us (dw ts us (ts.length * us.length + 1) k l []).2 p:=fun p hp=>h5.2 p hp (by simp)
  exact ⟨ts,_,F,h2,h3,t9 (co h1) (co hs) hm hu ht h3 h2 h6,hm,h6⟩
theorem o8 {s r : abu} {a b : List Mt} (h : dN s a r b = true) : cT s a = true ∧ cT r b = true ∧ ∀ o ∈ b,fh s a r o = true:=by
 unfold dN at h
 rw [Bool.and_eq_true,Bool.and_eq_true,List.all_eq_true] at h
 exact ⟨h.1.1,h.1.2,h.2⟩
theorem uf {s r : abu} {a b : List Mt} (h : dN s a r b = true) {i j : Nat} (hi : i < b.length) (hj : j < a.length) (e : (ac a j).1 = (ac b i).1) : bY s (ac a j).2.1 r (ac b i).2.1 = true:=by
 obtain ⟨h1,h2,h3⟩:=o8 h
 have h4:=h3 _ (a7 hi)
 unfold fh at h4
 rw [← e,tp h1 hj] at h4
 dsimp only at h4
 rw [Bool.and_eq_true] at h4
 exact h4.1
theorem ue {r : abu} {b : List Mt} (h : cT r b = true) {i : Nat} (hi : i < b.length) : ∃ x,ec r (ac b i).2.1 = some x:=by
 have h1:=nD h i hi
 unfold cP lI at h1
 simp only [Bool.and_eq_true] at h1
 obtain ⟨⟨⟨h1,_⟩,_⟩,_⟩:=h1
 unfold a9 at h1
 unfold ec
 cases hs : ax r with
 | none=>rw [hs] at h1;cases h1
 | some ts =>
  rw [hs] at h1
  dsimp only at h1 ⊢
  rw [if_pos h1]
  exact ⟨_,F⟩
theorem kL {qs : List b8} {k : abu} {t : Ty} (hki : aJ (ag qs) k = true) (hrf : aL (ag qs) k = some t) : dQ k = [S [],S [64],S (nm k)] ∧ ∃ p,dU qs (nm k) = some (p,t) ∧ (p,t) ∈ qs:=by
 obtain ⟨r,rfl⟩:=w6 hrf
 have h91 : ¬ ((64 : UInt8).toNat = 91 ∨ (64 : UInt8).toNat = 63):=by decide
 have hsg:=f4 (r:=r) h91
 have hcs:=dB (r:=r) h91
 have hrn : (bc (aG (64 :: r))).isSome = true:=by rw [hcs];rfl
 have hbs : bs (64 :: r) = [64]:=(gB (cU hki)).2 hrn
 have hnm : bc (64 :: r) = some (nm (64 :: r)):=by unfold nm;rw [hcs];rfl
 have hft : dK (ag qs) (nm (64 :: r)) = some t:=by unfold aL at hrf;rw [hnm] at hrf;exact hrf
 rw [← fq] at hft
 rcases hfq : dU qs (nm (64 :: r)) with _ | ⟨p,t'⟩
 ·rw [hfq] at hft;cases hft
 rw [hfq] at hft
 obtain rfl : t' = t:=Option.some.inj hft
 exact ⟨by unfold dQ;rw [hsg,hbs],p,rfl,fu hfq⟩
section
variable {P : Program} {n : Nat} {D : List Deferred} {E : bd} {M : World → Prop} {d : Option Nat} {ty : TypeId} {pos : String} {aft : Array Edge} {gd : Option (Nat × Bool)}
theorem eA {T : TypeId} {x : Operand} {desc : TypeDesc} {size bytes : Nat} {zero : Value} {b o : Nat} {v : Value} {G0 : Gh} {L0 : List Own} {cs : List Value} [TI P T desc size bytes zero] [Kn M G0 L0] (hx : ev E x = some (Pt b o)) (ha : c0 desc = false) (hs : bN G0 b o cs) (hc : cs[0]? = some v) :
  Gives P n D E M ⟨d,.load T x,ty,pos,aft,gd⟩ v:=fp hx ha (by have:=(dD (S:=M) hs).go 0 v hc;simpa using this)
theorem mn {T : TypeId} {x : Operand} {desc : TypeDesc} {size bytes : Nat} {zero : Value} {b o : Nat} {vs : List Value} {G0 : Gh} {L0 : List Own} {cs : List Value} [TI P T desc size bytes zero] [Kn M G0 L0] (hx : ev E x = some (Pt b o)) (ha : c0 desc = true) (hs : bN G0 b o cs) (hc : iZ cs 0 size = some vs) (hl : Nat.beq vs.length size = true) :
  Gives P n D E M ⟨d,.load T x,ty,pos,aft,gd⟩ (Ag vs):=gJ hx ha (Nat.eq_of_beq_eq_true hl) (by have:=(dD (S:=M) hs).take hc;simpa using this)
end
def wz (o : Option abu) : Value:=Tu [S (o.getD []),Bo o.isSome]
--?s0
open Go.Proofs
variable {G : Gh}
theorem oH {ts : List Ty} {k : abu} {u : V} (h : OfK ts k u) (hw : u.what = 82 ∨ u.what = 69 ∨ u.what = 85) : ∃ t,aL ts k = some t:=by
 cases h with
 | num=>exfalso;simp [V.what] at hw
 | txt=>exfalso;simp [V.what] at hw
 | flg=>exfalso;simp [V.what] at hw
 | lst=>exfalso;simp [V.what] at hw
 | non=>exfalso;simp [V.what] at hw
 | opt=>exfalso;simp [V.what] at hw
 | recd _ t _ h1=>exact ⟨t,h1⟩
 | enm _ t _ h1=>exact ⟨t,h1⟩
 | uni _ t _ _ h1=>exact ⟨t,h1⟩
abbrev sR : TypeId:=83
abbrev sX : TypeId:=4
theorem aax {eb y4 y11 : Nat} {a1 a2 a3 b1 b2 b3 : abu} {u : V} {c : VC} {b0 : Bool} (he : bN G y4 0 [Pt eb 0]) (cx_lft : ci abt 93 [Pt eb 0,Ag [S a1,S a2,S a3],Ag [S b1,S b2,S b3],Ag (bE c)] G (fun v G'=>∃ c b,v = Tu [Ag (bE c),Bo b] ∧ V.rep G' u c)) :
  cX abt 128 [Ag [S a1,S a2,S a3],Ag [S b1,S b2,S b3],Ag (bE c),Pt y4 0,Pt y11 0] G [.blk y11 (.cells (List.toArray [Bo b0]) sX (0,0))] (fun v G' L'=>∃ c' b',v = Ag (bE c') ∧ V.rep G' u c' ∧ L' = [.blk y11 (.cells (List.toArray [Bo b']) sX (0,0))]):=by
 obtain ⟨w,tx,tg,a,m,kc⟩:=c
 have e0 : bE ⟨w,tx,tg,a,m,kc⟩ = [U8 (w : Nat),S tx,I tg,.slice a m kc]:=rfl
 rw [e0] at cx_lft ⊢
 refine b7 [(0,_),(1,_),(2,_),(3,_),(4,_)] Tryz.func128 kR Tryz.ntmps128 F F tU fun B hB hW=>?_
 repeat' (first | refine jR ?_ | (refine jo ?_;first | refine jO fun _=>?_ | refine jL fun _=>?_ | refine jV (eA F F aS F) ?_ | refine ah F ?_ | refine aK F ?_ | refine jD F F F ?_ | refine jC F F F ?_ | refine aP F ?_ | refine aH F ?_ | (refine aM F F F cx_lft F ?_;rintro _ G hle ⟨c1,b1,rfl,hrep⟩;skip)) | refine kN F F (fun _=>?_) (fun _=>?_))
 all_goals exact aN (vs:=[_]) F ⟨aw F F F F,trivial⟩ F sB ⟨hle,_,_,F,hrep,F⟩
theorem zw {eb mb ba bb : Nat} {qs rs : List b8} (w1 : SchW (ag qs)) (w2 : SchW (ag rs)) {u : V} (ht : Thin u) : ∀ {G : Gh} {k1 k2 : abu} {c : VC},bN G eb 0 [Pt ba 0,Pt bb 0,.map (some mb)] → ScI G ba qs → ScI G bb rs → OfK (ag rs) k2 u → OfK (ag qs) k1 u → aJ (ag qs) k1 = true → aJ (ag rs) k2 = true → V.rep G u c →
  ci abt 93 [Pt eb 0,Ag [S (sg k1),S (bs k1),S (nm k1)],Ag [S (sg k2),S (bs k2),S (nm k2)],Ag (bE c)] G (fun v G'=>∃ c b,v = Tu [Ag (bE c),Bo b] ∧ V.rep G' u c):=by
 induction ht with
 | leaf w x t h85 hx htg =>
  intro G k1 k2 c hE h1 h2 ho2 ho1 hk1 hk2 hrep
  obtain ⟨a,k,cs,rfl,hw255,_,hw61,hcl,hsl,hrs⟩:=ip hrep
  have e0 : bE ⟨w,x,t,a,([] : List V).length,k⟩ = [U8 (w : Nat),S x,I t,.slice a 0 k]:=rfl
  rw [e0]
  have hlf : ∀ {G : Gh},V.rep G (.nd w x t []) ⟨w,x,t,none,0,0⟩:=be ⟨hw255,by intro h;have:=hw61 h;simp at this⟩ oM
  by_cases hs : sg k1 = []
  case neg =>
   refine jB [(0,_),(1,_),(2,_),(3,_)] Tryz.func93 Tryz.ntmps93 fun B hok hB hW=>?_
   repeat' (first | refine jR ?_ | (refine jo ?_;first | refine jO fun _=>?_ | refine jL fun _=>?_ | refine ah F ?_ | refine jV (am F F) ?_ | refine jD F F F ?_ | refine jC F F F ?_ | refine jV (cE F F) ?_ | refine jV (aq F) ?_) | refine ae F (aC ‹_›) ?_)
   rename_i x4 x5 x6 x7 x8 x10 x11
   refine aU (ι:=Nat) (fun i=>i = 0) (fun i=>[(34,I ((0 : Nat) : Int)),(35,I (i : Nat)),(8,Pt x8 0),(10,Pt x10 0),(11,Pt x11 0)]) (fun _=>G) (fun i=>[.blk x11 (.cells (List.toArray [Value.bool false]) sX (0,0)),.blk x10 (.cells (List.toArray [U8 (w : Nat),S x,I t,aA]) sR (0,0)),.blk x8 (.cells (List.toArray [.int .u8 0,S [],.int .i64 0,aA]) sR (0,0))]) (fun i=>0) 0 ?_ tU F sB (fun i Hi=>?_)
   ·rfl
   subst Hi
   repeat' (first | refine jR ?_ | refine af F F ?_ | (refine ak (dq (id:=10) (tt:=8) F aj ?_);(refine jG (aa 4 1) 0 F (bC F F F F) ?_);(refine jG (aa 4 3) 1 F (an F F F) ?_);refine jA 2 F ?_;(refine jC F F F ?_);refine jK (aa 4 7) ?_;refine jW 0 [3] (aa 4 15) ?_;refine jQ ?_))
   exact jZ (vs:=[_,_]) F ⟨aw F F F F,F,trivial⟩ F ⟨Gh.le.refl _,F,⟨w,x,t,none,0,0⟩,_,F,hlf⟩
  by_cases hb : bs k1 = [64]
  case neg =>
   refine jB [(0,_),(1,_),(2,_),(3,_)] Tryz.func93 Tryz.ntmps93 fun B hok hB hW=>?_
   repeat' (first | refine jR ?_ | (refine jo ?_;first | refine jO fun _=>?_ | refine jL fun _=>?_ | refine ah F ?_ | refine aK F ?_ | refine jV (am F F) ?_ | refine jD F F F ?_ | refine jC F F F ?_ | refine jV (cE F F) ?_) | refine ae F (aC ‹_›) ?_ | (refine af F ?_ ?_;(focus ((simp [*];done);done))))
   exact jZ (vs:=[_,_]) F ⟨aw F F F F,F,trivial⟩ F ⟨Gh.le.refl _,F,⟨w,x,t,a,0,k⟩,_,F,hrep⟩
  obtain ⟨t1,hr1⟩ : ∃ t1,aL (ag qs) k1 = some t1:=by
   have hc:=km hs
   have:=(gB (cU hk1)).1 hb
   obtain ⟨t1,h⟩:=f8 hk1 this
   rw [hc] at h
   exact ⟨t1,h⟩
  have hwr : w = 82 ∨ w = 69:=by
   rcases lG ho1 hr1 with ⟨_,fs,e,_⟩ | ⟨_,d,e,_⟩ | ⟨_,_,d,v,e,_⟩
   ·simp only [V.nd.injEq] at e;exact .inl e.1
   ·simp only [V.nd.injEq] at e;exact .inr e.1
   ·simp at e
  obtain ⟨t2,hr2⟩:=oH ho2 (by rcases hwr with rfl | rfl <;> simp [V.what])
  obtain ⟨hkd1,pt1,hfq1,hqm1⟩:=kL hk1 hr1
  obtain ⟨hkd2,pt2,hfq2,hqm2⟩:=kL hk2 hr2
  have hkv1:=d4 qs (nm k1)
  have hkv2:=d4 rs (nm k2)
  rw [hfq1] at hkv1
  rw [hfq2] at hkv2
  dsimp only [Option.map_some] at hkv1 hkv2
  obtain ⟨u1,mm1,g11,g12,g13⟩:=h1.at'
  obtain ⟨u2,mm2,g21,g22,g23⟩:=h2.at'
  unfold dQ at hkd1 hkd2
  simp only [List.cons.injEq,and_true] at hkd1 hkd2
  rw [hkd1.1,hkd1.2,hkd2.1,hkd2.2]
  rcases hwr with rfl | rfl
  ·
   refine jB [(0,_),(1,_),(2,_),(3,_)] Tryz.func93 Tryz.ntmps93 fun B hok hB hW=>?_
   repeat' (first | refine jR ?_ | (refine jo ?_;first | refine jO fun _=>?_ | refine jL fun _=>?_ | refine ah F ?_ | refine jV (am F F) ?_ | refine jD F F F ?_ | refine jC F F F ?_ | refine jV (cE F F) ?_) | refine af F F ?_)
   rename_i x4 x5 x6 x7 x8 x10 x11
   refine Nx.sealC (b:=x4) fun G1 l1 s4=>?_
   refine Nx.sealC (b:=x5) fun G2 l2 s5=>?_
   refine Nx.sealC (b:=x6) fun G3 l3 s6=>?_
   refine Nx.sealC (b:=x7) fun G4 l4 s7=>?_
   have s4:=((s4.mono l2).mono l3).mono l4
   have s5:=(s5.mono l3).mono l4
   have s6:=s6.mono l4
   have hG:=((l1.trans l2).trans l3).trans l4
   have hE4:=hE.mono hG
   have g11:=g11.mono hG
   have g21:=g21.mono hG
   have g13:=hG _ _ g13
   have g23:=hG _ _ g23
   (refine ak (ar (id:=13) _ (fun _ h=>h) aj ?_);refine jT 20 [7,17] (aa 22 131200) ?_;(refine jG (aa 22 131201) 0 F (eA F F aS F) ?_);refine jT 17 [1,2] (aa 22 131207) ?_;(refine jG (aa 22 131215) 3 F (eA F F aS F) ?_);refine jT 14 [4,5] (aa 22 131263) ?_;(refine jG (aa 22 131327) 6 F (ay F F aS F F) ?_);(refine jG (aa 22 131583) 8 F (ay F F aS F F) ?_);((refine jG (aa 22 132095) 9 F (bG F F (c9 aS) aS F) ?_));refine jT 10 [20] (aa 22 1180671) ?_;(refine jG (aa 22 1181695) 10 F (eA F F aS F) ?_);refine jT 7 [11,12] (aa 22 1187839) ?_;(refine jG (aa 22 1196031) 13 F (ay F F aS F F) ?_);refine jT 4 [14,15] (aa 22 1245183) ?_;(refine jG (aa 22 1310719) 16 F (ay F F aS F F) ?_);(refine jG (aa 22 1572863) 18 F (ay F F aS F F) ?_);((refine jG (aa 22 2097151) 19 F (bG F F (c9 aS) aS F) ?_));refine jT 0 [21] (aa 22 4194303) ?_;refine jQ ?_)
   repeat' (first | refine jR ?_ | (refine jo ?_;first | refine jV (eA F F aS F) ?_ | refine jV (ay F F aS F F) ?_ | refine jV (aq F) ?_) | refine ae F F ?_ | refine af F F ?_)
   refine aU (ι:=Nat) (fun i=>i = 0) (fun i=>[(108,I ((0 : Nat) : Int)),(109,I (i : Nat)),(8,Pt x8 0),(10,Pt x10 0),(11,Pt x11 0)]) (fun i=>G4) (fun i=>[.blk x11 (.cells (List.toArray [Value.bool false]) sX (0,0)),.blk x10 (.cells (List.toArray [U8 (82 : Nat),S x,I t,aA]) sR (0,0)),.blk x8 (.cells (List.toArray [.int .u8 0,S [],.int .i64 0,aA]) sR (0,0))]) (fun i=>0) 0 ?_ tU F a6 (fun i Hi=>?_)
   ·rfl
   subst Hi
   repeat' (first | refine jR ?_ | refine af F F ?_ | (refine ak (dq (id:=29) (tt:=8) F aj ?_);(refine jG (aa 4 1) 0 F (bC F F F F) ?_);(refine jG (aa 4 3) 1 F (an F F F) ?_);refine jA 2 F ?_;(refine jC F F F ?_);refine jK (aa 4 7) ?_;refine jW 0 [3] (aa 4 15) ?_;refine jQ ?_))
   exact jZ (vs:=[_,_]) F ⟨aw F F F F,F,trivial⟩ F ⟨hG,F,⟨82,x,t,none,0,0⟩,_,F,hlf⟩
  ·
   refine jB [(0,_),(1,_),(2,_),(3,_)] Tryz.func93 Tryz.ntmps93 fun B hok hB hW=>?_
   repeat' (first | refine jR ?_ | (refine jo ?_;first | refine jO fun _=>?_ | refine jL fun _=>?_ | refine ah F ?_ | refine jV (am F F) ?_ | refine jD F F F ?_ | refine jC F F F ?_ | refine jV (cE F F) ?_) | refine af F F ?_)
   rename_i x4 x5 x6 x7 x8 x10 x11
   refine Nx.sealC (b:=x4) fun G1 l1 s4=>?_
   refine Nx.sealC (b:=x5) fun G2 l2 s5=>?_
   refine Nx.sealC (b:=x6) fun G3 l3 s6=>?_
   refine Nx.sealC (b:=x7) fun G4 l4 s7=>?_
   have s4:=((s4.mono l2).mono l3).mono l4
   have s5:=(s5.mono l3).mono l4
   have s6:=s6.mono l4
   have hG:=((l1.trans l2).trans l3).trans l4
   have hE4:=hE.mono hG
   have g11:=g11.mono hG
   have g21:=g21.mono hG
   have g13:=hG _ _ g13
   have g23:=hG _ _ g23
   (refine ak (ar (id:=13) _ (fun _ h=>h) aj ?_);refine jT 20 [7,17] (aa 22 131200) ?_;(refine jG (aa 22 131201) 0 F (eA F F aS F) ?_);refine jT 17 [1,2] (aa 22 131207) ?_;(refine jG (aa 22 131215) 3 F (eA F F aS F) ?_);refine jT 14 [4,5] (aa 22 131263) ?_;(refine jG (aa 22 131327) 6 F (ay F F aS F F) ?_);(refine jG (aa 22 131583) 8 F (ay F F aS F F) ?_);((refine jG (aa 22 132095) 9 F (bG F F (c9 aS) aS F) ?_));refine jT 10 [20] (aa 22 1180671) ?_;(refine jG (aa 22 1181695) 10 F (eA F F aS F) ?_);refine jT 7 [11,12] (aa 22 1187839) ?_;(refine jG (aa 22 1196031) 13 F (ay F F aS F F) ?_);refine jT 4 [14,15] (aa 22 1245183) ?_;(refine jG (aa 22 1310719) 16 F (ay F F aS F F) ?_);(refine jG (aa 22 1572863) 18 F (ay F F aS F F) ?_);((refine jG (aa 22 2097151) 19 F (bG F F (c9 aS) aS F) ?_));refine jT 0 [21] (aa 22 4194303) ?_;refine jQ ?_)
   repeat' (first | refine jR ?_ | (refine jo ?_;refine jV (eA F F aS F) ?_) | refine af F F ?_ | (refine ak (dq (id:=29) (tt:=8) F aj ?_);(refine jG (aa 4 1) 0 F (bC F F F F) ?_);(refine jG (aa 4 3) 1 F (an F F F) ?_);refine jA 2 F ?_;(refine jC F F F ?_);refine jK (aa 4 7) ?_;refine jW 0 [3] (aa 4 15) ?_;refine jQ ?_))
   exact jZ (vs:=[_,_]) F ⟨aw F F F F,F,trivial⟩ F ⟨hG,F,⟨69,x,t,none,0,0⟩,_,F,hlf⟩
 | uni t v htg hv ih =>
  intro G k1 k2 c hE h1 h2 ho2 ho1 hk1 hk2 hrep
  obtain ⟨t2,hr2⟩:=oH ho2 (.inr (.inr rfl))
  obtain ⟨t1,hr1⟩:=oH ho1 (.inr (.inr rfl))
  rcases lG ho2 hr2 with ⟨_,fs,e,_⟩ | ⟨_,d,e,_⟩ | ⟨g82,g69,d2,v2,e2,hd2,hv2⟩
  ·simp at e
  ·simp at e
  rcases lG ho1 hr1 with ⟨_,fs,e,_⟩ | ⟨_,d,e,_⟩ | ⟨f82,f69,d1,v1,e1,hd1,hv1⟩
  ·simp at e
  ·simp at e
  simp only [V.nd.injEq,List.cons.injEq,true_and,and_true] at e1 e2
  obtain ⟨rfl,rfl⟩:=e2
  obtain ⟨hdt,rfl⟩:=e1
  have hT1:=w1.ty t1 (bM hr1)
  have hT2:=w2.ty t2 (bM hr2)
  have hft1:=fX hT1 hd1
  have hft2:=fX hT2 hd2
  rw [← hdt] at hft1
  have hkk1:=dv w1 (bM hr1) f69 hd1
  have hkk2:=dv w2 (bM hr2) g69 hd2
  obtain ⟨j1,hj1,hjf1,hjn1,hjx1⟩:=cV hft1
  obtain ⟨j2,hj2,hjf2,hjn2,hjx2⟩:=cV hft2
  obtain ⟨hkd1,pt1,hfq1,hqm1⟩:=kL hk1 hr1
  obtain ⟨hkd2,pt2,hfq2,hqm2⟩:=kL hk2 hr2
  obtain ⟨fv1,ln1,hsg1,hfv1⟩:=h1.ty _ hqm1
  obtain ⟨fv2,ln2,hsg2,hfv2⟩:=h2.ty _ hqm2
  dsimp only at hsg1 hfv1 hsg2 hfv2
  have hkv1:=d4 qs (nm k1)
  have hkv2:=d4 rs (nm k2)
  rw [hfq1] at hkv1
  rw [hfq2] at hkv2
  dsimp only [Option.map_some] at hkv1 hkv2
  obtain ⟨u1,mm1,g11,g12,g13⟩:=h1.at'
  obtain ⟨u2,mm2,g21,g22,g23⟩:=h2.at'
  have hl1:=hT1.len
  have hl2:=hT2.len
  obtain ⟨bf1,of1,cf1,rfl,hsf1⟩:=hfv1.expl oM
  obtain ⟨bf2,of2,cf2,rfl,hsf2⟩:=hfv2.expl oM
  unfold dQ at hkd1 hkd2
  simp only [List.cons.injEq,and_true] at hkd1 hkd2
  rw [hkd1.1,hkd1.2,hkd2.1,hkd2.2]
  obtain ⟨ka,kc,cs,rfl,_,_,_,hcl,hsk,hrs⟩:=ip hrep
  have e0 : bE ⟨85,[],d2.tag,ka,([v] : List V).length,kc⟩ = [U8 (85 : Nat),S [],I d2.tag,.slice ka 1 kc]:=rfl
  rw [e0]
  rw [V.reps] at hrs
  obtain ⟨c1,cs1,rfl,hrv1,hrv1'⟩:=hrs
  rw [V.reps] at hrv1'
  subst hrv1'
  have hsk : bh G (.slice ka 1 kc) 4 ([c1] : List VC).length (ao bE [c1]):=hsk
  refine jB [(0,_),(1,_),(2,_),(3,_)] Tryz.func93 Tryz.ntmps93 fun B hok hB hW=>?_
  repeat' (first | refine jR ?_ | (refine jo ?_;first | refine jO fun _=>?_ | refine jL fun _=>?_ | refine ah F ?_ | refine jV (am F F) ?_ | refine jD F F F ?_ | refine jC F F F ?_ | refine jV (cE F F) ?_) | refine af F F ?_)
  rename_i x4 x5 x6 x7 x8 x10 x11
  refine Nx.sealC (b:=x4) fun G1 l1 s4=>?_
  refine Nx.sealC (b:=x5) fun G2 l2 s5=>?_
  refine Nx.sealC (b:=x6) fun G3 l3 s6=>?_
  refine Nx.sealC (b:=x7) fun G4 l4 s7=>?_
  have s4:=((s4.mono l2).mono l3).mono l4
  have s5:=(s5.mono l3).mono l4
  have s6:=s6.mono l4
  have hG:=((l1.trans l2).trans l3).trans l4
  have hE4:=hE.mono hG
  have hsg1:=hsg1.mono hG
  have hsg2:=hsg2.mono hG
  have hsf1:=hsf1.mono hG
  have hsf2:=hsf2.mono hG
  have g11:=g11.mono hG
  have g21:=g21.mono hG
  have g13:=hG _ _ g13
  have g23:=hG _ _ g23
  have hsk:=hsk.mono hG
  obtain ⟨xb,xo,xc,ee,hsx⟩:=hsk.expl (by simp)
  simp only [Value.slice.injEq] at ee
  obtain ⟨rfl,-,rfl⟩:=ee
  have hxi : ac [c1] (Int.toNat 0) = c1:=rfl
  have cx_fld:=dE hsg1 hsf1 oM hj1 hjf1 hjn1
  have cx_fld2:=dE hsg2 hsf2 oM hj2 hjf2 hjn2
  have cx_lft:=ih (G:=G4) (k1:=d1.kind) (k2:=d2.kind) (c:=c1) hE4 (h1.mono hG) (h2.mono hG) hv2 hv1 hkk1 hkk2 (eI hG hrv1)
  have cx_one:=aax (y4:=x4) (y11:=x11) (b0:=false) s4 cx_lft
  rw [show sg d1.kind = sg (ac t1.fields j1).kind by rw [hjx1],show bs d1.kind = bs (ac t1.fields j1).kind by rw [hjx1],show nm d1.kind = nm (ac t1.fields j1).kind by rw [hjx1],show sg d2.kind = sg (ac t2.fields j2).kind by rw [hjx2],show bs d2.kind = bs (ac t2.fields j2).kind by rw [hjx2],show nm d2.kind = nm (ac t2.fields j2).kind by rw [hjx2]] at cx_one
  (refine ak (ar (id:=13) _ (fun _ h=>h) aj ?_);refine jT 20 [7,17] (aa 22 131200) ?_;(refine jG (aa 22 131201) 0 F (eA F F aS F) ?_);refine jT 17 [1,2] (aa 22 131207) ?_;(refine jG (aa 22 131215) 3 F (eA F F aS F) ?_);refine jT 14 [4,5] (aa 22 131263) ?_;(refine jG (aa 22 131327) 6 F (ay F F aS F F) ?_);(refine jG (aa 22 131583) 8 F (ay F F aS F F) ?_);((refine jG (aa 22 132095) 9 F (bG F F (c9 aS) aS F) ?_));refine jT 10 [20] (aa 22 1180671) ?_;(refine jG (aa 22 1181695) 10 F (eA F F aS F) ?_);refine jT 7 [11,12] (aa 22 1187839) ?_;(refine jG (aa 22 1196031) 13 F (ay F F aS F F) ?_);refine jT 4 [14,15] (aa 22 1245183) ?_;(refine jG (aa 22 1310719) 16 F (ay F F aS F F) ?_);(refine jG (aa 22 1572863) 18 F (ay F F aS F F) ?_);((refine jG (aa 22 2097151) 19 F (bG F F (c9 aS) aS F) ?_));refine jT 0 [21] (aa 22 4194303) ?_;refine jQ ?_)
  repeat' (first | refine jR ?_ | (refine jo ?_;refine jV (eA F F aS F) ?_) | refine ae F F ?_)
  (refine ak (ar (id:=16) [] (fun _ h=>absurd h (by simp)) aj ?_);refine jW 17 [0,1,2,8,9,15] (aa 23 33543) ?_;(refine jG (aa 23 33551) 3 F (ay F F aS F F) ?_);(refine jG (aa 23 34575) 10 F (ay F F aS F F) ?_);(refine jG (aa 23 100111) 16 F (ay F F aS F F) ?_);((refine jG (aa 23 231183) 17 F (aZ F F ?_) ?_;focus omega));(refine jG (aa 23 493327) 18 F (mn F F aS F F) ?_);refine jA 4 F ?_;(refine ad F F F cx_fld F ?_);refine jK (aa 23 493343) ?_;refine jW 9 [5,6] (aa 23 493439) ?_;((refine jG (aa 23 493567) 7 F (du F F aS ?_ F F) ?_;focus omega));refine jA 11 F ?_;(refine ad F F F cx_fld2 F ?_);refine jK (aa 23 495615) ?_;refine jW 5 [12,13] (aa 23 507903) ?_;((refine jG (aa 23 524287) 14 F (du F F aS ?_ F F) ?_;focus omega));refine jA 19 F ?_;(refine da F F F cx_one F ?_;rintro _ G6 _ hle6 ⟨⟨q1,q2,q3,q4,q5,q6⟩,b9,rfl,hr9,rfl⟩;dsimp only [zA,fA]);refine jK (aa 23 1048575) ?_;refine jA 20 F ?_;(refine jF fun _=>?_);refine jK (aa 23 2097151) ?_;refine jW 1 [21] (aa 23 4194303) ?_;refine jA 22 F ?_;(refine jD F F F ?_);refine jK (aa 23 8388607) ?_;refine jQ ?_)
  rename_i xk
  refine Nx.sealC (b:=xk) fun G7 l7 sk=>?_
  have hsl7 : bh G7 (.slice (some ⟨xk,0,none⟩) 1 1) 4 ([(⟨q1,q2,q3,q4,q5,q6⟩ : VC)] : List VC).length (ao bE [⟨q1,q2,q3,q4,q5,q6⟩]):=⟨rfl,.inr ⟨xk,0,1,rfl,Nat.le_refl _,sk⟩⟩
  repeat' (first | refine jR ?_ | (refine ak (dq (id:=29) (tt:=8) F aj ?_);(refine jG (aa 4 1) 0 F (bC F F F F) ?_);(refine jG (aa 4 3) 1 F (an F F F) ?_);refine jA 2 F ?_;(refine jC F F F ?_);refine jK (aa 4 7) ?_;refine jW 0 [3] (aa 4 15) ?_;refine jQ ?_))
  exact jZ (vs:=[_,_]) F ⟨aw F F F F,F,trivial⟩ F ⟨hG.trans (hle6.trans l7),F,⟨85,[],d2.tag,some ⟨xk,0,none⟩,1,1⟩,_,F,cH (ks:=[v]) dC ⟨oM,oM⟩ (fun h=>(by cases h)) F hsl7 ⟨_,[],F,eI l7 hr9,F⟩⟩
abbrev yk : TypeId:=77
theorem u6 {s k r l : abu} (hs : s.length ≤ 1048576) (hk : k.length ≤ 1048576) (hr : r.length ≤ 1048576) (hl : l.length ≤ 1048576) (h : bY s k r l = true) :
  ci abt 85 [S s,S k,S r,S l] G (fun v G'=>∃ eb mb ba bb qs rs,v = Tu [Pt eb 0,Ag [S (sg k),S (bs k),S (nm k)],Ag [S (sg l),S (bs l),S (nm l)],Bo true] ∧ bN G' eb 0 [Pt ba 0,Pt bb 0,.map (some mb)] ∧ ScI G' ba qs ∧ ScI G' bb rs ∧ ax s = some (ag qs) ∧ ax r = some (ag rs)):=by
 cases e1 : a9 s k with
 | false=>rw [fG (.inl e1)] at h;cases h
 | true =>
  cases e2 : a9 r l with
  | false=>rw [fG (.inr e2)] at h;cases h
  | true =>
   obtain ⟨ts,t1,t2,t3⟩:=fF e1
   obtain ⟨us,u1,u2,u3⟩:=fF e2
   have k1 : ∀ {s k : abu} {ts : List Ty},s.length ≤ 1048576 → k.length ≤ 1048576 → ax s = some ts → a9 s k = true → ∀ G,ci abt 52 [S s,S k] G (fun v G'=>∃ b qs,v = Tu [Pt b 0,Ag [S (sg k),S (bs k),S (nm k)],Bo true] ∧ ag qs = ts ∧ ScI G' b qs):=fun hs hk h1 h3 G=>by
    refine (eP (G:=G) oM oM).mono ?_
    rintro v G' L' ⟨g1,g2,⟨g3,_⟩ | ⟨b,qs,rfl,g4,g5,g6⟩⟩
    ·rw [h3] at g3;cases g3
    ·rw [h1] at g4;exact ⟨g1,g2,b,qs,F,(Option.some.inj g4).symm,g6⟩
   have cx_boa:=k1 hs hk t1 e1
   have cx_bob:=k1 hr hl u1 e2
   rw [j0 t1 u1 t2 u2] at h
   rw [t1,u1]
   refine jB [(0,_),(1,_),(2,_),(3,_)] Tryz.func85 Tryz.ntmps85 fun B hok hB hW=>?_
   repeat' (first | refine jR ?_ | (refine jo ?_;first | refine jL fun _=>?_ | refine jC F F F ?_ | refine aH F ?_ | refine jV (am F F) ?_ | refine wP F fun _=>?_ | refine jO fun _=>?_ | (refine aM F F F (cx_boa _) F ?_;rintro _ G hle ⟨ba,qa,rfl,hT1,hR1⟩;((try have hR1:=SchR.mono hR1 hle);(try have hR1:=ScI.mono hR1 hle))) | (refine aM F F F (cx_bob _) F ?_;rintro _ G hle ⟨bb,qb,rfl,hT2,hR2⟩;((try have hR1:=SchR.mono hR1 hle);(try have hR1:=ScI.mono hR1 hle)))) | refine aD F F F ?_ | refine af F F ?_)
   rename_i x9 x10 G1 hle1 hR0 x13 x16 mb eb
   refine Nx.sealC (b:=eb) fun G2 hle2 hE=>?_
   subst hT1
   subst hT2
   have cx_k0:=q7 (mb:=mb) hE (hR1.mono hle2) (hR2.mono hle2) t3 u3 ((ag qa).length * (ag qb).length + 1) k l [] AskW.nil (by simp) t2 u2
   have hx1:=hR1.mono hle2
   have hx2:=hR2.mono hle2
   generalize dw (ag qa) (ag qb) ((ag qa).length * (ag qb).length + 1) k l [] = q at cx_k0 h
   have cx_ks : b6 abt 118 [Pt eb 0,Ag [S (sg k),S (bs k),S (nm k)],Ag [S (sg l),S (bs l),S (nm l)]] G2 [.blk mb (cl [])] (fun v L'=>v = Bo q.1 ∧ L' = [.blk mb (cl q.2)]):=cx_k0
   rw [h] at cx_ks
   (refine ak (ar (id:=6) [.blk x16 (.cells (List.toArray [S (sg l),S (bs l),S (nm l)]) yk (0,0)),.blk x13 (.cells (List.toArray [S (sg k),S (bs k),S (nm k)]) yk (0,0))] (by intro y hy;simp only [List.mem_cons,List.not_mem_nil,or_false] at hy ⊢;rcases hy with hy | hy <;> simp [hy]) aj ?_);refine jW 9 [0,3] (aa 11 9) ?_;(refine jG (aa 11 11) 1 F (bC F F F F) ?_);(refine jG (aa 11 15) 2 F (bC F F F F) ?_);(refine jG (aa 11 31) 4 F (bC F F F F) ?_);(refine jG (aa 11 63) 5 F (bC F F F F) ?_);refine jA 6 F ?_;(refine iR F F F cx_ks F ?_;rintro _ _ ⟨rfl,rfl⟩;dsimp only [zA,fA]);refine jK (aa 11 127) ?_;refine jW 3 [7] (aa 11 255) ?_;refine jA 8 F ?_;(refine jC F F F ?_);refine jK (aa 11 511) ?_;refine jA 9 F ?_;(refine jC F F F ?_);refine jK (aa 11 1023) ?_;refine jW 0 [10] (aa 11 2047) ?_;refine jQ ?_)
   repeat' (refine jR ?_)
   all_goals refine jZ (vs:=[_,_,_,_]) F ⟨F,aw F F F F,aw F F F F,F,trivial⟩ F ⟨((Gh.le.trans hle1 hle).trans hle2),F,?_⟩
   all_goals exact ⟨_,_,_,_,_,_,F,hE,hx1,hx2,F,F⟩
theorem uY {s k r l x : abu} (hs : s.length ≤ 1048576) (hk : k.length ≤ 1048576) (hr : r.length ≤ 1048576) (hl : l.length ≤ 1048576) (h : bY s k r l = false) :
  ci abt 54 [S s,S k,S r,S l,S x] G (fun v _=>∃ z b,v = Tu [Ag (bE z),Bo b,Bo false]):=by
 have cx_ev:=fun G=>rf (G:=G) hs hk hr hl
 rw [h] at cx_ev
 refine jB [(0,_),(1,_),(2,_),(3,_),(4,_)] Tryz.func54 Tryz.ntmps54 fun B hok hB hW=>?_
 repeat' (first | refine jR ?_ | (refine jo ?_;first | refine jL fun _=>?_ | refine jC F F F ?_ | refine jV (am F F) ?_ | (refine aM F F F (cx_ev _) F ?_;rintro _ G hle ⟨x1,y1,y2,y3,y4,y5,y6,rfl⟩;skip)) | refine ae F F ?_)
 all_goals exact jZ (vs:=[_,_,_]) F ⟨aw F F F F,F,F,trivial⟩ F ⟨hle,F,⟨0,[],0,none,0,0⟩,_,F⟩
theorem uX {s k r l x : abu} (hs : s.length ≤ 1048576) (hk : k.length ≤ 1048576) (hr : r.length ≤ 1048576) (hl : l.length ≤ 1048576) (h : bY s k r l = true) (hx : ec r l = some x) :
  ci abt 54 [S s,S k,S r,S l,S x] G (fun v G'=>∃ u c b,v = Tu [Ag (bE c),Bo b,Bo true] ∧ V.rep G' u c ∧ u.out = x ∧ u.tot ≤ 1000000):=by
 obtain ⟨us,u,i1,i2,i3,i4,i5,i6,i7⟩:=kD hx
 obtain ⟨ts,m,j1,j2,j3,j4,_⟩:=qJ h i1 i3 i4
 have hvo:=pT (co i1) i3 (by rw [i5];exact i7) i6
 rw [i5] at hvo
 have cx_ev2:=fun G=>u6 (G:=G) hs hk hr hl h
 refine jB [(0,_),(1,_),(2,_),(3,_),(4,_)] Tryz.func54 Tryz.ntmps54 fun B hok hB hW=>?_
 repeat' (first | refine jR ?_ | (refine jo ?_;first | refine jL fun _=>?_ | refine jC F F F ?_ | (refine aM F F F (cx_ev2 _) F ?_;rintro _ G hle ⟨eb,mb,ba,bb,qs,rs,rfl,hE,hS1,hS2,hsc1,hsc2⟩;skip)) | refine af F F ?_)
 obtain rfl:=Option.some.inj (i1.symm.trans hsc2)
 obtain rfl:=Option.some.inj (j1.symm.trans hsc1)
 have cx_ris : ci abt 92 [Pt bb 0,Ag [S (sg l),S (bs l),S (nm l)],S x] G (fun v G'=>∃ cv,v = Tu [Ag (bE cv),Bo true] ∧ V.rep G' u cv):=by
  refine (oW (G:=G) hS2 (co i1) j3 oM).mono ?_
  rintro v G' L' ⟨g1,g2,⟨g3,_⟩ | ⟨u2,c,g3,rfl,g4⟩⟩
  ·rw [hvo] at g3;cases g3
  ·rw [hvo] at g3
   obtain rfl:=Option.some.inj g3
   exact ⟨g1,g2,c,F,g4⟩
 have hle0:=hle
 have htot : u.tot ≤ 1000000:=by
  obtain ⟨_,_,_,_,h6,_⟩:=nY (s:=r) (k:=l) (w:=x) (u:=u) (by unfold gr;rw [i1];dsimp only;rw [if_pos i2];exact hvo)
  omega
 (refine ak (ar (id:=4) _ (fun _ h=>h) aj ?_);refine jT 9 [0,1,2,5] (aa 13 39) ?_;(refine jG (aa 13 47) 3 F (ay F F aS F F) ?_);(refine jG (aa 13 63) 4 F (bC F F F F) ?_);refine cd [6,10] kR dC ⟨?_,?_,trivial⟩;(focus (refine aX F F ?_;(refine aM F F F cx_ris F ?_;rintro _ G hle ⟨cv,rfl,hrv⟩;skip);refine jK (aa 13 127) ?_;refine jW 3 [7,8,9] (aa 13 1023) ?_;refine jA 10 F ?_;(refine jL fun _=>?_);refine jK (aa 13 2047) ?_;refine jA 11 F ?_;(refine jC F F F ?_);refine jK (aa 13 4095) ?_;refine jW 0 [12] (aa 13 8191) ?_;refine jQ ?_));rotate_left 1;(focus (refine aX F F ?_;(refine jL fun _=>?_);refine jK (aa 13 1087) ?_;refine jA 6 F ?_;(refine aM F F F cx_ris F ?_;rintro _ G hle ⟨cv,rfl,hrv⟩;skip);refine jK (aa 13 1151) ?_;refine jW 2 [7,8,9] (aa 13 2047) ?_;refine jA 11 F ?_;(refine jC F F F ?_);refine jK (aa 13 4095) ?_;refine jW 0 [12] (aa 13 8191) ?_;refine jQ ?_));rotate_left 1)
 repeat' (first | refine jR ?_ | (refine jo ?_;refine aK F ?_) | refine af F F ?_)
 all_goals
  have hle1:=hle0.trans hle
  have cx_lft:=zw (co j1) (co i1) i4 (hE.mono hle) (hS1.mono hle) (hS2.mono hle) i3 j4 j2 i2 hrv
  repeat' (first | refine jR ?_ | (refine jo ?_;first | refine jL fun _=>?_ | refine jC F F F ?_ | refine aK F ?_ | (refine aM F F F cx_lft F ?_;rintro _ G hle ⟨c1,b1,rfl,hrep⟩;skip)))
  exact jZ (vs:=[_,_,_]) F ⟨aw F F F F,F,F,trivial⟩ F ⟨hle1.trans hle,F,u,c1,_,F,hrep,i5,htot⟩
theorem pO {s k r l x : abu} (hs : s.length ≤ 1048576) (hk : k.length ≤ 1048576) (hr : r.length ≤ 1048576) (hl : l.length ≤ 1048576) (hx : ec r l = some x) :
  aI abt 23 [S s,S k,S r,S l,S x] G (· = wz (if bY s k r l = true then some x else none)):=by
 cases h : bY s k r l with
 | false =>
  have cx_lf0:=fun G=>uY (G:=G) (x:=x) hs hk hr hl h
  refine jB (Post:=fun v G' L'=>G' = G ∧ L' = [] ∧ _) [(0,_),(1,_),(2,_),(3,_),(4,_)] Tryz.func23 Tryz.ntmps23 fun B hok hB hW=>?_
  repeat' (first | refine jR ?_ | (refine jo ?_;first | refine jL fun _=>?_ | refine jC F F F ?_ | (refine aM F F F (cx_lf0 _) F ?_;rintro _ G hle ⟨z1,b1,rfl⟩;skip)) | refine ae F F ?_)
  all_goals refine Nx.base hok hB ?_
  all_goals refine jY (vs:=[_,_]) ?_
  all_goals rfl
 | true =>
  have cx_lf1:=fun G=>uX (G:=G) hs hk hr hl h hx
  refine jB (Post:=fun v G' L'=>G' = G ∧ L' = [] ∧ _) [(0,_),(1,_),(2,_),(3,_),(4,_)] Tryz.func23 Tryz.ntmps23 fun B hok hB hW=>?_
  repeat' (first | refine jR ?_ | (refine jo ?_;first | refine jL fun _=>?_ | refine jC F F F ?_ | refine aK F ?_ | (refine aM F F F (cx_lf1 _) F ?_;rintro _ G hle ⟨u1,c1,b1,rfl,hrv,huo,hut⟩;skip)) | refine af F F ?_)
  have cx_pr:=kq (G:=G) _ (Nat.le_refl _) hut hrv
  rw [huo] at cx_pr
  repeat' (first | refine jR ?_ | (refine jo ?_;refine ad F F F cx_pr F ?_))
  all_goals refine Nx.base hok hB ?_
  all_goals refine jY (vs:=[_,_]) ?_
  all_goals rfl
abbrev dm : TypeId:=93
theorem v8 {v : Value} {l : abu} (h : bh G v 1 l.length (bB l)) : b6 abt 26 [v] G [] (fun v L'=>∃ b code l',v = Pt b 0 ∧ L' = [en b code 0 dm] ∧ bh G code 1 l'.length (bB l') ∧ l'.length ≤ 2000):=by
 obtain ⟨h1,⟨rfl,h2⟩ | ⟨c,o,cap,rfl,h2,h3⟩⟩:=id h
 ·refine jH [(0,_)] Tryz.func26 Tryz.ntmps26 fun B hB hW=>?_
  repeat' (first | refine jR ?_ | (refine jo ?_;first | refine jV (aq F) ?_ | refine jV (am F F) ?_ | refine jO fun _=>?_) | refine af F F ?_)
  refine aN (vs:=[_]) F ⟨F,trivial⟩ F (List.Sublist.refl _) ⟨F,_,_,[],F,F,⟨by simp [bB],.inl ⟨F,F⟩⟩,by simp⟩
 ·refine jH [(0,_)] Tryz.func26 Tryz.ntmps26 fun B hB hW=>?_
  repeat' (first | refine jR ?_ | (refine jo ?_;first | refine jV (aq F) ?_ | refine jV (qE F F oM) ?_ | refine jV (am F F) ?_ | refine jO fun _=>?_) | refine cJ F (fun _=>?_) (fun _=>?_))
  ·refine aN (vs:=[_]) F ⟨F,trivial⟩ F (List.Sublist.refl _) ⟨F,_,_,l.take 2000,F,F,?_,by simp;omega⟩
   have e : (l.take 2000).length = 2000:=by simp;omega
   rw [e]
   refine ⟨by simp [bB];omega,.inr ⟨c,o,cap,rfl,oM,?_⟩⟩
   have:=h3.take 2000
   simpa [bB] using this
  ·exact aN (vs:=[_]) F ⟨F,trivial⟩ F (List.Sublist.refl _) ⟨F,_,_,l,F,F,h,oM⟩
theorem cQ {b : Nat} {code : Value} {p n : Int} {l : abu} (hp : 0 ≤ p ∧ p ≤ 1000000000000 ∧ n ≤ 1000000000000) (hs : bh G code 1 l.length (bB l)) :
  b6 abt 28 [Pt b 0,I n] G [en b code p dm] (fun v L'=>∃ k,v = I k ∧ L' = [en b code (p + 1) dm] ∧ 0 ≤ k ∧ (k < n ∨ k = 0)):=by
 obtain ⟨h1,⟨rfl,h2⟩ | ⟨c,o,cap,rfl,h2,h3⟩⟩:=id hs
 ·refine jH [(0,_),(1,_)] Tryz.func28 Tryz.ntmps28 fun B hB hW=>?_
  repeat' (first | (refine run (t:=tb) 400 F ?_ ?_;(focus (repeat' (first | exact trivial | apply And.intro | omega)))) | (refine jo ?_;first | refine ah F ?_ | refine jD F F F ?_ | refine jV (aq F) ?_ | refine aP F ?_ | refine aH F ?_) | refine dR F F (fun _=>?_) (fun _=>?_) | refine ae F F ?_)
  all_goals exact aN (vs:=[_]) F ⟨F,trivial⟩ F (List.Sublist.refl _) ⟨F,_,F,F,oM,oM⟩
 ·have b1:=lf l (p + 1 - 1).toNat
  have b2:=lf l ((p + 1 - 1) % (l.length : Int)).toNat
  have b3:=lf l (((p + 1 - 1) * 7 + 3) % (l.length : Int)).toNat
  have e1:=fun h=>Int.emod_nonneg (p + 1 - 1) (b:=(l.length : Int)) h
  have e2:=fun h=>Int.emod_lt_of_pos (p + 1 - 1) (b:=(l.length : Int)) h
  have e3:=fun h=>Int.emod_nonneg ((p + 1 - 1) * 7 + 3) (b:=(l.length : Int)) h
  have e4:=fun h=>Int.emod_lt_of_pos ((p + 1 - 1) * 7 + 3) (b:=(l.length : Int)) h
  have e5:=fun h=>Int.ediv_nonneg (a:=p + 1 - 1) (b:=(l.length : Int)) h oM
  have e6:=fun h=>Int.ediv_le_self (a:=p + 1 - 1) (l.length : Int) h
  refine jH [(0,_),(1,_)] Tryz.func28 Tryz.ntmps28 fun B hB hW=>?_
  repeat' (first | (refine run (t:=tb) 400 F ?_ ?_;(focus (repeat' (first | exact trivial | apply And.intro | omega)))) | (refine jo ?_;first | refine ah F ?_ | (refine jV (tv F aS ?_) ?_;focus omega) | refine jD F F F ?_ | refine jV (aq F) ?_ | refine aP F ?_ | refine aH F ?_ | refine jV (aZ F F oM) ?_ | refine jV (yC F F oM) ?_) | refine dR F F (fun _=>?_) (fun _=>?_) | refine ae F F ?_ | refine cJ F (fun _=>?_) (fun _=>?_) | (refine ak (ar (id:=7) _ (fun _ h=>h) aj ?_);refine jU 24 [0,1,2,4,5,6,7,15,16,17,19,20,21,22,23,24,33,34,36,37,38,39] (aa 46 1056595214583) ?_ ?_;(focus (repeat' (first | exact trivial | apply And.intro | omega)));(refine jG (aa 46 1056595214591) 3 F (an F F F) ?_);(refine jG (aa 46 1056595214847) 8 F (an F F F) ?_);(refine jG (aa 46 1056595215359) 9 F (aq F) ?_);refine jU 20 [10] (aa 46 1056595216383) ?_ ?_;(focus (repeat' (first | exact trivial | apply And.intro | omega)));(refine jG (aa 46 1056595218431) 11 F (aZ F F oM) ?_);((refine jG (aa 46 1056595222527) 12 F (tv F aS ?_) ?_;focus omega));refine jU 16 [13,14] (aa 46 1056595247103) ?_ ?_;(focus (repeat' (first | exact trivial | apply And.intro | omega)));(refine jG (aa 46 1056595509247) 18 F (an F F F) ?_);(refine jG (aa 46 1056629063679) 25 F (an F F F) ?_);(refine jG (aa 46 1056696172543) 26 F (aq F) ?_);refine jU 12 [27] (aa 46 1056830390271) ?_ ?_;(focus (repeat' (first | exact trivial | apply And.intro | omega)));(refine jG (aa 46 1057098825727) 28 F (aZ F F oM) ?_);((refine jG (aa 46 1057635696639) 29 F (tv F aS ?_) ?_;focus omega));refine jU 6 [30,31,32,35] (aa 46 1099511627775) ?_ ?_;(focus (repeat' (first | exact trivial | apply And.intro | omega)));(refine jG (aa 46 2199023255551) 40 F (an F F F) ?_);(refine jG (aa 46 4398046511103) 41 F (aq F) ?_);refine jU 0 [42,43,44,45] (aa 46 70368744177663) ?_ ?_;(focus (repeat' (first | exact trivial | apply And.intro | omega)));refine jQ ?_))
  all_goals (first | exact aN (vs:=[_]) F ⟨F,trivial⟩ F (List.Sublist.refl _) ⟨F,_,F,F,oM,oM⟩ | exact aN (vs:=[_]) F ⟨F,trivial⟩ F (List.Sublist.refl _) ⟨F,_,F,F,Int.emod_nonneg _ oM,.inl (Int.emod_lt_of_pos _ oM)⟩ | exact wT _ _)
theorem gh {r : Nat} {code : Value} {p : Int} {l : abu} (hp : 0 ≤ p ∧ p ≤ 900000000000) (hs : bh G code 1 l.length (bB l)) :
  b6 abt 83 [Pt r 0] G [en r code p dm] (fun v L'=>∃ x q,v = S x ∧ x.length ≤ 400 ∧ L' = [en r code q dm] ∧ p ≤ q ∧ q ≤ p + 10):=by
 refine jH [(0,_)] Tryz.func83 Tryz.ntmps83 fun B hB hW=>?_
 repeat' (first | refine jR ?_ | (refine jo ?_;first | refine jF fun _=>?_ | refine jV (aZ F F oM) ?_ | (refine gw 64 F F F ?_ F (fun xs hxs=>?_);(focus ((simp only [List.length_append,List.length_cons,List.length_nil,List.length_take];omega);done))) | (refine ai F F F (cQ ?_ (by (repeat (assumption));done)) rfl ?_;(focus omega);rintro _ _ ⟨k,rfl,rfl,hk0,hk1⟩;dsimp only [zA,fA])))
 refine aU (ι:=abu × Int × Int) (fun j=>(0 ≤ j.2.1 ∧ j.2.1 ≤ 3) ∧ ((j.1.length : Nat) : Int) ≤ 64 * (4 - j.2.1) ∧ p ≤ j.2.2 ∧ j.2.2 ≤ p + 5 - j.2.1) (fun j=>[(0,Pt r 0),(3,S j.1),(4,I j.2.1)]) (fun _=>G) (fun j=>[en r code j.2.2 dm]) (fun j=>j.2.1.toNat) (xs,k,p + 1 + 1) ?_ tU F sB (fun j Hj=>?_)
 ·dsimp only;omega
 obtain ⟨s,kk,q⟩:=j
 dsimp only at Hj ⊢
 obtain ⟨hk,hsl,hq0,hq1⟩:=Hj
 by_cases h1 : 1 < kk
 ·repeat' (first | refine jM ?_ | (refine jo ?_;first | refine jF fun _=>?_ | refine jV (aZ F F oM) ?_ | (refine gw 64 F F F ?_ F (fun xs hxs=>?_);(focus ((simp only [List.length_append,List.length_cons,List.length_nil,List.length_take];omega);done))) | (refine ai F F F (cQ ?_ (by (repeat (assumption));done)) rfl ?_;(focus omega);rintro _ _ ⟨k,rfl,rfl,hk0,hk1⟩;dsimp only [zA,fA])) | refine ae F (aC ‹_›) ?_)
  exact aT (xs ++ s,kk - 1,q + 1) (by dsimp only;rw [List.length_append];omega) (by dsimp only;omega) tU rfl sB
 ·repeat' (first | refine jR ?_ | (refine jo ?_;first | refine jF fun _=>?_ | refine jV (aZ F F oM) ?_ | (refine gw 64 F F F ?_ F (fun xs hxs=>?_);(focus ((simp only [List.length_append,List.length_cons,List.length_nil,List.length_take];omega);done))) | (refine ai F F F (cQ ?_ (by (repeat (assumption));done)) rfl ?_;(focus omega);rintro _ _ ⟨k,rfl,rfl,hk0,hk1⟩;dsimp only [zA,fA])) | refine af F (aF ‹_›) ?_ | refine cJ F (fun _=>?_) (fun _=>?_))
  all_goals exact aN (vs:=[_]) F ⟨F,trivial⟩ F sB ⟨F,_,_,F,oM,F,oM,oM⟩
theorem tN {r : Nat} {code : Value} {p tag : Int} {l so nm : abu} (hp : 0 ≤ p ∧ p ≤ 800000000000) (hs : bh G code 1 l.length (bB l)) (ht : 0 ≤ tag ∧ tag ≤ 1000000) (hnm : nm.length ≤ 100) :
  b6 abt 140 [Pt r 0,S so,I tag,S nm] G [en r code p dm] (fun v L'=>∃ x q,v = S x ∧ x.length ≤ 1000 ∧ L' = [en r code q dm] ∧ p ≤ q ∧ q ≤ p + 20):=by
 have hdl:=gL (n:=tag) oM
 refine jH [(0,_),(1,_),(2,_),(3,_)] Tryz.func140 Tryz.ntmps140 fun B hB hW=>?_
 repeat' (first | refine jX ?_ | (refine jo ?_;first | refine aP F ?_ | refine aH F ?_ | refine jF fun _=>?_ | refine jV (aZ F F oM) ?_ | (refine gw 64 F F F ?_ F (fun xs hxs=>?_);(focus ((simp only [List.length_append,List.length_cons,List.length_nil,List.length_take];omega);done))) | refine ad F F F (gi oM) F ?_ | (refine ai F F F (gh ?_ (by (repeat (assumption));done)) rfl ?_;(focus omega);rintro _ _ ⟨kd,q1,rfl,hkd,rfl,hq1,hq2⟩;dsimp only [zA,fA]) | (refine ai F F F (cQ ?_ (by (repeat (assumption));done)) rfl ?_;(focus omega);rintro _ _ ⟨k,rfl,rfl,hk0,hk1⟩;dsimp only [zA,fA])) | refine dR F F (fun _=>?_) (fun _=>?_) | refine af F F ?_ | refine cJ F (fun _=>?_) (fun _=>?_))
 all_goals exact aN (vs:=[_]) F ⟨F,trivial⟩ F sB ⟨F,_,_,F,by simp only [List.length_append,List.length_cons,List.length_nil];omega,rfl,oM,oM⟩
theorem uZ {r : Nat} {code : Value} {p : Int} {l so nm : abu} (hp : 0 ≤ p ∧ p ≤ 700000000000) (hs : bh G code 1 l.length (bB l)) (hso : so.length ≤ 64) (hnm : nm.length ≤ 64) :
  b6 abt 98 [Pt r 0,S so,S nm] G [en r code p dm] (fun v L'=>∃ x q,v = S x ∧ x.length ≤ 6000 ∧ 1 ≤ x.length ∧ L' = [en r code q dm] ∧ p ≤ q ∧ q ≤ p + 200):=by
 refine jH [(0,_),(1,_),(2,_)] Tryz.func98 Tryz.ntmps98 fun B hB hW=>?_
 repeat' (first | refine jX ?_ | (refine jo ?_;first | refine aP F ?_ | refine aH F ?_ | (refine ai F F F (cQ ?_ (by (repeat (assumption));done)) rfl ?_;(focus omega);rintro _ _ ⟨k,rfl,rfl,hk0,hk1⟩;dsimp only [zA,fA])) | refine dR F F (fun _=>?_) (fun _=>?_) | refine af F F ?_ | refine cJ F (fun _=>?_) (fun _=>?_))
 all_goals
  have cx_pk2 : ∀ {p : Int},0 ≤ p ∧ p ≤ 1000000000000 → b6 abt 28 [Pt r 0,I 2] G [en r code p dm] (fun v L'=>L' = [en r code (p + 1) dm] ∧ (v = I 0 ∨ v = I 1)):=fun {p} hp=>(cQ (b:=r) (p:=p) (n:=2) ⟨hp.1,hp.2,by decide⟩ hs).mono fun v G' L' ⟨h1,k,h2,h3,h4,h5⟩=>⟨h1,h3,by subst h2;rcases (show k = 0 ∨ k = 1 by omega) with rfl | rfl;exact .inl F;exact .inr F⟩
  refine aU (ι:=abu × Int × Int × Int × Int) (fun j=>(0 ≤ j.2.2.1 ∧ j.2.2.1 ≤ j.2.2.2.1 ∧ j.2.2.2.1 ≤ 4) ∧ (0 ≤ j.2.1 ∧ j.2.1 ≤ 10 * j.2.2.1) ∧ (1 ≤ j.1.length ∧ ((j.1.length : Nat) : Int) ≤ 200 + 1001 * j.2.2.1) ∧ p ≤ j.2.2.2.2 ∧ j.2.2.2.2 ≤ p + 4 + 30 * j.2.2.1) (fun j=>[(0,Pt r 0),(1,S so),(7,S j.1),(8,I j.2.1),(9,I j.2.2.2.1),(10,I j.2.2.1)]) (fun _=>G) (fun j=>[en r code j.2.2.2.2 dm]) (fun j=>(j.2.2.2.1 - j.2.2.1).toNat) (so ++ nm ++ [61],0,0,_,_) ?_ tU F a6 (fun j Hj=>?_)
  ·dsimp only;simp only [List.length_append,List.length_cons,List.length_nil];omega
  obtain ⟨s,tag,kk,n,q⟩:=j
  dsimp only at Hj ⊢
  obtain ⟨hk,htg,hsl,hq0,hq1⟩:=Hj
  by_cases h1 : kk < n
  ·repeat' (first | refine jX ?_ | (refine jo ?_;first | refine jF fun _=>?_ | refine jV (dJ F F (by (repeat (first | exact BL.nil | apply BL.cons));done)) ?_ | (refine ai F F F (cx_pk2 oM) F ?_;rintro _ _ ⟨rfl,rfl | rfl⟩ <;> dsimp only [zA,fA]) | (refine ai F F F (cQ ?_ (by (repeat (assumption));done)) rfl ?_;(focus omega);rintro _ _ ⟨k,rfl,rfl,hk0,hk1⟩;dsimp only [zA,fA]) | (refine ai F F F (tN ?_ (by (repeat (assumption));done) ?_ ?_) rfl ?_;(focus omega);(focus omega);(focus ((simp;done);done));rintro _ _ ⟨fd,q1,rfl,hfd,rfl,hq1,hq2⟩;dsimp only [zA,fA])) | refine ae F (aC ‹_›) ?_ | refine cJ F (fun _=>?_) (fun _=>?_))
   all_goals (refine aT (_,_,kk + 1,n,_) ?_ ?_ tU F sB)
   all_goals (first | (dsimp only;simp only [List.length_append,List.length_cons,List.length_nil];omega) | (dsimp only;omega))
  ·repeat' (first | refine jX ?_ | refine af F (aF ‹_›) ?_)
   exact aN (vs:=[_]) F ⟨F,trivial⟩ F a6 ⟨F,_,_,F,by simp only [List.length_append,List.length_cons,List.length_nil];omega,by simp only [List.length_append,List.length_cons,List.length_nil];omega,rfl,oM,oM⟩
theorem mN {r : Nat} {code : Value} {p : Int} {l : abu} (hp : 0 ≤ p ∧ p ≤ 600000000000) (hs : bh G code 1 l.length (bB l)) :
  b6 abt 59 [Pt r 0] G [en r code p dm] (fun v L'=>∃ x q,v = S x ∧ x.length ≤ 20000 ∧ L' = [en r code q dm] ∧ p ≤ q ∧ q ≤ p + 700):=by
 refine jH [(0,_)] Tryz.func59 Tryz.ntmps59 fun B hB hW=>?_
 repeat' (first | refine jX ?_ | (refine jo ?_;first | refine jF fun _=>?_ | refine jV (aZ F F oM) ?_ | (refine gw 64 F F F ?_ F (fun xs hxs=>?_);(focus ((simp only [List.length_append,List.length_cons,List.length_nil,List.length_take];omega);done))) | refine aP F ?_ | refine aH F ?_ | (refine ai F F F (uZ ?_ (by (repeat (assumption));done) ?_ ?_) rfl ?_;(focus omega);(focus ((first | assumption | (simp;done));done));(focus ((simp;done);done));rintro _ _ ⟨ty,q1,rfl,hty,hty1,rfl,hq1,hq2⟩;dsimp only [zA,fA]) | (refine ai F F F (cQ ?_ (by (repeat (assumption));done)) rfl ?_;(focus ((first | omega | (simp;omega));done));rintro _ _ ⟨k,rfl,rfl,hk0,hk1⟩;dsimp only [zA,fA]) | (refine ad F F F (mO ?_) F ?_;(focus ((simp;omega);done)))) | refine kN F F (fun _=>?_) (fun _=>?_) | refine af F F ?_ | refine cJ F (fun _=>?_) (fun _=>?_))
 all_goals (first | exact aN (vs:=[_]) F ⟨F,trivial⟩ F sB ⟨F,_,_,F,by (simp only [List.length_append,List.length_cons,List.length_nil,List.length_take,List.length_drop];omega),rfl,oM,oM⟩ | skip)
 all_goals simp only [List.length_append,List.length_cons,List.length_nil] at hk1
 all_goals (refine ak (ar (id:=6) [] (fun _ h=>absurd h (by simp)) aj ?_);refine jW 7 [0,1,2,4,9,10,11,12] (aa 15 7703) ?_;refine cd [3,5] kR dC ⟨?_,?_,trivial⟩;(focus (refine aX F F ?_;(refine jF fun _=>?_);refine jK (aa 15 7711) ?_;refine jA 5 F ?_;((refine ai F F F (cQ ?_ (by (repeat (assumption));done)) rfl ?_;(focus omega);rintro _ _ ⟨k,rfl,rfl,hk0,hk1⟩;dsimp only [zA,fA]));refine jK (aa 15 7743) ?_;((refine jG (aa 15 7807) 6 F (aZ F F ?_) ?_;focus omega));refine jA 7 F ?_;((refine gw 64 F F F ?_ F (fun xs hxs=>?_);(focus ((simp only [List.length_append,List.length_cons,List.length_nil,List.length_take];omega);done))));refine jK (aa 15 7935) ?_;refine jW 0 [8,13,14] (aa 15 32767) ?_;refine jQ ?_));rotate_left 1;(focus (refine aX F F ?_;((refine ai F F F (cQ ?_ (by (repeat (assumption));done)) rfl ?_;(focus omega);rintro _ _ ⟨k,rfl,rfl,hk0,hk1⟩;dsimp only [zA,fA]));refine jK (aa 15 7735) ?_;refine jA 3 F ?_;(refine jF fun _=>?_);refine jK (aa 15 7743) ?_;((refine jG (aa 15 7807) 6 F (aZ F F ?_) ?_;focus omega));refine jA 7 F ?_;((refine gw 64 F F F ?_ F (fun xs hxs=>?_);(focus ((simp only [List.length_append,List.length_cons,List.length_nil,List.length_take];omega);done))));refine jK (aa 15 7935) ?_;refine jW 0 [8,13,14] (aa 15 32767) ?_;refine jQ ?_));rotate_left 1)
 all_goals repeat' (refine jR ?_)
 all_goals exact aN (vs:=[_]) F ⟨F,trivial⟩ F sB ⟨F,_,_,F,by (simp only [List.length_append,List.length_cons,List.length_nil,List.length_take,List.length_drop];omega),rfl,oM,oM⟩
theorem gg {r : Nat} {code : Value} {p : Int} {l s : abu} (hp : 0 ≤ p ∧ p ≤ 600000000000) (hs : bh G code 1 l.length (bB l)) (hsl : s.length ≤ 10000000) :
  b6 abt 60 [Pt r 0,S s] G [en r code p dm] (fun v L'=>∃ x q,v = S x ∧ x.length ≤ 400 ∧ L' = [en r code q dm] ∧ p ≤ q ∧ q ≤ p + 20):=by
 have cx_lkg : ∀ {k : abu} (G : Gh),k.length ≤ 1000 → ci abt 62 [S s,S k] G (fun v _=>∃ u b,v = Tu [u,Bo b]):=fun {k} G h=>(iS (G:=G) (s:=s) (k:=k) oM oM).mono fun v G' L' ⟨h1,h2,u,vs,h3,_⟩=>⟨h1,h2,u,_,h3⟩
 refine jB (Post:=fun v G' L'=>G' = G ∧ _) [(0,_),(1,_)] Tryz.func60 Tryz.ntmps60 fun B hok hB hW=>?_
 repeat' (first | refine jR ?_ | (refine jo ?_;first | refine jF fun _=>?_ | refine jV (aZ F F oM) ?_ | (refine gw 64 F F F ?_ F (fun xs hxs=>?_);(focus ((simp only [List.length_append,List.length_cons,List.length_nil,List.length_take];omega);done))) | (refine ai F F F (cQ ?_ (by (repeat (assumption));done)) rfl ?_;(focus omega);rintro _ _ ⟨k,rfl,rfl,hk0,hk1⟩;dsimp only [zA,fA]) | (refine ai F F F (gh ?_ (by (repeat (assumption));done)) rfl ?_;(focus omega);rintro _ _ ⟨kd,q1,rfl,hkd,rfl,hq1,hq2⟩;dsimp only [zA,fA]) | (refine aM F F F ((cx_lkg _) oM) F ?_;rintro _ G hle ⟨u1,b1,rfl⟩;skip)) | refine cJ F (fun _=>?_) (fun _=>?_) | refine qz F (fun _=>?_) (fun _=>?_))
 all_goals refine Nx.base hok hB ?_
 all_goals exact aN (vs:=[_]) F ⟨F,trivial⟩ F sB ⟨F,_,_,F,by (first | omega | (simp only [List.length_append,List.length_cons,List.length_nil,List.length_take,List.length_drop];omega)),rfl,oM,oM⟩
theorem v7 {v : Value} {xs : List abu} (hs : bh G v 1 xs.length (ao cr xs)) (hl : cD xs + xs.length ≤ 1000000) : aI abt 117 [v] G (fun r=>∃ x,r = S x ∧ x.length ≤ cD xs + xs.length):=by
 obtain ⟨a,cap,rfl⟩:=hs.sl
 refine jE [(0,_)] Tryz.func117 Tryz.ntmps117 fun B hB=>?_
 repeat' (refine jR ?_)
 refine aU (ι:=Nat × abu) (fun q=>q.1 ≤ xs.length ∧ q.2.length ≤ cD (xs.take q.1) + q.1) (fun q=>[(0,.slice a xs.length cap),(3,S q.2),(4,I (q.1 : Nat))]) (fun _=>G) (fun q=>[]) (fun q=>xs.length - q.1) (0,[]) ?_ tU F a6 (fun q Hq=>?_)
 ·exact ⟨Nat.zero_le _,by simp⟩
 obtain ⟨i,t⟩:=q
 dsimp only at Hq ⊢
 obtain ⟨hi0,htl⟩:=Hq
 by_cases hi : i < xs.length
 ·obtain ⟨b,o,c,e,hseg⟩:=hs.expl oM
  simp only [Value.slice.injEq] at e
  obtain ⟨rfl,-,rfl⟩:=e
  have hlt:=dT xs (i + 1)
  have hlt0:=dT xs i
  have htk : cD (xs.take (i + 1)) = cD (xs.take i) + (ac xs i).length:=by
   rw [List.take_succ_eq_append_getElem hi,nS,ck hi]
  repeat' (first | refine jX ?_ | (refine jo ?_;first | refine jV (aq F) ?_ | refine jV (al F F oM) ?_ | (refine jV (gt F F aS ?_) ?_;focus omega)) | refine ae F (aC oM) ?_ | refine cJ F (fun _=>?_) (fun _=>?_))
  ·refine Nx.re (d:=4) (v':=I (i + 1 : Nat)) F (congrArg (Value.int .i64) oM) ?_
   exact aT (i + 1,t ++ [44] ++ ac xs i) ⟨by dsimp only;omega,by dsimp only;rw [htk];simp only [List.length_append,List.length_cons,List.length_nil];omega⟩ (by dsimp only;omega) tU rfl a6
  ·refine Nx.re (d:=4) (v':=I (i + 1 : Nat)) F (congrArg (Value.int .i64) oM) ?_
   exact aT (i + 1,t ++ ac xs i) ⟨by dsimp only;omega,by dsimp only;rw [htk];simp only [List.length_append,List.length_cons,List.length_nil];omega⟩ (by dsimp only;omega) tU rfl a6
 ·have hlt0:=dT xs i
  repeat' (first | refine jR ?_ | (refine jo ?_;refine jV (aq F) ?_) | refine af F (aF oM) ?_)
  all_goals refine jY (vs:=[_]) ?_
  all_goals exact ⟨t,F,oM⟩
theorem eD {b : Bool} {p q : abu} : aI abt 82 [Bo b,S p,S q] G (· = S (if b = true then p else q)):=by
 cases b
 all_goals
  refine jE [(0,_),(1,_),(2,_)] Tryz.func82 Tryz.ntmps82 fun B hB=>?_
  repeat' (first | refine jR ?_ | refine ae F F ?_ | refine af F F ?_)
 all_goals refine jY (vs:=[_]) ?_
 all_goals rfl
abbrev zO : TypeId:=9
abbrev yd : TypeId:=110
theorem qt : ∀ {xs : List abu} {n : Nat},(∀ x ∈ xs,x.length ≤ n) → cD xs ≤ xs.length * n
 | [],_,_=>by simp [cD]
 | x :: r,n,h=>by
  have h1:=h x (by simp)
  have h2:=qt (xs:=r) (n:=n) fun y hy=>h y (by simp [hy])
  simp only [cD,List.map_cons,List.sum_cons,List.length_cons,Nat.succ_mul] at h2 ⊢
  omega
def li (f : Fld) : Prop:=(0 ≤ f.tag ∧ f.tag ≤ 1000) ∧ f.name.length ≤ 64 ∧ f.kind.length ≤ 400 ∧ f.stand.length ≤ 400
theorem v4 {so : UInt8} {nm : abu} {a : Option Addr} {c : Nat} {fs : List Fld} (hs : bh G (.slice a fs.length c) 4 fs.length (ao cF fs)) (hf : ∀ f ∈ fs,li f) (hl : fs.length ≤ 30) (hn : nm.length ≤ 100) :
  aI abt 84 [Ag [U8 (so.toNat : Nat),S nm,.slice a fs.length c]] G (fun r=>∃ x,r = S x ∧ x.length ≤ 40000):=by
 refine jB (Post:=fun v G' L'=>G' = G ∧ L' = [] ∧ _) [(0,_)] Tryz.func84 Tryz.ntmps84 fun B hok hB hW=>?_
 repeat' (first | refine jR ?_ | (refine jo ?_;first | refine jO fun _=>?_ | refine jF fun _=>?_))
 rename_i x1 y
 refine Nx.blkAcc (m:=0) (sz:=1) .here F ?_
 refine aU (ι:=List abu × Option Addr × Nat × Nat) (fun q=>(q.2.2.2 ≤ fs.length ∧ q.1.length = q.2.2.2) ∧ ∀ x ∈ q.1,x.length ≤ 1000) (fun q=>[(1,Pt x1 0),(3,.slice q.2.1 q.1.length q.2.2.1),(4,I (q.2.2.2 : Nat))]) (fun _=>G) (fun q=>[.acc (.slice q.2.1 q.1.length q.2.2.1) zO 1 q.1.length (ao cr q.1),.blk x1 (.cells (List.toArray [U8 (so.toNat : Nat),S nm,.slice a fs.length c]) yd (0,0))]) (fun q=>fs.length - q.2.2.2) ([],some ⟨y,0,none⟩,0,0) ?_ tU F a6 (fun q Hq=>?_)
 ·exact ⟨⟨Nat.zero_le _,F⟩,fun x hx=>by cases hx⟩
 obtain ⟨xs,p,cp,i⟩:=q
 dsimp only at Hq ⊢
 obtain ⟨⟨hi0,hq1⟩,hq2⟩:=Hq
 by_cases hi : i < fs.length
 ·obtain ⟨b,o,c',e,hseg⟩:=hs.expl oM
  simp only [Value.slice.injEq] at e
  obtain ⟨rfl,-,rfl⟩:=e
  obtain ⟨⟨ht0,ht1⟩,hb1,hb2,hb3⟩:=hf _ (a7 hi)
  have hd6:=n5 (m:=(ac fs i).tag) oM
  by_cases h69 : so.toNat = 69
  ·have h69' : (so.toNat : Int) = 69:=oM
   by_cases hst : (ac fs i).stand = []
   ·skip
    repeat' (first | refine jM ?_ | (refine jo ?_;first | refine jF fun _=>?_ | refine ah F ?_ | (refine jV (bz F F aS ?_) ?_;focus omega) | refine jV (aq F) ?_ | refine jV (al F F oM) ?_ | refine jL fun _=>?_ | refine jC F F F ?_ | refine bj F F F F F F F F F oM fun _ _=>?_) | refine ae F (aC oM) ?_ | (refine af F ?_ ?_;(focus ((first | (refine decide_eq_false ?_;(omega)) | (simp [*];done));done))) | (refine ak (ar (id:=6) _ (fun _ h=>h) aj ?_);refine jT 6 [0,4] (aa 8 17) ?_;(refine jG (aa 8 19) 1 F (an F F F) ?_);(refine jG (aa 8 51) 5 F (an F F F) ?_);refine jA 2 F ?_;(refine ad F F F (gi oM) F ?_);refine jS (aa 8 55) ?_;refine jW 0 [3,6,7] (aa 8 255) ?_;refine jQ ?_))
    rename_i y1 yc
    rw [show ao cr xs ++ [S (a8 (ac fs i).tag ++ [58] ++ (ac fs i).name)] = ao cr (xs ++ [a8 (ac fs i).tag ++ [58] ++ (ac fs i).name]) from (cn cr xs _).symm]
    refine Nx.re (d:=4) (v':=I (i + 1 : Nat)) F (congrArg (Value.int .i64) oM) ?_
    exact aT (xs ++ [a8 (ac fs i).tag ++ [58] ++ (ac fs i).name],some ⟨y1,0,none⟩,yc,i + 1) ⟨⟨by dsimp only;omega,by dsimp only;simp [hq1]⟩,fun x hx=>by
     rcases List.mem_append.1 hx with hx | hx
     ·exact hq2 x hx
     ·simp only [List.mem_singleton] at hx;subst hx;simp only [List.length_append,List.length_cons,List.length_nil];omega⟩ (by dsimp only;omega) (by dsimp only;simp only [List.length_append,List.length_cons,List.length_nil,Nat.zero_add];repeat (first | exact trivial | refine ⟨F,?_⟩)) F (by dsimp only;simp only [List.length_append,List.length_cons,List.length_nil,Nat.zero_add];repeat (first | exact List.Sublist.refl _ | apply List.Sublist.cons_cons | apply List.Sublist.cons))
   ·skip
    repeat' (first | refine jX ?_ | (refine jo ?_;first | refine jF fun _=>?_ | refine ah F ?_ | (refine jV (bz F F aS ?_) ?_;focus omega) | refine jV (aq F) ?_ | refine jV (al F F oM) ?_ | refine jL fun _=>?_ | refine jC F F F ?_ | refine bj F F F F F F F F F oM fun _ _=>?_) | (refine ae F (by refine decide_eq_true ?_;first | assumption | omega) ?_) | refine af F (aF oM) ?_ | (refine ak (ar (id:=6) _ (fun _ h=>h) aj ?_);refine jT 6 [0,4] (aa 8 17) ?_;(refine jG (aa 8 19) 1 F (an F F F) ?_);(refine jG (aa 8 51) 5 F (an F F F) ?_);refine jA 2 F ?_;(refine ad F F F (gi oM) F ?_);refine jS (aa 8 55) ?_;refine jW 0 [3,6,7] (aa 8 255) ?_;refine jQ ?_))
    rename_i y1 yc
    rw [show ao cr xs ++ [S (a8 (ac fs i).tag ++ [58] ++ (ac fs i).name ++ [61] ++ (ac fs i).stand)] = ao cr (xs ++ [a8 (ac fs i).tag ++ [58] ++ (ac fs i).name ++ [61] ++ (ac fs i).stand]) from (cn cr xs _).symm]
    refine Nx.re (d:=4) (v':=I (i + 1 : Nat)) F (congrArg (Value.int .i64) oM) ?_
    exact aT (xs ++ [a8 (ac fs i).tag ++ [58] ++ (ac fs i).name ++ [61] ++ (ac fs i).stand],some ⟨y1,0,none⟩,yc,i + 1) ⟨⟨by dsimp only;omega,by dsimp only;simp [hq1]⟩,fun x hx=>by
     rcases List.mem_append.1 hx with hx | hx
     ·exact hq2 x hx
     ·simp only [List.mem_singleton] at hx;subst hx;simp only [List.length_append,List.length_cons,List.length_nil];omega⟩ (by dsimp only;omega) (by dsimp only;simp only [List.length_append,List.length_cons,List.length_nil,Nat.zero_add];repeat (first | exact trivial | refine ⟨F,?_⟩)) F (by dsimp only;simp only [List.length_append,List.length_cons,List.length_nil,Nat.zero_add];repeat (first | exact List.Sublist.refl _ | apply List.Sublist.cons_cons | apply List.Sublist.cons))
  ·have h69' : ¬ (so.toNat : Int) = 69:=oM
   by_cases hst : (ac fs i).stand = []
   ·skip
    repeat' (first | refine jX ?_ | (refine jo ?_;first | refine jF fun _=>?_ | refine ah F ?_ | (refine jV (bz F F aS ?_) ?_;focus omega) | refine jV (aq F) ?_ | refine jV (al F F oM) ?_ | refine jL fun _=>?_ | refine jC F F F ?_ | refine bj F F F F F F F F F oM fun _ _=>?_) | (refine ae F (by refine decide_eq_true ?_;first | assumption | omega) ?_) | (refine af F ?_ ?_;(focus ((simp [*];done);done))) | (refine ak (ar (id:=6) _ (fun _ h=>h) aj ?_);refine jT 6 [0,4] (aa 8 17) ?_;(refine jG (aa 8 19) 1 F (an F F F) ?_);(refine jG (aa 8 51) 5 F (an F F F) ?_);refine jA 2 F ?_;(refine ad F F F (gi oM) F ?_);refine jS (aa 8 55) ?_;refine jW 0 [3,6,7] (aa 8 255) ?_;refine jQ ?_))
    rename_i y1 yc
    rw [show ao cr xs ++ [S (a8 (ac fs i).tag ++ [58] ++ (ac fs i).name ++ [58] ++ (ac fs i).kind)] = ao cr (xs ++ [a8 (ac fs i).tag ++ [58] ++ (ac fs i).name ++ [58] ++ (ac fs i).kind]) from (cn cr xs _).symm]
    refine Nx.re (d:=4) (v':=I (i + 1 : Nat)) F (congrArg (Value.int .i64) oM) ?_
    exact aT (xs ++ [a8 (ac fs i).tag ++ [58] ++ (ac fs i).name ++ [58] ++ (ac fs i).kind],some ⟨y1,0,none⟩,yc,i + 1) ⟨⟨by dsimp only;omega,by dsimp only;simp [hq1]⟩,fun x hx=>by
     rcases List.mem_append.1 hx with hx | hx
     ·exact hq2 x hx
     ·simp only [List.mem_singleton] at hx;subst hx;simp only [List.length_append,List.length_cons,List.length_nil];omega⟩ (by dsimp only;omega) (by dsimp only;simp only [List.length_append,List.length_cons,List.length_nil,Nat.zero_add];repeat (first | exact trivial | refine ⟨F,?_⟩)) F (by dsimp only;simp only [List.length_append,List.length_cons,List.length_nil,Nat.zero_add];repeat (first | exact List.Sublist.refl _ | apply List.Sublist.cons_cons | apply List.Sublist.cons))
   ·skip
    repeat' (first | refine jX ?_ | (refine jo ?_;first | refine jF fun _=>?_ | refine ah F ?_ | (refine jV (bz F F aS ?_) ?_;focus omega) | refine jV (aq F) ?_ | refine jV (al F F oM) ?_ | refine jL fun _=>?_ | refine jC F F F ?_ | refine bj F F F F F F F F F oM fun _ _=>?_) | (refine ae F (by refine decide_eq_true ?_;first | assumption | omega) ?_) | (refine ak (ar (id:=6) _ (fun _ h=>h) aj ?_);refine jT 6 [0,4] (aa 8 17) ?_;(refine jG (aa 8 19) 1 F (an F F F) ?_);(refine jG (aa 8 51) 5 F (an F F F) ?_);refine jA 2 F ?_;(refine ad F F F (gi oM) F ?_);refine jS (aa 8 55) ?_;refine jW 0 [3,6,7] (aa 8 255) ?_;refine jQ ?_))
    rename_i y1 yc
    rw [show ao cr xs ++ [S (a8 (ac fs i).tag ++ [58] ++ (ac fs i).name ++ [58] ++ (ac fs i).kind ++ [61] ++ (ac fs i).stand)] = ao cr (xs ++ [a8 (ac fs i).tag ++ [58] ++ (ac fs i).name ++ [58] ++ (ac fs i).kind ++ [61] ++ (ac fs i).stand]) from (cn cr xs _).symm]
    refine Nx.re (d:=4) (v':=I (i + 1 : Nat)) F (congrArg (Value.int .i64) oM) ?_
    exact aT (xs ++ [a8 (ac fs i).tag ++ [58] ++ (ac fs i).name ++ [58] ++ (ac fs i).kind ++ [61] ++ (ac fs i).stand],some ⟨y1,0,none⟩,yc,i + 1) ⟨⟨by dsimp only;omega,by dsimp only;simp [hq1]⟩,fun x hx=>by
     rcases List.mem_append.1 hx with hx | hx
     ·exact hq2 x hx
     ·simp only [List.mem_singleton] at hx;subst hx;simp only [List.length_append,List.length_cons,List.length_nil];omega⟩ (by dsimp only;omega) (by dsimp only;simp only [List.length_append,List.length_cons,List.length_nil,Nat.zero_add];repeat (first | exact trivial | refine ⟨F,?_⟩)) F (by dsimp only;simp only [List.length_append,List.length_cons,List.length_nil,Nat.zero_add];repeat (first | exact List.Sublist.refl _ | apply List.Sublist.cons_cons | apply List.Sublist.cons))
 ·have hle:=qt hq2
  refine Nx.sealS (v:=.slice p xs.length cp) fun G2 hG2 hsl=>?_
  have cx_l7j:=v7 hsl oM
  clear hs hf
  repeat' (first | refine jR ?_ | (refine jo ?_;first | refine ah F ?_ | refine jV (aq F) ?_) | refine af F (aF oM) ?_)
  (refine ak (ar (id:=12) [.blk x1 (.cells (List.toArray [U8 (so.toNat : Nat),S nm,.slice a fs.length c]) yd (0,0))] (by intro y hy;simp only [List.mem_cons,List.not_mem_nil,or_false] at hy ⊢;simp [hy]) aj ?_);refine jT 10 [0,4,8] (aa 13 273) ?_;(refine jG (aa 13 275) 1 F (an F F F) ?_);(refine jG (aa 13 307) 5 F (an F F F) ?_);refine cd [2,9] kR dC ⟨?_,?_,trivial⟩;(focus (refine aX F F ?_;(refine jF fun _=>?_);refine jS (aa 13 311) ?_;refine cd [3,9] kR dC ⟨?_,?_,trivial⟩;(focus (refine aX F F ?_;((refine jV (dJ F F (by (repeat (first | exact BL.nil | apply BL.cons));done)) ?_));refine jS (aa 13 319) ?_;refine jW 4 [6,7] (aa 13 511) ?_;refine jA 9 F ?_;(refine dO F F F cx_l7j F ?_;rintro _ ⟨jx,rfl,hjx⟩);refine jS (aa 13 1023) ?_;refine jW 0 [10,11,12] (aa 13 8191) ?_;refine jQ ?_));rotate_left 1;(focus (refine aX F F ?_;(refine dO F F F cx_l7j F ?_;rintro _ ⟨jx,rfl,hjx⟩);refine jS (aa 13 823) ?_;refine jA 3 F ?_;((refine jV (dJ F F (by (repeat (first | exact BL.nil | apply BL.cons));done)) ?_));refine jS (aa 13 831) ?_;refine jW 0 [6,7,10,11,12] (aa 13 8191) ?_;refine jQ ?_));rotate_left 1));rotate_left 2;(focus (refine aX F F ?_;(refine dO F F F cx_l7j F ?_;rintro _ ⟨jx,rfl,hjx⟩);refine jS (aa 13 819) ?_;refine jA 2 F ?_;(refine jF fun _=>?_);refine jS (aa 13 823) ?_;refine jA 3 F ?_;((refine jV (dJ F F (by (repeat (first | exact BL.nil | apply BL.cons));done)) ?_));refine jS (aa 13 831) ?_;refine jW 0 [6,7,10,11,12] (aa 13 8191) ?_;refine jQ ?_));rotate_left 1)
  all_goals repeat' (refine jR ?_)
  all_goals refine Nx.base hok hB ?_
  all_goals refine jY (vs:=[_]) ?_
  all_goals exact ⟨_,F,by simp only [List.length_append,List.length_cons,List.length_nil];omega⟩
theorem oU {so : Nat} {nm : abu} {a : Option Addr} {c : Nat} {fs : List Fld} (hs : bh G (.slice a fs.length c) 4 fs.length (ao cF fs)) (hf : ∀ f ∈ fs,li f) (hl : fs.length ≤ 30) (hn : nm.length ≤ 100) (hso : so ≤ 255) :
  aI abt 84 [Ag [U8 so,S nm,.slice a fs.length c]] G (fun r=>∃ x,r = S x ∧ x.length ≤ 40000):=by
 have e : so = (UInt8.ofNat so).toNat:=by rw [UInt8.toNat_ofNat'];omega
 rw [e]
 exact v4 hs hf hl hn
def tX (u : Value) (vs : List cW) (k : abu) (deep cp : Int) (ct : Nat) : Prop:=∀ (G : Gh) (r : Nat) (code : Value) (p : Int) (l : abu),SchR G u vs → bh G code 1 l.length (bB l) → 0 ≤ p ∧ p + cp ≤ 600000000000 →
 cX abt 63 [Pt r 0,u,S k,I deep] G [en r code p dm] (fun v G' L'=>∃ w b q,v = Pt b 0 ∧ RepR G' (aQ vs) w k b ∧ w.tot ≤ ct ∧ 1 ≤ w.out.length ∧ L' = [en r code q dm] ∧ p ≤ q ∧ q ≤ p + cp)
theorem tX.le {u : Value} {vs : List cW} {k : abu} {deep cp cp' : Int} {ct ct' : Nat} (h : tX u vs k deep cp ct) (h1 : cp ≤ cp') (h2 : ct ≤ ct') : tX u vs k deep cp' ct':=fun G r code p l h3 h4 h5 =>
 (h G r code p l h3 h4 ⟨h5.1,oM⟩).mono fun _ _ _ ⟨h6,w,b,q,h7,h8,h9,h10,h11,h12,h13⟩=>⟨h6,w,b,q,h7,h8,oM,h10,h11,h12,oM⟩
variable {P : Program} {n : Nat} {D : List Deferred} {E : bd} {B : Base} {G : Gh} {Q : Exit → Act → World → Prop} {K : Act → World → Prop}
theorem jr {ops : Array Oper} {G0 : Gh} {L0 Lr : List Own} {y : Own} {fuel : Nat} {listed listed' : Array Bool} (hG : Gh.le G0 G) (hL : L0.Sublist Lr) (hl : (listed == listed') = true)
  (h : Nx n D E B G (y :: Lr) (xA P ops Q (bK B G (y :: L0)) fuel listed')) : Nx n D E B G (y :: Lr) (xK P ops Q (bK B G0 L0) fuel listed):=Nx.mk fun a w hs hw=>by
 have h1:=h.go a w hs hw
 unfold xA at h1
 unfold xK
 refine ⟨bK.of hw hG (fun _ h=>?_),hJ (S:=bK B G0 L0) (S':=bK B G (y :: L0)) (fun w' hw'=>?_) _ _ _ _ (by rw [eq_of_beq hl];exact h1)⟩
 ·exact List.mem_cons_of_mem _ (hL.subset h)
 ·obtain ⟨G',L',h1,h2,h3⟩:=hw'
  exact ⟨G',L',hG.trans h1,fun x hx=>h2 x (List.mem_cons_of_mem _ hx),h3⟩
end Go.E
