/- Contracts and plain laws that the statement rests on, part 6. Conditions: as each says. -/
import Derived.Test.YtlkjjgmfhafnaaaGreatDoorQ5
set_option linter.unusedVariables false
set_option linter.unusedSimpArgs false
namespace Go.E
set_option maxRecDepth 20000
set_option maxHeartbeats 2000000
open Go.Proofs
variable {G : Gh}
def c9 (s k w : act) : Option act:=match eZ s k w with
 | some u=>if u.bys.length ≤ 600 then some u.bys else none
 | none=>none
theorem iO {s k w b : act} (h : c9 s k w = some b) : b.length ≤ 600:=by
 unfold c9 at h
 split at h
 ·split at h
  ·simp only [Option.some.injEq] at h;subst h;assumption
  ·cases h
 ·cases h
theorem k6 {s k w : act} {u : V} (hg : eZ s k w = some u) : ∃ ts,aT s = some ts ∧ aJ ts k = true ∧ bZ ts k w = some u ∧ u.tot ≤ 40000 ∧ u.wf:=by
 obtain ⟨ts,hs,hki,hvo⟩ : ∃ ts,aT s = some ts ∧ aJ ts k = true ∧ bZ ts k w = some u:=by
  unfold eZ at hg
  cases hs : aT s with
  | none=>rw [hs] at hg;cases hg
  | some ts =>
   rw [hs] at hg
   dsimp only at hg
   by_cases hk : aJ ts k = true
   ·rw [if_pos hk] at hg;exact ⟨ts,F,hk,hg⟩
   ·rw [if_neg hk] at hg;cases hg
 refine ⟨ts,hs,hki,hvo,?_,(qG hvo).1⟩
 unfold bZ at hvo
 split at hvo
 ·split at hvo
  ·rename_i v hv
   obtain rfl:=Option.some.inj hvo
   have:=i6 _ _ _ _ hv
   dsimp only at this;omega
  ·cases hvo
 ·cases hvo
theorem ql {c : VC} {b : act} (cx_bys : av acs 100 [Ag (b7 c)] G (· = S b)) : av acs 57 [Ag (b7 c)] G (· = Tu [S (if b.length ≤ 600 then b else []),Bo (decide (b.length ≤ 600))]):=by
 simp only [b7,VC.sl] at *
 by_cases h6 : b.length ≤ 600
 ·rw [if_pos h6,decide_eq_true h6]
  refine jE [(0,_)] Tryz.func57 Tryz.ntmps57 fun B hB=>?_
  repeat' (first | refine jR ?_ | (refine jo ?_;first | refine jO fun _=>?_ | refine aV F ?_ | refine ab F F F cx_bys F ?_) | refine ad F (ay oM) ?_)
  all_goals refine jY (vs:=[_,_]) ?_
  all_goals rfl
 ·rw [if_neg h6,decide_eq_false h6]
  refine jE [(0,_)] Tryz.func57 Tryz.ntmps57 fun B hB=>?_
  repeat' (first | refine jR ?_ | (refine jo ?_;first | refine jO fun _=>?_ | refine aV F ?_ | refine ab F F F cx_bys F ?_) | refine ac F (ar oM) ?_)
  all_goals refine jY (vs:=[_,_]) ?_
  all_goals rfl
theorem ku {s k w : act} (h : s.length ≤ 1048576 ∧ k.length ≤ 1048576 ∧ w.length ≤ 1048576) : av acs 21 [S s,S k,S w] G (· = Tu [S ((c9 s k w).getD []),Bo (c9 s k w).isSome]):=by
 unfold c9
 cases hg : eZ s k w with
 | none =>
  have cx_gi0:=wV (G:=G) h hg
  refine jB (Post:=fun v G' L'=>G' = G ∧ L' = [] ∧ _) [(0,_),(1,_),(2,_)] Tryz.func21 Tryz.ntmps21 fun B hok hB hW=>?_
  repeat' (first | refine jR ?_ | (refine jo ?_;first | refine jL fun _=>?_ | refine jC F F F ?_ | (refine aM F F F cx_gi0 F ?_;rintro _ G hle ⟨p1,a1,b1,c1,rfl⟩;skip)) | refine ac F F ?_)
  all_goals refine Nx.base hok hB ?_
  all_goals refine jY (vs:=[_,_]) ?_
  all_goals rfl
 | some u =>
  obtain ⟨ts,hs,hki,hvo,hto,hwf⟩:=k6 hg
  have cx_gi1:=wU (G:=G) h hs hki hvo
  dsimp only
  have cy_bys : ∀ {G : Gh} {c : VC},V.rep G u c → av acs 100 [Ag (b7 c)] G (· = S u.bys):=fun h=>abM u.tot (Nat.le_refl _) oM hwf h
  generalize u.bys = ub at *
  by_cases h6 : ub.length ≤ 600
  ·rw [if_pos h6]
   refine jB (Post:=fun v G' L'=>G' = G ∧ L' = [] ∧ _) [(0,_),(1,_),(2,_)] Tryz.func21 Tryz.ntmps21 fun B hok hB hW=>?_
   repeat' (first | refine jR ?_ | (refine jo ?_;first | refine jL fun _=>?_ | refine jC F F F ?_ | refine aV F ?_ | (refine aM F F F cx_gi1 F ?_;rintro _ G hle ⟨bg,qg,cv,rfl,hTg,hRg,hrv⟩;skip)) | refine ad F F ?_)
   have cx_tb:=ql (G:=G) (cy_bys hrv)
   rw [if_pos h6,decide_eq_true h6] at cx_tb
   repeat' (first | refine jR ?_ | (refine jo ?_;refine ab F F F cx_tb F ?_))
   all_goals refine Nx.base hok hB ?_
   all_goals refine jY (vs:=[_,_]) ?_
   all_goals rfl
  ·rw [if_neg h6]
   refine jB (Post:=fun v G' L'=>G' = G ∧ L' = [] ∧ _) [(0,_),(1,_),(2,_)] Tryz.func21 Tryz.ntmps21 fun B hok hB hW=>?_
   repeat' (first | refine jR ?_ | (refine jo ?_;first | refine jL fun _=>?_ | refine jC F F F ?_ | refine aV F ?_ | (refine aM F F F cx_gi1 F ?_;rintro _ G hle ⟨bg,qg,cv,rfl,hTg,hRg,hrv⟩;skip)) | refine ad F F ?_)
   have cx_tb:=ql (G:=G) (cy_bys hrv)
   rw [if_neg h6,decide_eq_false h6] at cx_tb
   repeat' (first | refine jR ?_ | (refine jo ?_;refine ab F F F cx_tb F ?_))
   all_goals refine Nx.base hok hB ?_
   all_goals refine jY (vs:=[_,_]) ?_
   all_goals rfl
theorem sj {s k w : act} (h : s.length ≤ 1048576 ∧ k.length ≤ 1048576 ∧ w.length ≤ 1048576) (hg : eZ s k w = none) : av acs 43 [S s,S k,S w] G (· = Tu [S [],Bo false]):=by
 have cx_l40:=yQ (G:=G) h hg
 refine jB (Post:=fun v G' L'=>G' = G ∧ L' = [] ∧ _) [(0,_),(1,_),(2,_)] Tryz.func43 Tryz.ntmps43 fun B hok hB hW=>?_
 repeat' (first | refine jR ?_ | (refine jo ?_;first | refine aE F ?_ | (refine aM F F F cx_l40 F ?_;rintro _ G hle ⟨uu,q1,rfl⟩;skip)) | refine aw F F F ?_ | refine ac F F ?_)
 all_goals refine Nx.base hok hB ?_
 all_goals refine jY (vs:=[_,_]) ?_
 all_goals rfl
theorem si {s k w : act} {ub : act} (cx_l4 : bx acs 79 [S s,S k,S w] G (fun r G'=>∃ u b,r = Tu [u,Pt b 0,Bo true] ∧ av acs 48 [Pt b 0] G' (· = S ub))) : av acs 43 [S s,S k,S w] G (· = Tu [S (if ub.length ≤ 600 then ub else []),Bo (decide (ub.length ≤ 600))]):=by
 by_cases h6 : ub.length ≤ 600
 ·rw [if_pos h6,decide_eq_true h6]
  refine jB (Post:=fun v G' L'=>G' = G ∧ L' = [] ∧ _) [(0,_),(1,_),(2,_)] Tryz.func43 Tryz.ntmps43 fun B hok hB hW=>?_
  repeat' (first | refine jR ?_ | (refine jo ?_;first | refine aq F ?_ | (refine aM F F F cx_l4 F ?_;rintro _ G hle ⟨uu,q1,rfl,hyes⟩;skip) | refine ab F F F hyes F ?_) | refine al F F F ?_ | refine ad F (ay oM) ?_)
  all_goals refine Nx.base hok hB ?_
  all_goals refine jZ (vs:=[_,_]) F ⟨F,F,trivial⟩ F ⟨F,F,?_⟩
  all_goals rfl
 ·rw [if_neg h6,decide_eq_false h6]
  refine jB (Post:=fun v G' L'=>G' = G ∧ L' = [] ∧ _) [(0,_),(1,_),(2,_)] Tryz.func43 Tryz.ntmps43 fun B hok hB hW=>?_
  repeat' (first | refine jR ?_ | (refine jo ?_;first | refine aq F ?_ | (refine aM F F F cx_l4 F ?_;rintro _ G hle ⟨uu,q1,rfl,hyes⟩;skip) | refine ab F F F hyes F ?_) | refine al F F F ?_ | refine ac F (ar oM) ?_)
  all_goals refine Nx.base hok hB ?_
  all_goals refine jZ (vs:=[_,_]) F ⟨F,F,trivial⟩ F ⟨F,F,?_⟩
  all_goals rfl
theorem m8 {s k w : act} (h : s.length ≤ 1048576 ∧ k.length ≤ 1048576 ∧ w.length ≤ 1048576) : av acs 43 [S s,S k,S w] G (· = Tu [S ((c9 s k w).getD []),Bo (c9 s k w).isSome]):=by
 unfold c9
 cases hg : eZ s k w with
 | none=>exact sj h hg
 | some u =>
  obtain ⟨ts,hs,hki,hvo,hto,hwf⟩:=k6 hg
  have h1:=si (ub:=u.bys) ((yP (G:=G) h hs hki hvo).mono (by
   rintro r G' L' ⟨g1,g2,v,b,g3,g4⟩
   exact ⟨g1,g2,v,b,g3,v5 (ci hs) g4 hwf oM⟩))
  dsimp only
  split
  ·rename_i h6;rw [if_pos h6,decide_eq_true h6] at h1;exact h1
  ·rename_i h6;rw [if_neg h6,decide_eq_false h6] at h1;exact h1
theorem rV {x : act} (h : 1 ≤ x.length ∧ x.length ≤ 20) : av acs 30 [S x] G (· = Bo true):=by
 refine jE [(0,_)] Tryz.func30 Tryz.ntmps30 fun B hB=>?_
 repeat' (first | refine jR ?_ | (refine jo ?_;refine aE F ?_) | refine aw F F (ar oM) ?_)
 all_goals refine jY (vs:=[_]) ?_
 all_goals ((exact (ax _).trans (congrArg Value.bool (decide_eq_true oM))))
theorem rW {x : act} (h : ¬ (1 ≤ x.length ∧ x.length ≤ 20)) : av acs 30 [S x] G (· = Bo false):=by
 by_cases h1 : 1 ≤ x.length
 all_goals
  refine jE [(0,_)] Tryz.func30 Tryz.ntmps30 fun B hB=>?_
  repeat' (first | refine jR ?_ | (refine jo ?_;first | refine aE F ?_ | refine aq F ?_) | refine aw F F (ar oM) ?_ | refine al F F (ay oM) ?_)
 all_goals refine jY (vs:=[_]) ?_
 all_goals (first | rfl | exact (ax _).trans (congrArg Value.bool (decide_eq_false oM)))
theorem qo {x : act} (h : 1 ≤ x.length ∧ x.length ≤ 20) : av acs 35 [S x] G (· = Bo true):=by
 refine jE [(0,_)] Tryz.func35 Tryz.ntmps35 fun B hB=>?_
 repeat' (first | refine jR ?_ | (refine jo ?_;refine ab F F F rQ F ?_))
 all_goals refine jY (vs:=[_]) ?_
 all_goals (rw [ax];congr 1;simp;omega)
theorem qp {x : act} (h : ¬ (1 ≤ x.length ∧ x.length ≤ 20)) : av acs 35 [S x] G (· = Bo false):=by
 refine jE [(0,_)] Tryz.func35 Tryz.ntmps35 fun B hB=>?_
 repeat' (first | refine jR ?_ | (refine jo ?_;refine ab F F F rQ F ?_))
 all_goals refine jY (vs:=[_]) ?_
 all_goals (rw [ax];congr 1;simp;omega)
def fR (s k w x : act) : Option Int:=match c9 s k w with
 | some b=>if 1 ≤ x.length ∧ x.length ≤ 20 then some (bz (x ++ b ++ x)) else none
 | none=>none
theorem mm {s k w x : act} (h1 : s.length ≤ 1048576 ∧ k.length ≤ 1048576 ∧ w.length ≤ 1048576 ∧ x.length ≤ 1048576) : av acs 15 [S s,S k,S w,S x] G (· = Tu [I ((fR s k w x).getD 0),Bo (fR s k w x).isSome]):=by
 have cx_bp1:=ku (G:=G) (s:=s) (k:=k) (w:=w) oM
 unfold fR
 cases e1 : c9 s k w with
 | none =>
  rw [e1] at cx_bp1
  dsimp only [Option.getD,Option.isSome] at cx_bp1 ⊢
  refine jE [(0,_),(1,_),(2,_),(3,_)] Tryz.func15 Tryz.ntmps15 fun B hB=>?_
  repeat' (first | refine jR ?_ | (refine jo ?_;first | refine aE F ?_ | refine ab F F F cx_bp1 F ?_) | refine aw F F F ?_ | refine ac F F ?_)
  all_goals refine jY (vs:=[_,_]) ?_
  all_goals rfl
 | some b =>
  have hbl:=iO e1
  rw [e1] at cx_bp1
  dsimp only [Option.getD,Option.isSome] at cx_bp1
  by_cases hx : 1 ≤ x.length ∧ x.length ≤ 20
  ·dsimp only
   rw [if_pos hx]
   have hl2 : (x ++ b ++ x).length ≤ 9000000000000000000:=by simp;omega
   refine jE [(0,_),(1,_),(2,_),(3,_)] Tryz.func15 Tryz.ntmps15 fun B hB=>?_
   repeat' (first | refine jX ?_ | (refine jo ?_;first | refine aq F ?_ | refine ab F F F cx_bp1 F ?_ | refine ab F F F (rV oM) F ?_ | refine ab F F F (qD ‹_›) F ?_) | refine al F F F ?_ | refine ad F F ?_)
   all_goals refine jY (vs:=[_,_]) ?_
   all_goals rfl
  ·dsimp only
   rw [if_neg hx]
   refine jE [(0,_),(1,_),(2,_),(3,_)] Tryz.func15 Tryz.ntmps15 fun B hB=>?_
   repeat' (first | refine jR ?_ | (refine jo ?_;first | refine aq F ?_ | refine ab F F F cx_bp1 F ?_ | refine ab F F F (rW oM) F ?_) | refine al F F F ?_ | refine ac F F ?_)
   all_goals refine jY (vs:=[_,_]) ?_
   all_goals rfl
theorem v7 {s k w x : act} (h1 : s.length ≤ 1048576 ∧ k.length ≤ 1048576 ∧ w.length ≤ 1048576 ∧ x.length ≤ 1048576) : av acs 42 [S s,S k,S w,S x] G (· = Tu [I ((fR s k w x).getD 0),Bo (fR s k w x).isSome]):=by
 have cx_bp1:=m8 (G:=G) (s:=s) (k:=k) (w:=w) oM
 unfold fR
 cases e1 : c9 s k w with
 | none =>
  rw [e1] at cx_bp1
  dsimp only [Option.getD,Option.isSome] at cx_bp1 ⊢
  refine jE [(0,_),(1,_),(2,_),(3,_)] Tryz.func42 Tryz.ntmps42 fun B hB=>?_
  repeat' (first | refine jR ?_ | (refine jo ?_;first | refine aE F ?_ | refine ab F F F cx_bp1 F ?_) | refine aw F F F ?_ | refine ac F F ?_)
  all_goals refine jY (vs:=[_,_]) ?_
  all_goals rfl
 | some b =>
  have hbl:=iO e1
  rw [e1] at cx_bp1
  dsimp only [Option.getD,Option.isSome] at cx_bp1
  by_cases hx : 1 ≤ x.length ∧ x.length ≤ 20
  ·dsimp only
   rw [if_pos hx]
   have hl2 : (x ++ b ++ x).length ≤ 9000000000000000000:=by simp;omega
   refine jE [(0,_),(1,_),(2,_),(3,_)] Tryz.func42 Tryz.ntmps42 fun B hB=>?_
   repeat' (first | refine jX ?_ | (refine jo ?_;first | refine aq F ?_ | refine ab F F F cx_bp1 F ?_ | refine ab F F F (qo oM) F ?_ | refine ab F F F (fc ‹_›) F ?_) | refine al F F F ?_ | refine ad F F ?_)
   all_goals refine jY (vs:=[_,_]) ?_
   all_goals rfl
  ·dsimp only
   rw [if_neg hx]
   refine jE [(0,_),(1,_),(2,_),(3,_)] Tryz.func42 Tryz.ntmps42 fun B hB=>?_
   repeat' (first | refine jR ?_ | (refine jo ?_;first | refine aq F ?_ | refine ab F F F cx_bp1 F ?_ | refine ab F F F (qp oM) F ?_) | refine al F F F ?_ | refine ac F F ?_)
   all_goals refine jY (vs:=[_,_]) ?_
   all_goals rfl
def cG (s k w x : act) : act × Bool:=match c9 s k w with
 | some b=>if 1 ≤ x.length ∧ x.length ≤ 20 then (gJ (b ++ aK (bz (x ++ b ++ x))),oG (b ++ aK (bz (x ++ b ++ x)))) else ([],false)
 | none=>([],false)
theorem iM {s k w x : act} (h1 : s.length ≤ 1048576 ∧ k.length ≤ 1048576 ∧ w.length ≤ 1048576 ∧ x.length ≤ 1048576) : av acs 12 [S s,S k,S w,S x] G (· = Tu [S (cG s k w x).1,Bo (cG s k w x).2]):=by
 have cx_bp1:=ku (G:=G) (s:=s) (k:=k) (w:=w) oM
 have cx_so:=mm (G:=G) h1
 unfold fR at cx_so
 unfold cG
 cases e1 : c9 s k w with
 | none =>
  rw [e1] at cx_bp1 cx_so
  dsimp only [Option.getD,Option.isSome] at cx_bp1 cx_so ⊢
  refine jE [(0,_),(1,_),(2,_),(3,_)] Tryz.func12 Tryz.ntmps12 fun B hB=>?_
  repeat' (first | refine jR ?_ | (refine jo ?_;refine ab F F F cx_so F ?_) | refine ac F F ?_)
  all_goals refine jY (vs:=[_,_]) ?_
  all_goals rfl
 | some b =>
  have hbl:=iO e1
  rw [e1] at cx_bp1 cx_so
  dsimp only at cx_so
  by_cases hx : 1 ≤ x.length ∧ x.length ≤ 20
  ·rw [if_pos hx] at cx_so
   dsimp only [Option.getD,Option.isSome] at cx_bp1 cx_so ⊢
   rw [if_pos hx]
   have hsr:=ch (x ++ b ++ x)
   have hs3:=gN (x ++ b ++ x)
   have hl2 : (b ++ aK (bz (x ++ b ++ x))).length ≤ 9000000000000000000:=by rw [List.length_append];omega
   refine jE [(0,_),(1,_),(2,_),(3,_)] Tryz.func12 Tryz.ntmps12 fun B hB=>?_
   repeat' (first | refine jM ?_ | (refine jo ?_;first | refine ab F F F cx_so F ?_ | refine ab F F F cx_bp1 F ?_ | refine ab F F F (fz oM) F ?_ | refine ab F F F (m7 ‹_›) F ?_) | refine ad F F ?_)
   all_goals refine jY (vs:=[_,_]) ?_
   all_goals rfl
  ·rw [if_neg hx] at cx_so
   dsimp only [Option.getD,Option.isSome] at cx_bp1 cx_so ⊢
   rw [if_neg hx]
   refine jE [(0,_),(1,_),(2,_),(3,_)] Tryz.func12 Tryz.ntmps12 fun B hB=>?_
   repeat' (first | refine jR ?_ | (refine jo ?_;refine ab F F F cx_so F ?_) | refine ac F F ?_)
   all_goals refine jY (vs:=[_,_]) ?_
   all_goals rfl
theorem iL {s k w x : act} (h1 : s.length ≤ 1048576 ∧ k.length ≤ 1048576 ∧ w.length ≤ 1048576 ∧ x.length ≤ 1048576) : av acs 14 [S s,S k,S w,S x] G (· = Tu [S (cG s k w x).1,Bo (cG s k w x).2]):=by
 have cx_bp1:=m8 (G:=G) (s:=s) (k:=k) (w:=w) oM
 have cx_so:=v7 (G:=G) h1
 unfold fR at cx_so
 unfold cG
 cases e1 : c9 s k w with
 | none =>
  rw [e1] at cx_bp1 cx_so
  dsimp only [Option.getD,Option.isSome] at cx_bp1 cx_so ⊢
  refine jE [(0,_),(1,_),(2,_),(3,_)] Tryz.func14 Tryz.ntmps14 fun B hB=>?_
  repeat' (first | refine jR ?_ | (refine jo ?_;refine ab F F F cx_so F ?_) | refine ac F F ?_)
  all_goals refine jY (vs:=[_,_]) ?_
  all_goals rfl
 | some b =>
  have hbl:=iO e1
  rw [e1] at cx_bp1 cx_so
  dsimp only at cx_so
  by_cases hx : 1 ≤ x.length ∧ x.length ≤ 20
  ·rw [if_pos hx] at cx_so
   dsimp only [Option.getD,Option.isSome] at cx_bp1 cx_so ⊢
   rw [if_pos hx]
   have hsr:=ch (x ++ b ++ x)
   have hs3:=gN (x ++ b ++ x)
   have hl2 : (b ++ aK (bz (x ++ b ++ x))).length ≤ 9000000000000000000:=by rw [List.length_append];omega
   refine jE [(0,_),(1,_),(2,_),(3,_)] Tryz.func14 Tryz.ntmps14 fun B hB=>?_
   repeat' (first | refine jM ?_ | (refine jo ?_;first | refine ab F F F cx_so F ?_ | refine ab F F F cx_bp1 F ?_ | refine ab F F F (dk oM) F ?_ | refine ab F F F (sG ‹_›) F ?_) | refine ad F F ?_)
   all_goals refine jY (vs:=[_,_]) ?_
   all_goals rfl
  ·rw [if_neg hx] at cx_so
   dsimp only [Option.getD,Option.isSome] at cx_bp1 cx_so ⊢
   rw [if_neg hx]
   refine jE [(0,_),(1,_),(2,_),(3,_)] Tryz.func14 Tryz.ntmps14 fun B hB=>?_
   repeat' (first | refine jR ?_ | (refine jo ?_;refine ab F F F cx_so F ?_) | refine ac F F ?_)
   all_goals refine jY (vs:=[_,_]) ?_
   all_goals rfl
theorem rR {u : Value} {vs : List bL} (hw : SchW (af vs)) (h : SchR G u vs) {k s : act} (hki : aJ (af vs) k = true) :
  bx acs 85 [u,S k,S s] G (fun r _=>r = Tu [S (if (bZ (af vs) k s).isSome = true then s else []),Bo (bZ (af vs) k s).isSome]):=by
 obtain ⟨ua,uc,rfl⟩:=h.sl.sl
 by_cases hl : s.length ≤ 400
 ·have cx_rd:=jr (u:=.slice ua vs.length uc) (vs:=vs) hw 12 oM G k s h hki oM
  have hvo : bZ (af vs) k s = match rd (af vs) 12 k s with
   | some (v,[])=>some v
   | _=>none:=by
   unfold bZ;rw [if_pos hl]
   all_goals (rcases rd (af vs) 12 k s with _ | ⟨v,_ | _⟩ <;> rfl)
  refine jB [(0,_),(1,_),(2,_)] Tryz.func85 Tryz.ntmps85 fun B hok hB hW=>?_
  repeat' (first | refine jR ?_ | (refine jo ?_;first | refine jV (am F F) ?_ | refine aE F ?_ | refine aq F ?_ | (refine aM F F F cx_rd F ?_;rintro _ G hle ⟨q1,r1,ok1,rfl,hyes,hno⟩;skip)) | refine kq F F (fun _=>?_) (fun _=>?_) | refine ac F F ?_ | refine ad F (ay oM) ?_ | refine cR F (fun _=>?_) (fun _=>?_))
  all_goals refine jZ (vs:=[_,_]) F ⟨F,F,trivial⟩ F ⟨hle,F,?_⟩
  ·rename_i hz
   rw [hno (by simpa using hz)] at hvo
   rw [hvo];rfl
  ·rename_i hz hr
   obtain ⟨w,b,rfl,hf,hrep⟩:=hyes (by simpa using hz)
   rw [hf] at hvo
   have hvo2 : bZ (af vs) k s = none:=by
    rw [hvo]
    cases r1 with
    | nil=>exact absurd F hr
    | cons c r=>rfl
   rw [hvo2];rfl
  ·rename_i hz hr
   obtain ⟨w,b,rfl,hf,hrep⟩:=hyes (by simpa using hz)
   obtain rfl : r1 = []:=by simpa using hr
   rw [hf] at hvo
   rw [hvo];rfl
 ·have hvo : bZ (af vs) k s = none:=by unfold bZ;rw [if_neg hl]
  rw [hvo]
  refine jB [(0,_),(1,_),(2,_)] Tryz.func85 Tryz.ntmps85 fun B hok hB hW=>?_
  repeat' (first | refine jR ?_ | refine ac F (ar oM) ?_)
  all_goals refine jZ (vs:=[_,_]) F ⟨F,F,trivial⟩ F ⟨Gh.le.refl _,F,?_⟩
  all_goals rfl
def iE (o : Option act) : Value:=Tu [S (o.getD []),Bo o.isSome]
def JF (s : act) (xs : List act) (j : Nat) (t : act) : Prop:=(j = 0 → s = (xs.map frame).flatten ++ t ∧ ∀ x ∈ xs,x.length ≤ 100) ∧ (∀ b,b.length ≤ 100 → s = frame b → xs = [b] ∧ j = 0 ∧ t = [])
def JL (s : act) (xs : List act) (j : Nat) (t : act) : Prop:=(j = 0 → s = (xs.map frame).flatten ++ t ∧ ∀ x ∈ xs,x.length ≤ 100) ∧ (∀ b,b.length ≤ 100 → s = frame b → (xs = [] ∧ j = 0 ∧ t = s) ∨ (xs = [b] ∧ j = 0 ∧ t = []))
theorem ny {b : act} : frame b ≠ []:=by unfold frame;simp
theorem JL.hit {s tx rs t : act} {xs : List act} {j : Nat} (h : JL s xs j t) (hl : tx.length ≤ 100) (ht : t = frame tx ++ rs) : JL s (xs ++ [tx]) j rs:=by
 refine ⟨fun hj=>?_,fun b hb e=>?_⟩
 ·obtain ⟨h1,h2⟩:=h.1 hj
  refine ⟨?_,fun x hx=>?_⟩
  ·rw [h1,ht,List.map_append,List.flatten_append];simp
  ·rcases List.mem_append.1 hx with hx | hx
   ·exact h2 x hx
   ·simp only [List.mem_singleton] at hx;subst hx;exact hl
 ·rcases h.2 b hb e with ⟨h1,h2,h3⟩ | ⟨h1,h2,h3⟩
  ·have e2 : frame tx ++ rs = frame b ++ []:=by rw [← ht,h3,e,List.append_nil]
   obtain ⟨rfl,rfl⟩:=vm hl hb e2
   exact .inr ⟨by rw [h1];rfl,h2,rfl⟩
  ·rw [h3] at ht
   exact absurd ht.symm (by unfold frame;simp)
theorem JL.miss {s t : act} {xs : List act} {j : Nat} (h : JL s xs j t) (ht : t ≠ []) (hno : ∀ b r,b.length ≤ 100 → t ≠ frame b ++ r) : ∀ b,b.length ≤ 100 → s ≠ frame b:=fun b hb e=>by
 rcases h.2 b hb e with ⟨h1,h2,h3⟩ | ⟨h1,h2,h3⟩
 ·exact hno b [] hb (by rw [h3,e,List.append_nil])
 ·exact ht h3
theorem JL.junk {s t' : act} {xs : List act} {j : Nat} (h : ∀ b,b.length ≤ 100 → s ≠ frame b) : JL s xs (j + 1) t':=⟨fun h=>absurd h oM,fun b hb e=>absurd e (h b hb)⟩
theorem JF.of {s t : act} {xs : List act} {j : Nat} (h : JL s xs j t) (h2 : ∀ b,b.length ≤ 100 → s ≠ frame b) : JF s xs j t:=⟨h.1,fun b hb e=>absurd e (h2 b hb)⟩
theorem JF.fin {s : act} {xs : List act} {j : Nat} (h : JL s xs j []) : JF s xs j []:=⟨h.1,fun b hb e=>by
 rcases h.2 b hb e with ⟨_,_,h3⟩ | h3
 ·rw [e] at h3;exact absurd h3.symm ny
 ·exact h3⟩
theorem JF.bad {s t : act} {xs : List act} {j : Nat} (h : JF s xs j t) (hj : dR s = none) : 0 < j ∨ t ≠ [] ∨ xs.length ≠ 1:=by
 by_cases h0 : 0 < j
 ·exact .inl h0
 by_cases h1 : t = []
 ·refine .inr (.inr fun hx=>?_)
  obtain ⟨b,rfl⟩:=List.length_eq_one_iff.1 hx
  obtain ⟨e,hb⟩:=h.1 oM
  have hb:=hb b (by simp)
  have : dR s = some b:=gS.2 ⟨hb,by rw [e,h1];simp⟩
  rw [hj] at this;cases this
 ·exact .inr (.inl h1)
abbrev qA : TypeId:=9
theorem tz {s : act} (hs : s.length ≤ 2000) : cx acs 75 [S s] G [] (fun v L'=>∃ u j t xs,v = Tu [u,I (j : Nat),S t] ∧ L' = [.acc u qA 1 xs.length (iw xs)] ∧ qr u xs.length ∧ JF s xs j t):=by
 refine jH [(0,_)] Tryz.func75 Tryz.ntmps75 fun B hB hW=>?_
 repeat' (first | refine jR ?_ | (refine jo ?_;refine jF fun _=>?_))
 rename_i y
 refine Nx.blkAcc (m:=0) (sz:=1) .here F ?_
 refine aR (ι:=Value × List act × Nat × act) (fun i=>i.2.1.length + i.2.2.1 + i.2.2.2.length ≤ 2000 ∧ JL s i.2.1 i.2.2.1 i.2.2.2) (fun i=>[(0,S i.2.2.2),(5,i.1),(6,I i.2.2.1)]) (fun _=>G) (fun i=>[.acc i.1 qA 1 i.2.1.length (iw i.2.1)]) (fun i=>i.2.2.2.length) (.slice (some ⟨y,0,none⟩) 0 0,[],0,s) ?_ tU F aW (fun i hI=>?_)
 ·exact ⟨by dsimp only;simp only [List.length_nil];omega,fun _=>⟨rfl,fun x hx=>by cases hx⟩,fun b hb e=>.inl ⟨rfl,rfl,rfl⟩⟩
 obtain ⟨u,xs,j,t⟩:=i
 dsimp only at hI ⊢
 obtain ⟨hle,hJ⟩:=hI
 by_cases ht : t = []
 ·subst ht
  repeat' (first | refine jR ?_ | refine ad F F ?_)
  all_goals exact Nx.shp (.head _) fun hsh=>aO (vs:=[_,_,_]) F ⟨F,F,F,trivial⟩ F (List.Sublist.refl _) ⟨F,u,j,[],xs,F,F,hsh,JF.fin hJ⟩
 ·have hpos:=List.length_pos_iff.2 ht
  have cx_hd:=wR (G:=G) ht oM
  repeat' (first | refine jM ?_ | (refine jo ?_;first | refine jF fun _=>?_ | refine mJ F F F F F F F F oM fun _=>?_ | (refine c8 F F F cx_hd F ?_;rintro _ ⟨tx1,rs1,ok1,gr1,rfl,hH⟩)) | refine ac F (ar ‹_›) ?_ | refine l4 F (fun _=>?_) (fun _=>?_))
  ·obtain ⟨h1,h2⟩:=hH.1 aS
   have h3:=congrArg List.length h2
   have h4:=List.length_pos_iff.2 (ny (b:=tx1))
   simp only [List.length_append] at h3
   refine aY (_,xs ++ [tx1],j,rs1) ⟨by dsimp only;simp only [List.length_append,List.length_cons,List.length_nil];omega,hJ.hit h1 h2⟩ (by dsimp only;omega) tU rfl (by dsimp only;simp only [jp,List.length_append,List.length_cons,List.length_nil,Nat.zero_add];repeat (first | exact List.nil_sublist _ | apply List.Sublist.cons_cons))
  ·have hno:=hJ.miss ht (hH.2 aS)
   exact Nx.shp (.head _) fun hsh=>aO (vs:=[_,_,_]) F ⟨F,F,F,trivial⟩ F (List.Sublist.refl _) ⟨F,u,j,t,xs,F,F,hsh,JF.of hJ hno⟩
  ·have hno:=hJ.miss ht (hH.2 aS)
   refine aY (u,xs,j + 1,t.drop 1) ⟨by dsimp only;simp only [List.length_drop];omega,JL.junk hno⟩ (by dsimp only;simp only [List.length_drop];omega) tU rfl aW
theorem aaP {s : act} (hs : s.length ≤ 1048576) (hj : dR s = none) : cx acs 34 [S s] G [] (fun v L'=>∃ u j t xs ok,v = Tu [u,I (j : Nat),S t,Bo ok] ∧ L' = [.acc u qA 1 xs.length (iw xs)] ∧ (ok = false ∨ 0 < j ∨ t ≠ [] ∨ xs.length ≠ 1)):=by
 by_cases h : s.length ≤ 2000
 ·have cx_lg:=tz (G:=G) h
  refine jH [(0,_)] Tryz.func34 Tryz.ntmps34 fun B hB hW=>?_
  repeat' (first | refine jR ?_ | (refine jo ?_;(refine dq F F F cx_lg F ?_;rintro _ _ ⟨ub,j1,t1,xs1,rfl,rfl,hsh1,hJ1⟩;dsimp only [zA,fA])) | refine ad F (ay oM) ?_)
  all_goals exact aO (vs:=[_,_,_,_]) F ⟨F,F,F,F,trivial⟩ F (List.Sublist.refl _) ⟨F,ub,j1,t1,xs1,true,F,F,.inr (hJ1.bad hj)⟩
 ·refine jH [(0,_)] Tryz.func34 Tryz.ntmps34 fun B hB hW=>?_
  repeat' (first | refine jR ?_ | (refine jo ?_;refine jF fun _=>?_) | refine ac F (ar oM) ?_)
  rename_i y
  refine Nx.blkAcc (m:=0) (sz:=1) .here F ?_
  exact aO (vs:=[_,_,_,_]) F ⟨F,F,F,F,trivial⟩ F (List.Sublist.refl _) ⟨F,_,0,[],[],false,F,F,.inl F⟩
theorem aaR {s b : act} (hj : dR s = some b) : cx acs 34 [S s] G [] (fun v L'=>∃ y cap,v = Tu [.slice (some ⟨y,0,none⟩) 1 cap,I 0,S [],Bo true] ∧ L' = [.acc (.slice (some ⟨y,0,none⟩) 1 cap) qA 1 1 [S b]]):=by
 obtain ⟨hb,rfl⟩:=gS.1 hj
 have hl:=gl b oM
 have cx_lg:=tz (G:=G) (s:=frame b) oM
 refine jH [(0,_)] Tryz.func34 Tryz.ntmps34 fun B hB hW=>?_
 repeat' (first | refine jR ?_ | (refine jo ?_;(refine dq F F F cx_lg F ?_;rintro _ _ ⟨ub,j1,t1,xs1,rfl,rfl,hsh1,hJ1⟩;dsimp only [zA,fA])) | refine ad F (ay oM) ?_)
 obtain ⟨rfl,rfl,rfl⟩:=hJ1.2 b hb rfl
 obtain ⟨y,cap,rfl⟩:=hsh1.pos (by simp)
 exact aO (vs:=[_,_,_,_]) F ⟨F,F,F,F,trivial⟩ F (List.Sublist.refl _) ⟨F,y,cap,F,F⟩
theorem aaQ {s : act} (hs : s.length ≤ 1048576) (hj : dR s = none) : cx acs 74 [S s] G [] (fun v L'=>∃ u j t xs ok,v = Tu [u,I (j : Nat),S t,Bo ok] ∧ L' = [.acc u kg 1 xs.length (iw xs)] ∧ (ok = false ∨ 0 < j ∨ t ≠ [] ∨ xs.length ≠ 1)):=by
 refine (mq (G:=G) (s:=s) oM).mono ?_
 rintro v G' L' ⟨h1,u,rfl,rfl,h4⟩
 refine ⟨h1,u,(ce s).2.1,(ce s).2.2,(ce s).1,decide (s.length ≤ 2000),F,F,?_⟩
 by_cases a1 : s.length ≤ 2000
 ·by_cases a2 : (ce s).2.1 = 0
  ·by_cases a3 : (ce s).2.2 = []
   ·refine .inr (.inr (.inr fun hx=>?_))
    obtain ⟨b,hb⟩:=List.length_eq_one_iff.1 hx
    unfold dR at hj
    rw [if_pos ⟨a1,a2,a3⟩,hb] at hj
    cases hj
   ·exact .inr (.inr (.inl a3))
  ·exact .inr (.inl oM)
 ·exact .inl (decide_eq_false a1)
theorem aaS {s b : act} (hj : dR s = some b) : cx acs 74 [S s] G [] (fun v L'=>∃ y cap,v = Tu [.slice (some ⟨y,0,none⟩) 1 cap,I 0,S [],Bo true] ∧ L' = [.acc (.slice (some ⟨y,0,none⟩) 1 cap) kg 1 1 [S b]]):=by
 obtain ⟨hb,rfl⟩:=gS.1 hj
 have hl:=gl b oM
 refine (mq (G:=G) (s:=frame b) oM).mono ?_
 rintro v G' L' ⟨h1,u,rfl,rfl,h4⟩
 rw [jI hb] at h4 ⊢
 obtain ⟨y,cap,rfl⟩:=h4.pos (by simp)
 exact ⟨h1,y,cap,by rw [decide_eq_true oM];rfl,rfl⟩
theorem sE {s : act} (hs : s.length ≤ 1048576) : av acs 29 [S s] G (· = iE (dR s)):=by
 cases hj : dR s with
 | none =>
  have hFG:=aaQ (G:=G) hs hj
  refine jE [(0,_)] Tryz.func29 Tryz.ntmps29 fun B hB=>?_
  repeat' (refine jR ?_)
  refine jo ?_
  refine dq F F F hFG F ?_
  rintro _ _ ⟨ub,j1,t1,xs1,ok1,rfl,rfl,hbad⟩
  dsimp only [zA,fA]
  rcases hbad with rfl | h | h | h
  all_goals repeat' (first | refine jR ?_ | (refine jo ?_;first | refine aE F ?_ | refine aq F ?_ | refine jV (uh F) ?_) | (refine aw F F (by first | rfl | (refine decide_eq_true ?_;first | assumption | omega)) ?_) | refine dA F F (fun _=>?_) (fun _=>?_) | refine kq F F (fun _=>?_) (fun _=>?_) | (refine ac F (by first | rfl | (refine decide_eq_true ?_;(omega))) ?_))
  all_goals refine jY (vs:=[_,_]) ?_
  all_goals rfl
 | some b =>
  have cx_FramesGet:=aaS (G:=G) hj
  refine jE [(0,_)] Tryz.func29 Tryz.ntmps29 fun B hB=>?_
  repeat' (first | refine jR ?_ | (refine jo ?_;first | refine aq F ?_ | refine jV (ao F) ?_ | refine jV (aQ F F oM) ?_ | refine jV (hZ F F F) ?_ | (refine dq F F F cx_FramesGet F ?_;rintro _ _ ⟨b,cap,rfl,rfl⟩;dsimp only [zA,fA])) | refine al F F F ?_ | refine ad F F ?_)
  all_goals refine jY (vs:=[_,_]) ?_
  all_goals rfl
def lC (n : Nat) (u : Value) (vs : List bL) : Prop:=∀ (G : Gh) (k s : act),SchR G u vs → aJ (af vs) k = true → s.length ≤ 1000 →
 bx acs 121 [Ag [u],S s,S k,I (n : Nat)] G (ck (af vs) (rb (af vs) n k s) k)
theorem vR {n : Nat} {u : Value} {ts : List Ty} {k s : act} (hc : s = [] ∨ n = 0) (hn : n ≤ 1000) : bx acs 121 [Ag [u],S s,S k,I (n : Nat)] G (ck ts (rb ts n k s) k):=by
 have hno : rb ts n k s = none:=by
  rcases hc with rfl | rfl
  ·exact zy
  ·rfl
 by_cases hs : s = []
 ·refine jB [(0,_),(1,_),(2,_),(3,_)] Tryz.func121 Tryz.ntmps121 fun B hok hB hW=>?_
  repeat' (first | refine jR ?_ | (refine jo ?_;first | refine jO fun _=>?_ | refine aE F ?_) | refine aw F F (ar ‹_›) ?_ | refine ac F F ?_)
  refine jZ (vs:=[_,_,_]) F ⟨F,F,F,trivial⟩ F ⟨Gh.le.refl _,F,?_⟩
  rw [aB]
  exact ⟨_,_,_,F,fun h=>(by (cases h;done)),fun _=>hno⟩
 ·have hn0 : n = 0:=by
   rcases hc with h | h
   ·exact absurd h hs
   ·exact h
  refine jB [(0,_),(1,_),(2,_),(3,_)] Tryz.func121 Tryz.ntmps121 fun B hok hB hW=>?_
  repeat' (first | refine jR ?_ | (refine jo ?_;first | refine jO fun _=>?_ | refine aq F ?_) | refine al F F (ay ‹_›) ?_ | refine ac F (ar oM) ?_)
  refine jZ (vs:=[_,_,_]) F ⟨F,F,F,trivial⟩ F ⟨Gh.le.refl _,F,?_⟩
  rw [aB]
  exact ⟨_,_,_,F,fun h=>(by (cases h;done)),fun _=>hno⟩
theorem aaH {n : Nat} {u : Value} {ts : List Ty} {s : act} (hu : u.oneCell' = true) (h0 : s ≠ []) (hs : s.length ≤ 1000) (hn : n ≤ 999) : bx acs 121 [Ag [u],S s,S [110],I (n + 1 : Nat)] G (ck ts ((bj s).map fun x=>(.nd 110 (br x.1) 0 [],x.2)) [110]):=by
 have cx_ng0:=eN (G:=G) (s:=s) oM
 cases hg : bj s with
 | none =>
  rw [hg] at cx_ng0
  have cx_ng : av acs 106 [S s] G (· = Tu [I 0,S [],Bo false]):=cx_ng0
  clear cx_ng0
  refine jB [(0,_),(1,_),(2,_),(3,_)] Tryz.func121 Tryz.ntmps121 fun B hok hB hW=>?_
  repeat' (first | refine jX ?_ | (refine jo ?_;first | refine jO fun _=>?_ | refine aq F ?_ | refine jV (am F F) ?_ | refine ab F F F cx_ng F ?_ | refine ab F F F (eI oM) F ?_) | refine al F F (ay ‹_›) ?_ | refine ac F F ?_ | refine ad F F ?_)
  all_goals refine jZ (vs:=[_,_,_]) F ⟨F,F,F,trivial⟩ F ⟨Gh.le.refl _,F,?_⟩
  all_goals (rw [aB];exact ⟨_,_,_,F,fun h=>(by cases h),fun _=>rfl⟩)
 | some z =>
  obtain ⟨m,r⟩:=z
  obtain ⟨h1,h2,_⟩:=cF hg
  have hl:=bT hg
  rw [hg] at cx_ng0
  have cx_ng : av acs 106 [S s] G (· = Tu [I m,S r,Bo true]):=cx_ng0
  clear cx_ng0
  have hdg:=(im m.toNat (Nat.le_refl _) h1).2
  refine jB [(0,_),(1,_),(2,_),(3,_)] Tryz.func121 Tryz.ntmps121 fun B hok hB hW=>?_
  repeat' (first | refine jX ?_ | (refine jo ?_;first | refine jO fun _=>?_ | refine aq F ?_ | refine jV (am F F) ?_ | refine ab F F F cx_ng F ?_ | refine ab F F F (eI oM) F ?_) | refine al F F (ay ‹_›) ?_ | refine ac F F ?_ | refine ad F F ?_)
  all_goals
   rename_i xr y
   refine Nx.sealC (b:=y) fun G2 hG2 hsy=>?_
   refine jZ (vs:=[_,_,_]) F ⟨F,F,F,trivial⟩ F ⟨hG2,F,?_⟩
   rw [aB]
   exact ⟨_,_,_,F,fun _=>⟨_,y,F,F,.leaf 110 _ _ _ _ hsy (.inl ⟨F,F,F,hdg⟩)⟩,fun h=>(by cases h)⟩
theorem aaJ {n : Nat} {u : Value} {ts : List Ty} {s : act} {e : UInt8} (hu : u.oneCell' = true) (hs : s.length ≤ 1000) (hn : n ≤ 999) : bx acs 121 [Ag [u],S (e :: s),S [102],I (n + 1 : Nat)] G (ck ts ((cq (e :: s)).map fun x=>(.nd 102 (if x.1 = true then [121,101,115] else [110,111]) 0 [],x.2)) [102]):=by
 have he0 : bt (e :: s) (Int.toNat 0) = e.toNat:=bh e s
 have hel : (e :: s).length = s.length + 1:=rfl
 by_cases h1 : e.toNat = 1
 ·obtain rfl : e = 1:=bn h1 dC
  have he0 : bt (1 :: s) (Int.toNat 0) = 1:=bh 1 s
  rw [wu]
  refine jB [(0,_),(1,_),(2,_),(3,_)] Tryz.func121 Tryz.ntmps121 fun B hok hB hW=>?_
  repeat' (first | refine jX ?_ | (refine jo ?_;first | refine jO fun _=>?_ | refine aq F ?_) | refine al F F F ?_ | refine ac F F ?_ | refine ad F F ?_ | (refine aj (an (id:=14) _ (fun _ h=>h) ai ?_);refine jW 8 [0,2,3,8,9] (aa 13 781) ?_;refine jA 1 F ?_;(refine jF fun _=>?_);refine jS (aa 13 783) ?_;(refine jG (aa 13 799) 4 F (aD F F oM) ?_);(refine jG (aa 13 831) 5 F (aA F F F) ?_);(refine jG (aa 13 895) 6 F (am F F) ?_);refine jA 7 F ?_;(refine jO fun _=>?_);refine jS (aa 13 1023) ?_;refine jT 0 [10,11,12] (aa 13 8191) ?_;refine jQ ?_))
  all_goals
   rename_i y
   refine Nx.sealC (b:=y) fun G2 hG2 hsy=>?_
   refine jZ (vs:=[_,_,_]) F ⟨F,F,F,trivial⟩ F ⟨hG2,F,?_⟩
   rw [aB]
   exact ⟨_,_,_,F,fun _=>⟨.nd 102 [121,101,115] 0 [],y,F,F,.leaf 102 _ _ _ _ hsy (.inr (.inr ⟨F,F,F,.inl F⟩))⟩,fun h=>(by cases h)⟩
 ·by_cases h0 : e.toNat = 0
  ·obtain rfl : e = 0:=bn h0 dC
   have he0 : bt (0 :: s) (Int.toNat 0) = 0:=bh 0 s
   rw [wv]
   refine jB [(0,_),(1,_),(2,_),(3,_)] Tryz.func121 Tryz.ntmps121 fun B hok hB hW=>?_
   repeat' (first | refine jX ?_ | (refine jo ?_;first | refine jO fun _=>?_ | refine aq F ?_) | refine al F F F ?_ | refine ac F F ?_ | refine ad F F ?_ | (refine aj (an (id:=14) _ (fun _ h=>h) ai ?_);refine jW 8 [0,2,3,8,9] (aa 13 781) ?_;refine jA 1 F ?_;(refine jF fun _=>?_);refine jS (aa 13 783) ?_;(refine jG (aa 13 799) 4 F (aD F F oM) ?_);(refine jG (aa 13 831) 5 F (aA F F F) ?_);(refine jG (aa 13 895) 6 F (am F F) ?_);refine jA 7 F ?_;(refine jO fun _=>?_);refine jS (aa 13 1023) ?_;refine jT 0 [10,11,12] (aa 13 8191) ?_;refine jQ ?_))
   all_goals
    rename_i y
    refine Nx.sealC (b:=y) fun G2 hG2 hsy=>?_
    refine jZ (vs:=[_,_,_]) F ⟨F,F,F,trivial⟩ F ⟨hG2,F,?_⟩
    rw [aB]
    exact ⟨_,_,_,F,fun _=>⟨.nd 102 [110,111] 0 [],y,F,F,.leaf 102 _ _ _ _ hsy (.inr (.inr ⟨F,F,F,.inr F⟩))⟩,fun h=>(by cases h)⟩
  ·have e1 : cq (e :: s) = none:=pN h0 h1
   rw [e1]
   have h2 : ¬ ((e.toNat : Nat) : Int) < 2:=oM
   refine jB [(0,_),(1,_),(2,_),(3,_)] Tryz.func121 Tryz.ntmps121 fun B hok hB hW=>?_
   repeat' (first | refine jX ?_ | (refine jo ?_;first | refine jO fun _=>?_ | refine aq F ?_) | refine al F F F ?_ | (refine ac F (by first | rfl | (refine decide_eq_true ?_;(omega))) ?_) | refine ad F F ?_)
   all_goals refine jZ (vs:=[_,_,_]) F ⟨F,F,F,trivial⟩ F ⟨Gh.le.refl _,F,?_⟩
   all_goals (rw [aB];exact ⟨_,_,_,F,fun h=>(by cases h),fun _=>rfl⟩)
theorem aaE {n : Nat} {u : Value} {ts : List Ty} {s : act} (hu : u.oneCell' = true) (h0 : s ≠ []) (hs : s.length ≤ 1000) (hn : n ≤ 999) : bx acs 121 [Ag [u], S s, S [116], I (n + 1 : Nat)] G (ck ts (match cd s with
      | none=>none
      | some (p,r)=>if db (39 :: (p ++ [39])) = true then some (.nd 116 p 0 [],r) else none) [116]):=by
  have cx_tk0:=nO (G:=G) (s:=s) oM
  cases hg : cd s with
  | none =>
    rw [hg] at cx_tk0
    have cx_tk : av acs 68 [S s] G (· = Tu [S [],S [],Bo false]):=cx_tk0
    clear cx_tk0
    refine jB [(0,_),(1,_),(2,_),(3,_)] Tryz.func121 Tryz.ntmps121 fun B hok hB hW=>?_
    repeat' (first | refine jX ?_ | (refine jo ?_;first | refine jO fun _=>?_ | refine aq F ?_ | refine jV (am F F) ?_ | refine ab F F F cx_tk F ?_) | (refine al F F (by first | rfl | (refine decide_eq_false ?_;(assumption))) ?_) | refine ac F F ?_ | refine ad F F ?_)
    all_goals refine jZ (vs:=[_,_,_]) F ⟨F,F,F,trivial⟩ F ⟨Gh.le.refl _,F,?_⟩
    all_goals (rw [aB];exact ⟨_,_,_,F,fun h=>(by cases h),fun _=>rfl⟩)
  | some z =>
    obtain ⟨p,r⟩:=z
    have hl:=dZ hg
    rw [hg] at cx_tk0
    have cx_tk : av acs 68 [S s] G (· = Tu [S p,S r,Bo true]):=cx_tk0
    clear cx_tk0
    have htx : [39] ++ p ++ [39] = 39 :: (p ++ [39]):=by simp
    have cx_tx:=eV (G:=G) (s:=[39] ++ p ++ [39]) (by simp only [List.length_append,List.length_cons,List.length_nil];omega)
    dsimp only
    refine jB [(0,_),(1,_),(2,_),(3,_)] Tryz.func121 Tryz.ntmps121 fun B hok hB hW=>?_
    repeat' (first | refine jX ?_ | (refine jo ?_;first | refine jO fun _=>?_ | refine aE F ?_ | refine aq F ?_ | refine jV (am F F) ?_ | refine ab F F F cx_tk F ?_ | (refine ab F F F (eV ?_) F ?_;(focus ((simp;omega);done)))) | refine aw F F F ?_ | refine al F F (ay ‹_›) ?_ | refine ac F F ?_ | refine ad F F ?_)
    all_goals
      rename_i y
      refine Nx.sealC (b:=y) fun G2 hG2 hsy=>?_
      refine jZ (vs:=[_,_,_]) F ⟨F,F,F,trivial⟩ F ⟨hG2,F,?_⟩
      rw [aB,htx]
      rw [htx] at hsy
      refine ⟨_,_,_,F,fun h=>?_,fun h=>?_⟩
      · exact ⟨_,y,F,by rw [if_pos h],.leaf 116 _ _ _ _ hsy (.inr (.inl ⟨F,F,F⟩))⟩
      · rw [if_neg (by rw [h];decide)]
theorem aaG {n : Nat} {u : Value} {vs : List bL} {k s : act} {e : UInt8} (hR : lC n u vs) (h : SchR G u vs) (hk : aJ (af vs) (63 :: k) = true) (hs : s.length ≤ 999) (hn : n ≤ 999) :
  bx acs 121 [Ag [u],S (e :: s),S (63 :: k),I (n + 1 : Nat)] G (ck (af vs) (rb (af vs) (n + 1) (63 :: k) (e :: s)) (63 :: k)):=by
 have edn : ((n + 1 : Nat) : Int) - 1 = (n : Nat):=oM
 have he0 : bt (e :: s) (Int.toNat 0) = e.toNat:=bh e s
 have hel : (e :: s).length = s.length + 1:=rfl
 have hk0 : bt (63 :: k) (Int.toNat 0) = 63:=bh 63 k
 have hkl2 : (63 :: k).length = k.length + 1:=rfl
 rw [uW]
 by_cases h1 : e.toNat = 1
 ·have e1 : cq (e :: s) = some (true,s):=by rw [cq,if_neg oM,if_pos h1]
  rw [e1]
  dsimp only
  have cx_gt:=hR G k s h (dx (.inr rfl) hk) oM
  rw [← edn] at cx_gt
  refine jB [(0,_),(1,_),(2,_),(3,_)] Tryz.func121 Tryz.ntmps121 fun B hok hB hW=>?_
  repeat' (first | refine jM ?_ | (refine jo ?_;first | refine jO fun _=>?_ | refine aq F ?_ | refine jV (am F F) ?_ | refine jF fun _=>?_) | refine al F F F ?_ | refine ac F F ?_ | (refine ad F (by first | rfl | (refine decide_eq_false ?_;(omega))) ?_) | (refine aj (an (id:=25) _ (fun _ h=>h) ai ?_);refine jW 9 [1,2,3,4,5,6] (aa 15 126) ?_;(refine jG (aa 15 127) 0 F (bJ F F F F) ?_);refine jA 7 F ?_;(refine aM F F F cx_gt F ?_;rintro _ G hle ⟨q1,r1,ok1,rfl,hyes,hno⟩;skip);refine jS (aa 15 255) ?_;refine jT 0 [8,9,10,11,12,13,14] (aa 15 32767) ?_;refine jQ ?_))
  all_goals
   rename_i y1 y8
   refine Nx.sealC (b:=y1) fun G2 hG2 hs1=>?_
   refine Nx.sealC (b:=y8) fun G3 hG3 hsg=>?_
   refine jZ (vs:=[_,_,_]) F ⟨F,F,F,trivial⟩ F ⟨((hle.trans hG2).trans hG3),F,?_⟩
   rw [aB]
   refine ⟨_,_,_,F,fun hb=>?_,fun hb=>by rw [hno hb];rfl⟩
   obtain ⟨w,wb,rfl,hf,hrep⟩:=hyes hb
   exact ⟨.nd 63 [] 0 [w],y8,F,by rw [hf];rfl,.opt k y8 y1 wb 1 w (Nat.le_refl _) hsg (hs1.mono hG3) (hrep.mono (hG2.trans hG3))⟩
 ·by_cases h0 : e.toNat = 0
  ·have e1 : cq (e :: s) = some (false,s):=by rw [cq,if_pos h0]
   rw [e1]
   refine jB [(0,_),(1,_),(2,_),(3,_)] Tryz.func121 Tryz.ntmps121 fun B hok hB hW=>?_
   repeat' (first | refine jM ?_ | (refine jo ?_;first | refine jO fun _=>?_ | refine aq F ?_) | refine al F F F ?_ | (refine ac F (by first | rfl | (refine decide_eq_true ?_;(omega))) ?_) | refine ad F F ?_ | (refine aj (an (id:=22) _ (fun _ h=>h) ai ?_);refine jW 5 [0,3,4] (aa 8 25) ?_;(refine jG (aa 8 27) 1 F (am F F) ?_);refine jA 2 F ?_;(refine jO fun _=>?_);refine jS (aa 8 31) ?_;refine jT 0 [5,6,7] (aa 8 255) ?_;refine jQ ?_))
   all_goals
    rename_i y
    refine Nx.sealC (b:=y) fun G2 hG2 hsy=>?_
    refine jZ (vs:=[_,_,_]) F ⟨F,F,F,trivial⟩ F ⟨hG2,F,?_⟩
    rw [aB]
    exact ⟨_,_,_,F,fun _=>⟨_,y,F,F,.non k y hsy⟩,fun h=>(by cases h)⟩
  ·rw [pN h0 h1]
   refine jB [(0,_),(1,_),(2,_),(3,_)] Tryz.func121 Tryz.ntmps121 fun B hok hB hW=>?_
   repeat' (first | refine jM ?_ | (refine jo ?_;first | refine jO fun _=>?_ | refine aq F ?_) | refine al F F F ?_ | (refine ac F (by first | rfl | (refine decide_eq_true ?_;(omega))) ?_) | (refine ad F (by first | rfl | (refine decide_eq_false ?_;(omega))) ?_))
   all_goals refine jZ (vs:=[_,_,_]) F ⟨F,F,F,trivial⟩ F ⟨Gh.le.refl _,F,?_⟩
   all_goals (rw [aB];exact ⟨_,_,_,F,fun h=>(by cases h),fun _=>rfl⟩)
theorem jP {t : Ty} (hw : TyW t) : bK t.fields 0 = none:=by
 cases h : bK t.fields 0 with
 | none=>rfl
 | some d =>
  obtain ⟨j,hj,_,hjt,_⟩:=em h
  have:=(hw.fld _ (bR hj)).tag
  omega
theorem s9 {ts : List Ty} {k : act} {v : Value} {G' : Gh} (h : ck ts none k v G') : ∃ q1 r1,v = Tu [.pointer q1,S r1,Bo false]:=by
 obtain ⟨q,r,ok,rfl,h1,h2⟩:=h
 cases ok with
 | false=>exact ⟨q,r,F⟩
 | true=>obtain ⟨w,b,_,h3,_⟩:=h1 rfl;cases h3
theorem pk {ts : List Ty} {k r : act} {x : V} {v : Value} {G' : Gh} (h : ck ts (some (x,r)) k v G') : ∃ wb,v = Tu [Pt wb 0,S r,Bo true] ∧ RepR G' ts x k wb:=by
 obtain ⟨q,r,ok,rfl,h1,h2⟩:=h
 cases ok with
 | false=>cases h2 rfl
 | true =>
  obtain ⟨w,b,rfl,h3,h4⟩:=h1 rfl
  cases h3
  exact ⟨b,F,h4⟩
theorem fK {ts : List Ty} {k : act} {q : Option Addr} {r : act} {G' : Gh} {f : Option (V × act)} (h : f = none) : ck ts f k (Tu [.pointer q,S r,Bo false]) G':=⟨_,_,_,rfl,fun h=>(by cases h),fun _=>h⟩
theorem oE {ts : List Ty} {k : act} {b : Nat} {r : act} {G' : Gh} {f : Option (V × act)} {w : V} (h : f = some (w,r)) (hr : RepR G' ts w k b) : ck ts f k (Tu [Pt b 0,S r,Bo true]) G':=⟨_,_,_,rfl,fun _=>⟨w,b,rfl,h,hr⟩,fun h=>(by cases h)⟩
theorem nK {n : Nat} {u : Value} {vs : List bL} {k s : act} (hR : lC n u vs) (h : SchR G u vs) (hk : aJ (af vs) k = true) (hs : s.length ≤ 1000) (hn : n ≤ 1000) (hf : cP (rb (af vs) n) k s = none) :
  bx acs 84 [Ag [u],S s,S k,I (n : Nat)] G (fun v _=>∃ q,v = Tu [.pointer q,Bo false]):=by
 have hkk:=cQ (c7 hk)
 have hop:=hR G k s h hk hs
 cases hg : rb (af vs) n k s with
 | none =>
  rw [hg] at hop
  have cx_gt0 : bx acs 121 [Ag [u],S s,S k,I (n : Nat)] G (fun v _=>∃ q1 r1,v = Tu [.pointer q1,S r1,Bo false]):=hop.mono fun v G' L' h=>⟨h.1,h.2.1,s9 h.2.2⟩
  clear hop
  refine jB [(0,_),(1,_),(2,_),(3,_)] Tryz.func84 Tryz.ntmps84 fun B hok hB hW=>?_
  repeat' (first | refine jR ?_ | (refine jo ?_;first | refine jO fun _=>?_ | refine aV F ?_ | refine aq F ?_ | (refine aM F F F cx_gt0 F ?_;rintro _ G hle ⟨q1,r1,rfl⟩;skip)) | refine al F F F ?_)
  all_goals refine jZ (vs:=[_,_]) F ⟨F,F,trivial⟩ F ⟨hle,F,?_⟩
  all_goals exact ⟨_,F⟩
 | some x =>
  obtain ⟨w,r⟩:=x
  rw [hg] at hop
  have cx_gt1 : bx acs 121 [Ag [u],S s,S k,I (n : Nat)] G (fun v G'=>∃ wb,v = Tu [Pt wb 0,S r,Bo true] ∧ RepR G' (af vs) w k wb):=hop.mono fun v G' L' h=>⟨h.1,h.2.1,pk h.2.2⟩
  clear hop
  cases r with
  | nil=>rw [fZ hg] at hf;cases hf
  | cons e r =>
   refine jB [(0,_),(1,_),(2,_),(3,_)] Tryz.func84 Tryz.ntmps84 fun B hok hB hW=>?_
   repeat' (first | refine jR ?_ | (refine jo ?_;first | refine jO fun _=>?_ | refine aV F ?_ | refine aE F ?_ | (refine aM F F F cx_gt1 F ?_;rintro _ G hle ⟨wb,rfl,hrep⟩;skip)) | refine aw F F F ?_)
   all_goals refine jZ (vs:=[_,_]) F ⟨F,F,trivial⟩ F ⟨hle,F,?_⟩
   all_goals exact ⟨_,F⟩
theorem ll {n : Nat} {u : Value} {vs : List bL} {k s : act} {w : V} (hR : lC n u vs) (h : SchR G u vs) (hk : aJ (af vs) k = true) (hs : s.length ≤ 1000) (hn : n ≤ 1000) (hf : cP (rb (af vs) n) k s = some w) :
  bx acs 84 [Ag [u],S s,S k,I (n : Nat)] G (fun v G'=>∃ wb,v = Tu [Pt wb 0,Bo true] ∧ RepR G' (af vs) w k wb):=by
 have hop:=hR G k s h hk hs
 rw [cN hf] at hop
 have cx_gt1 : bx acs 121 [Ag [u],S s,S k,I (n : Nat)] G (fun v G'=>∃ wb,v = Tu [Pt wb 0,S [],Bo true] ∧ RepR G' (af vs) w k wb):=hop.mono fun v G' L' h=>⟨h.1,h.2.1,pk h.2.2⟩
 clear hop
 refine jB [(0,_),(1,_),(2,_),(3,_)] Tryz.func84 Tryz.ntmps84 fun B hok hB hW=>?_
 repeat' (first | refine jR ?_ | (refine jo ?_;first | refine jO fun _=>?_ | refine aV F ?_ | refine aE F ?_ | (refine aM F F F cx_gt1 F ?_;rintro _ G hle ⟨wb,rfl,hrep⟩;skip)) | refine aw F F F ?_)
 all_goals refine jZ (vs:=[_,_]) F ⟨F,F,trivial⟩ F ⟨hle,F,?_⟩
 all_goals exact ⟨_,F,hrep⟩
abbrev uN : TypeId:=60
abbrev acd : TypeId:=114
theorem yH {n : Nat} {u : Value} {vs : List bL} {k s : act} {m : Nat} (hR : lC n u vs) (h : SchR G u vs) (hk : aJ (af vs) (91 :: k) = true) (hs : s.length ≤ 1000) (hn : n ≤ 999) (hm : m ≤ 999999) :
  bx acs 158 [Ag [u],S s,S (91 :: k),I (m : Nat),I (n + 1 : Nat)] G (ck (af vs) (if m ≤ 20 then (bA (rb (af vs) n k) m s []).map fun x=>(.nd 91 [] 0 x.1,x.2) else none) (91 :: k)):=by
 have edn : ((n + 1 : Nat) : Int) - 1 = (n : Nat):=oM
 have hki:=dx (.inl rfl) hk
 have hkk:=cQ (c7 hk)
 have hkl:=hkk.2
 simp only [List.length_cons] at hkl
 have hkl2 : (91 :: k).length = k.length + 1:=rfl
 by_cases h20 : m ≤ 20
 case neg =>
  rw [if_neg h20]
  refine jB [(0,_),(1,_),(2,_),(3,_),(4,_)] Tryz.func158 Tryz.ntmps158 fun B hok hB hW=>?_
  repeat' (first | refine jR ?_ | (refine jo ?_;first | refine jO fun _=>?_ | refine jV (am F F) ?_) | refine ac F (ar oM) ?_)
  all_goals refine jZ (vs:=[_,_,_]) F ⟨F,F,F,trivial⟩ F ⟨Gh.le.refl _,F,?_⟩
  all_goals exact fK F
 rw [if_pos h20]
 refine jB [(0,_),(1,_),(2,_),(3,_),(4,_)] Tryz.func158 Tryz.ntmps158 fun B hok hB hW=>?_
 repeat' (first | refine jR ?_ | (refine jo ?_;first | refine jO fun _=>?_ | refine jV (am F F) ?_) | refine ad F (ay oM) ?_)
 rename_i xr y
 refine Nx.addNil uN 1 ?_
 refine aR (ι:=List V × List Nat × Option Addr × Nat × act × Gh) (fun q=>((q.2.1.length = q.1.length ∧ ∀ i,i < q.1.length → RepR q.2.2.2.2.2 (af vs) (ae q.1 i) k (ae q.2.1 i)) ∧ Gh.le G q.2.2.2.2.2) ∧ (bA (rb (af vs) n k) m s [] = bA (rb (af vs) n k) (m - q.1.length) q.2.2.2.2.1 q.1 ∧ q.1.length ≤ m) ∧ q.2.2.2.2.1.length ≤ s.length) (fun q=>[(1,S q.2.2.2.2.1),(2,S (91 :: k)),(3,I (m : Nat)),(4,I (n + 1 : Nat)),(5,Pt xr 0),(13,Pt y 0),(14,I (q.1.length : Nat))]) (fun q=>q.2.2.2.2.2) (fun q=>[.acc (.slice q.2.2.1 q.1.length q.2.2.2.1) uN 1 q.1.length (aI eC q.2.1),.blk y (.cells (List.toArray [S (91 :: k),S [],aH,.slice q.2.2.1 q.1.length q.2.2.2.1]) pG (0,0)),.blk xr (.cells (List.toArray [u]) acd (0,0))]) (fun q=>m - q.1.length) ([],[],none,0,s,G) ?_ tU F aW (fun q Hq=>?_)
 ·exact ⟨⟨⟨F,fun i hi=>absurd hi (by simp)⟩,Gh.le.refl _⟩,⟨F,Nat.zero_le _⟩,Nat.le_refl _⟩
 obtain ⟨ws,bs,a,cap,t,Gq⟩:=q
 dsimp only at Hq ⊢
 obtain ⟨⟨⟨hbl,hreps⟩,hgq⟩,⟨hit,hwm⟩,htl⟩:=Hq
 by_cases hi : ws.length < m
 case neg =>
  have e0 : m - ws.length = 0:=oM
  rw [e0,bA] at hit
  repeat' (first | refine jR ?_ | refine ad F (ay oM) ?_)
  all_goals
   refine Nx.sealS (v:=.slice a ws.length cap) fun G2 hG2 hsl=>?_
   refine Nx.sealC (b:=y) fun G3 hG3 hsg=>?_
   refine jZ (vs:=[_,_,_]) F ⟨F,F,F,trivial⟩ F ⟨((hgq.trans hG2).trans hG3),F,?_⟩
   exact oE (by rw [hit];rfl) (.lst k y ws bs a cap hsg (hsl.mono hG3) hbl (fun i hi=>(hreps i hi).mono (hG2.trans hG3)))
 obtain ⟨m',hm'⟩ : ∃ m',m - ws.length = m' + 1:=⟨m - ws.length - 1,oM⟩
 rw [hm'] at hit
 have hop:=hR Gq k t (h.mono hgq) hki oM
 rw [← edn] at hop
 cases hf : rb (af vs) n k t with
 | none =>
  rw [hf] at hop
  have cx_gt0 : bx acs 121 [Ag [u],S t,S k,I (((n + 1 : Nat) : Int) - 1)] Gq (fun v _=>∃ q1 r1,v = Tu [.pointer q1,S r1,Bo false]):=hop.mono fun v G' L' h=>⟨h.1,h.2.1,s9 h.2.2⟩
  clear hop
  have hno2:=od (m:=m') (acc:=ws) hf
  repeat' (first | refine jR ?_ | (refine ac F (by first | rfl | (refine decide_eq_true ?_;(omega))) ?_) | (refine aj (an (id:=7) _ (fun _ h=>h) ai ?_);refine jW 9 [1,2,3,4,5] (aa 14 62) ?_;(refine jG (aa 14 63) 0 F (bJ F F F F) ?_);refine jA 6 F ?_;(refine aM F F F cx_gt0 F ?_;rintro _ G hle ⟨q1,r1,rfl⟩;skip);refine jS (aa 14 127) ?_;refine jT 0 [7,8,9,10,11,12,13] (aa 14 16383) ?_;refine jQ ?_))
  all_goals refine jZ (vs:=[_,_,_]) F ⟨F,F,F,trivial⟩ F ⟨(hgq.trans hle),F,?_⟩
  all_goals exact fK (by rw [hit,hno2];rfl)
 | some z =>
  obtain ⟨w,r'⟩:=z
  rw [hf] at hop
  have cx_gt1 : bx acs 121 [Ag [u],S t,S k,I (((n + 1 : Nat) : Int) - 1)] Gq (fun v G'=>∃ wb,v = Tu [Pt wb 0,S r',Bo true] ∧ RepR G' (af vs) w k wb):=hop.mono fun v G' L' h=>⟨h.1,h.2.1,pk h.2.2⟩
  clear hop
  have hsh:=oc _ _ _ _ _ hf
  have hstep:=lV (m:=m') (acc:=ws) hf
  have hwl1 : (ws ++ [w]).length = ws.length + 1:=by simp
  have hm2 : m - (ws ++ [w]).length = m':=by rw [hwl1];omega
  repeat' (first | refine jM ?_ | (refine jo ?_;first | refine ak F ?_ | refine jF fun _=>?_ | refine cj F F F F F F F F F oM fun _ _=>?_ | refine jD F F F ?_) | refine ac F (ar oM) ?_ | refine ad F F ?_ | (refine aj (an (id:=7) _ (fun _ h=>h) ai ?_);refine jW 9 [1,2,3,4,5] (aa 14 62) ?_;(refine jG (aa 14 63) 0 F (bJ F F F F) ?_);refine jA 6 F ?_;(refine aM F F F cx_gt1 F ?_;rintro _ G hle ⟨wb,rfl,hrep⟩;skip);refine jS (aa 14 127) ?_;refine jT 0 [7,8,9,10,11,12,13] (aa 14 16383) ?_;refine jQ ?_))
  have hgl:=hgq.trans hle
  have hrow : aI eC bs ++ [Pt wb 0] = aI eC (bs ++ [wb]):=(cl eC bs wb).symm
  have hbl1 : (bs ++ [wb]).length = (ws ++ [w]).length:=by simp [hbl]
  have hrp : ∀ i,i < (ws ++ [w]).length → RepR G (af vs) (ae (ws ++ [w]) i) k (ae (bs ++ [wb]) i):=fun i hi=>by
   by_cases h1 : i < ws.length
   ·have e1 : ae (ws ++ [w]) i = ae ws i:=by rw [aU hi,aU h1,List.getElem_append_left h1]
    have e2 : ae (bs ++ [wb]) i = ae bs i:=by rw [aU oM,aU oM,List.getElem_append_left oM]
    rw [e1,e2];exact (hreps i h1).mono hle
   ·have h2 : i = ws.length:=oM
    have e1 : ae (ws ++ [w]) i = w:=by rw [aU hi];simp [h2]
    have e2 : ae (bs ++ [wb]) i = wb:=by rw [aU oM];simp [h2,hbl]
    rw [e1,e2];exact hrep
  rename_i y0 y1 yc
  rw [hrow]
  refine Nx.re (d:=14) (v':=I ((ws ++ [w]).length : Nat)) F (congrArg (Value.int .i64) (by rw [hwl1];omega)) ?_
  exact aY (ws ++ [w],bs ++ [wb],some ⟨y1,0,none⟩,yc,r',G) ⟨⟨⟨hbl1,hrp⟩,hgl⟩,⟨(by dsimp only;rw [hit,hstep,hm2]),(by dsimp only;omega)⟩,(by dsimp only;omega)⟩ (by dsimp only;omega) tU rfl (by rw [hwl1];repeat (first | exact List.Sublist.refl _ | apply List.Sublist.cons_cons | apply List.Sublist.cons))
theorem aaI {n : Nat} {u : Value} {vs : List bL} {k s : act} {e : UInt8} (hR : lC n u vs) (h : SchR G u vs) (hk : aJ (af vs) (91 :: k) = true) (hs : s.length ≤ 999) (hn : n ≤ 999) (hkl : k.length ≤ 1000) :
  bx acs 121 [Ag [u],S (e :: s),S (91 :: k),I (n + 1 : Nat)] G (ck (af vs) (rb (af vs) (n + 1) (91 :: k) (e :: s)) (91 :: k)):=by
 have hel : (e :: s).length = s.length + 1:=rfl
 have hk0 : bt (91 :: k) (Int.toNat 0) = 91:=bh 91 k
 have hkl2 : (91 :: k).length = k.length + 1:=rfl
 rw [uX]
 have cx_ng0:=eN (G:=G) (s:=e :: s) oM
 cases hg : bj (e :: s) with
 | none =>
  rw [hg] at cx_ng0
  have cx_ng : av acs 106 [S (e :: s)] G (· = Tu [I 0,S [],Bo false]):=cx_ng0
  refine jB [(0,_),(1,_),(2,_),(3,_)] Tryz.func121 Tryz.ntmps121 fun B hok hB hW=>?_
  repeat' (first | refine jM ?_ | (refine jo ?_;first | refine jO fun _=>?_ | refine aq F ?_ | refine ab F F F cx_ng F ?_) | refine al F F F ?_ | refine ac F F ?_ | refine ad F F ?_)
  all_goals refine jZ (vs:=[_,_,_]) F ⟨F,F,F,trivial⟩ F ⟨Gh.le.refl _,F,?_⟩
  all_goals exact fK F
 | some z =>
  obtain ⟨m0,r⟩:=z
  obtain ⟨h0,h1,_⟩:=cF hg
  have hl:=bT hg
  rw [hg] at cx_ng0
  obtain ⟨m,rfl⟩ : ∃ m : Nat,m0 = (m : Int):=⟨m0.toNat,oM⟩
  have cx_ng : av acs 106 [S (e :: s)] G (· = Tu [I (m : Nat),S r,Bo true]):=cx_ng0
  clear cx_ng0
  have cx_som:=yH (G:=G) (m:=m) (s:=r) hR h hk oM hn oM
  have hres : (if (m : Int) ≤ 20 then (bA (rb (af vs) n k) (m : Int).toNat r []).map (fun x=>(V.nd 91 [] 0 x.1,x.2)) else none) = if m ≤ 20 then (bA (rb (af vs) n k) m r []).map (fun x=>(V.nd 91 [] 0 x.1,x.2)) else none:=by
   rw [Int.toNat_natCast]
   by_cases h20 : m ≤ 20
   ·rw [if_pos h20,if_pos oM]
   ·rw [if_neg h20,if_neg oM]
  dsimp only
  rw [hres]
  generalize (if m ≤ 20 then (bA (rb (af vs) n k) m r []).map (fun x=>(V.nd 91 [] 0 x.1,x.2)) else none) = o at cx_som ⊢
  refine jB [(0,_),(1,_),(2,_),(3,_)] Tryz.func121 Tryz.ntmps121 fun B hok hB hW=>?_
  repeat' (first | refine jM ?_ | (refine jo ?_;first | refine jO fun _=>?_ | refine aq F ?_ | refine aV F ?_ | refine ab F F F cx_ng F ?_ | (refine aM F F F cx_som F ?_;rintro _ G hle ⟨q1,r1,ok1,rfl,hyes,hno⟩;skip)) | refine al F F F ?_ | refine ac F F ?_ | refine ad F F ?_)
  all_goals refine jZ (vs:=[_,_,_]) F ⟨F,F,F,trivial⟩ F ⟨hle,F,?_⟩
  all_goals (rw [aB];exact ⟨_,_,_,F,hyes,hno⟩)
abbrev uP : TypeId:=3
abbrev uO : TypeId:=60
abbrev aa3 : TypeId:=114
abbrev aa2 : TypeId:=146
def ou (gs : List (Fld × V)) : List V:=gs.map cY
theorem vU {n : Nat} {u : Value} {vs : List bL} {a : Option Addr} {ca : Nat} {nm : act} {fs : List Fld} {k s : act} (hR : lC n u vs) (h : SchR G u vs) (hw : SchW (af vs)) (hr : dU vs (64 :: k) = some ((a,ca),⟨82,nm,fs⟩)) (hk : dX (64 :: k) = true) (hkl : k.length ≤ 999) (hs : s.length ≤ 1000) (hn : n ≤ 999) :
  bx acs 194 [Ag [u],S s,S (64 :: k),Ag [U8 (82 : Nat),S nm,.slice a fs.length ca],I (n + 1 : Nat)] G (ck (af vs) ((bH (af vs) (rb (af vs) n) ⟨82,nm,fs⟩ (s.length + 1) 0 s []).map fun x=>(.nd 82 [] 0 x.1,x.2)) (64 :: k)):=by
 have edn : ((n + 1 : Nat) : Int) - 1 = (n : Nat):=oM
 have hkl2 : (64 :: k).length = k.length + 1:=rfl
 have hvl : vs.length ≤ 8:=by have:=hw.len;unfold af at this;simpa using this
 have href:=dP vs (64 :: k)
 rw [hr] at href
 have hxm:=er hr
 have hxt : (⟨82,nm,fs⟩ : Ty) ∈ af vs:=List.mem_map_of_mem hxm
 have hTW:=hw.ty _ hxt
 have hfl:=hTW.len
 dsimp only at hfl
 refine jB [(0,_),(1,_),(2,_),(3,_),(4,_)] Tryz.func194 Tryz.ntmps194 fun B hok hB hW=>?_
 repeat' (first | refine jR ?_ | (refine jo ?_;first | refine jO fun _=>?_ | refine jV (am F F) ?_))
 rename_i xr xt y
 refine Nx.addNil uP 1 (Nx.addNil uO 1 ?_)
 refine aR (ι:=List (Fld × V) × List Nat × Option Addr × Nat × Option Addr × Nat × act × Nat × Int × Gh) (fun q=>((q.2.1.length = q.1.length ∧ (∀ i,i < q.1.length → (ae q.1 i).1 ∈ fs) ∧ ∀ i,i < q.1.length → RepR q.2.2.2.2.2.2.2.2.2 (af vs) (ae q.1 i).2 (ae q.1 i).1.kind (ae q.2.1 i)) ∧ Gh.le G q.2.2.2.2.2.2.2.2.2) ∧ (bH (af vs) (rb (af vs) n) ⟨82,nm,fs⟩ (s.length + 1) 0 s [] = bH (af vs) (rb (af vs) n) ⟨82,nm,fs⟩ q.2.2.2.2.2.2.2.1 q.2.2.2.2.2.2.2.2.1 q.2.2.2.2.2.2.1 (ou q.1) ∧ q.2.2.2.2.2.2.1.length < q.2.2.2.2.2.2.2.1) ∧ q.1.length + q.2.2.2.2.2.2.1.length ≤ s.length ∧ (0 ≤ q.2.2.2.2.2.2.2.2.1 ∧ q.2.2.2.2.2.2.2.2.1 ≤ 999999)) (fun q=>[(1,S q.2.2.2.2.2.2.1),(2,S (64 :: k)),(4,I (n + 1 : Nat)),(5,Pt xr 0),(8,Pt xt 0),(13,Pt y 0),(14,I q.2.2.2.2.2.2.2.2.1)]) (fun q=>q.2.2.2.2.2.2.2.2.2) (fun q=>[.acc (.slice q.2.2.2.2.1 q.1.length q.2.2.2.2.2.1) uO 1 q.1.length (aI eC q.2.1),.acc (.slice q.2.2.1 q.1.length q.2.2.2.1) uP 1 q.1.length (aI gk (q.1.map fun p=>p.1.tag)),.blk y (.cells (List.toArray [S (64 :: k),S [82],.slice q.2.2.1 q.1.length q.2.2.2.1,.slice q.2.2.2.2.1 q.1.length q.2.2.2.2.2.1]) pG (0,0)),.blk xt (.cells (List.toArray [U8 (82 : Nat),S nm,.slice a fs.length ca]) aa2 (0,0)),.blk xr (.cells (List.toArray [u]) aa3 (0,0))]) (fun q=>q.2.2.2.2.2.2.1.length) ([],[],none,0,none,0,s,s.length + 1,0,G) ?_ tU F aW (fun q Hq=>?_)
 ·exact ⟨⟨⟨F,fun i hi=>absurd hi (by simp),fun i hi=>absurd hi (by simp)⟩,Gh.le.refl _⟩,⟨F,Nat.lt_succ_self _⟩,by simp,Int.le_refl 0,by show (0 : Int) ≤ 999999;omega⟩
 obtain ⟨gs,bs,a1,c1,a2,c2,t,m,la,Gq⟩:=q
 dsimp only at Hq ⊢
 obtain ⟨⟨⟨hbl,hfm,hreps⟩,hgq⟩,⟨hit,htm⟩,hwt,hla0,hla1⟩:=Hq
 obtain ⟨m,rfl⟩ : ∃ m',m = m' + 1:=⟨m - 1,oM⟩
 have cx_ng0:=eN (G:=Gq) (s:=t) oM
 cases hg : bj t with
 | none =>
  rw [hg] at cx_ng0
  have cx_ng : av acs 106 [S t] Gq (· = Tu [I 0,S [],Bo false]):=cx_ng0
  clear cx_ng0
  rw [ol hg] at hit
  repeat' (first | refine jR ?_ | (refine jo ?_;refine ab F F F cx_ng F ?_) | refine ac F F ?_)
  all_goals refine jZ (vs:=[_,_,_]) F ⟨F,F,F,trivial⟩ F ⟨hgq,F,?_⟩
  all_goals exact fK (by rw [hit];rfl)
 | some z =>
  obtain ⟨tg,r⟩:=z
  obtain ⟨h0,h1,_⟩:=cF hg
  have hl:=bT hg
  rw [hg] at cx_ng0
  have cx_ng : av acs 106 [S t] Gq (· = Tu [I tg,S r,Bo true]):=cx_ng0
  clear cx_ng0
  by_cases htz : tg = 0
  ·subst htz
   rw [qZ hg] at hit
   repeat' (first | refine jR ?_ | (refine jo ?_;refine ab F F F cx_ng F ?_) | refine ac F F ?_ | refine ad F F ?_)
   all_goals
    refine Nx.sealS (v:=.slice a1 gs.length c1) fun G2 hG2 hs1=>?_
    refine Nx.sealS (v:=.slice a2 gs.length c2) fun G3 hG3 hs2=>?_
    refine Nx.sealC (b:=y) fun G4 hG4 hsg=>?_
    refine jZ (vs:=[_,_,_]) F ⟨F,F,F,trivial⟩ F ⟨(((hgq.trans hG2).trans hG3).trans hG4),F,?_⟩
    exact oE (by rw [hit];rfl) (.recd (64 :: k) y ⟨82,nm,fs⟩ gs bs a1 a2 c1 c2 ⟨href.symm,rfl⟩ hsg ((hs1.mono hG3).mono hG4) (hs2.mono hG4) hbl hfm (fun i hi=>(hreps i hi).mono ((hG2.trans hG3).trans hG4)))
  have cx_tk0:=nO (G:=Gq) (s:=r) oM
  cases ht : cd r with
  | none =>
   rw [ht] at cx_tk0
   have cx_tk : av acs 68 [S r] Gq (· = Tu [S [],S [],Bo false]):=cx_tk0
   clear cx_tk0
   rw [kW hg htz ht] at hit
   repeat' (first | refine jR ?_ | (refine jo ?_;first | refine aE F ?_ | refine ab F F F cx_ng F ?_ | refine ab F F F cx_tk F ?_) | refine aw F F F ?_ | refine ac F F ?_ | (refine ad F (by first | rfl | (refine decide_eq_false ?_;(assumption))) ?_))
   all_goals refine jZ (vs:=[_,_,_]) F ⟨F,F,F,trivial⟩ F ⟨hgq,F,?_⟩
   all_goals exact fK (by rw [hit];rfl)
  | some z =>
   obtain ⟨p,r'⟩:=z
   have hl2:=dZ ht
   rw [ht] at cx_tk0
   have cx_tk : av acs 68 [S r] Gq (· = Tu [S p,S r',Bo true]):=cx_tk0
   clear cx_tk0
   by_cases hlast : tg ≤ la
   ·rw [oi hg htz ht hlast] at hit
    repeat' (first | refine jR ?_ | (refine jo ?_;first | refine aq F ?_ | refine ab F F F cx_ng F ?_ | refine ab F F F cx_tk F ?_) | refine al F F F ?_ | refine ac F (ar ‹_›) ?_ | (refine ad F (by first | rfl | (refine decide_eq_false ?_;(assumption))) ?_))
    all_goals refine jZ (vs:=[_,_,_]) F ⟨F,F,F,trivial⟩ F ⟨hgq,F,?_⟩
    all_goals exact fK (by rw [hit];rfl)
   have cx_f0:=g5 (G:=Gq) (x:=((a,ca),⟨82,nm,fs⟩)) (tag:=tg) ((h.mono hgq).fl _ hxm) (by dsimp only;omega)
   cases hd : bK fs tg with
   | none =>
    rw [hd] at cx_f0
    have cx_fld : av acs 161 [Ag [U8 (82 : Nat),S nm,.slice a fs.length ca],I tg] Gq (· = Tu [Ag [I 0,S [],S [],S []],Bo false]):=cx_f0
    clear cx_f0
    rw [m1 hg htz ht hlast hd] at hit
    repeat' (first | refine jR ?_ | (refine jo ?_;first | refine aq F ?_ | refine aV F ?_ | refine jL fun _=>?_ | refine jC F F F ?_ | refine ab F F F cx_ng F ?_ | refine ab F F F cx_tk F ?_ | refine ab F F F cx_fld F ?_) | refine al F F F ?_ | refine ac F F ?_ | (refine ad F (by first | rfl | (refine decide_eq_false ?_;(assumption))) ?_))
    all_goals exact aY (gs,bs,a1,c1,a2,c2,r',m,tg,Gq) ⟨⟨⟨hbl,hfm,hreps⟩,hgq⟩,⟨hit,by dsimp only;omega⟩,by dsimp only;omega,h0,h1⟩ (by dsimp only;omega) tU rfl sB
   | some d =>
    rw [hd] at cx_f0
    have cx_fld : av acs 161 [Ag [U8 (82 : Nat),S nm,.slice a fs.length ca],I tg] Gq (· = Tu [Ag [I d.tag,S d.name,S d.kind,S d.stand],Bo true]):=cx_f0
    clear cx_f0
    have hdm : d ∈ fs:=List.mem_of_find?_eq_some hd
    have hdt : d.tag = tg:=(ik hd).1
    have hdk : aJ (af vs) d.kind = true:=dQ hw hxt (by dsimp only;omega) hdm
    cases hf : cP (rb (af vs) n) d.kind p with
    | none =>
     have cx_wh0:=nK (G:=Gq) hR (h.mono hgq) hdk oM oM hf
     rw [← edn] at cx_wh0
     rw [oh hg htz ht hlast hd hf] at hit
     repeat' (first | refine jM ?_ | (refine jo ?_;first | refine aq F ?_ | refine ak F ?_ | refine aV F ?_ | refine jL fun _=>?_ | refine jC F F F ?_ | refine ab F F F cx_ng F ?_ | refine ab F F F cx_tk F ?_ | refine ab F F F cx_fld F ?_ | (refine aM F F F cx_wh0 F ?_;rintro _ G hle ⟨q1,rfl⟩;skip)) | refine al F F F ?_ | refine ac F F ?_ | (refine ad F (by first | rfl | (refine decide_eq_false ?_;(assumption))) ?_))
     all_goals refine jZ (vs:=[_,_,_]) F ⟨F,F,F,trivial⟩ F ⟨(hgq.trans hle),F,?_⟩
     all_goals exact fK (by rw [hit];rfl)
    | some w =>
     have cx_wh1:=ll (G:=Gq) hR (h.mono hgq) hdk oM oM hf
     rw [← edn] at cx_wh1
     have htot:=i7 _ _ _ _ _ (cN hf)
     simp only [List.length_nil] at htot
     rw [og hg htz ht hlast hd hf] at hit
     repeat' (first | refine jM ?_ | (refine jo ?_;first | refine aq F ?_ | refine ak F ?_ | refine aV F ?_ | refine jL fun _=>?_ | refine jC F F F ?_ | refine ab F F F cx_ng F ?_ | refine ab F F F cx_tk F ?_ | refine ab F F F cx_fld F ?_ | (refine aM F F F cx_wh1 F ?_;rintro _ G hle ⟨wb,rfl,hrep⟩;skip)) | refine al F F F ?_ | (refine ad F (by first | rfl | (refine decide_eq_false ?_;(assumption))) ?_))
     have hgl:=hgq.trans hle
     have cx_out:=io hw hrep oM
     have cx_sta:=nN (f:=d) (h.mono hgl) hw hdk
     have hl' : (gs ++ [(d,w)]).length = gs.length + 1:=by simp
     have hbl' : (bs ++ [wb]).length = (gs ++ [(d,w)]).length:=by simp [hbl]
     by_cases heq : w.out = cT (af vs) d
     ·rw [if_pos heq] at hit
      repeat' (first | refine jR ?_ | (refine ad F ?_ ?_;(focus ((simp [*];done);done))) | (refine aj (an (id:=18) _ (fun _ h=>h) ai ?_);refine jT 5 [0,2] (aa 7 5) ?_;(refine jG (aa 7 13) 3 F (aA F F F) ?_);(refine jG (aa 7 29) 4 F (bJ F F F F) ?_);refine jA 1 F ?_;(refine ab F F F cx_out F ?_);refine jS (aa 7 31) ?_;refine jA 5 F ?_;(refine ab F F F cx_sta F ?_);refine jS (aa 7 63) ?_;refine jT 0 [6] (aa 7 127) ?_;refine jQ ?_))
      all_goals exact aY (gs,bs,a1,c1,a2,c2,r',m,tg,G) ⟨⟨⟨hbl,hfm,fun i hi=>(hreps i hi).mono hle⟩,hgl⟩,⟨hit,by dsimp only;omega⟩,by dsimp only;omega,h0,h1⟩ (by dsimp only;omega) tU rfl sB
     ·rw [if_neg heq] at hit
      have hnth : ∀ i,i < (gs ++ [(d,w)]).length → (i < gs.length ∧ ae (gs ++ [(d,w)]) i = ae gs i ∧ ae (bs ++ [wb]) i = ae bs i) ∨ (ae (gs ++ [(d,w)]) i = (d,w) ∧ ae (bs ++ [wb]) i = wb):=fun i hi=>by
       by_cases h1 : i < gs.length
       ·exact .inl ⟨h1,by rw [aU hi,aU h1,List.getElem_append_left h1],by rw [aU oM,aU oM,List.getElem_append_left oM]⟩
       ·have h2 : i = gs.length:=oM
        exact .inr ⟨by rw [aU hi];simp [h2],by rw [aU oM];simp [h2,hbl]⟩
      have hfm' : ∀ i,i < (gs ++ [(d,w)]).length → (ae (gs ++ [(d,w)]) i).1 ∈ fs:=fun i hi=>by
       rcases hnth i hi with ⟨h1,h2,_⟩ | ⟨h2,_⟩
       ·rw [h2];exact hfm i h1
       ·rw [h2];exact hdm
      have hreps' : ∀ i,i < (gs ++ [(d,w)]).length → RepR G (af vs) (ae (gs ++ [(d,w)]) i).2 (ae (gs ++ [(d,w)]) i).1.kind (ae (bs ++ [wb]) i):=fun i hi=>by
       rcases hnth i hi with ⟨h1,h2,h3⟩ | ⟨h2,h3⟩
       ·rw [h2,h3];exact (hreps i h1).mono hle
       ·rw [h2,h3];exact hrep
      have hnd : ou (gs ++ [(d,w)]) = ou gs ++ [.nd 61 [] d.tag [w]]:=by simp [ou]
      have hrow1 : aI gk (gs.map fun p=>p.1.tag) ++ [I tg] = aI gk ((gs ++ [(d,w)]).map fun p=>p.1.tag):=by rw [← hdt,List.map_append];exact (cl gk _ d.tag).symm
      have hrow2 : aI eC bs ++ [Pt wb 0] = aI eC (bs ++ [wb]):=(cl eC bs wb).symm
      repeat' (first | refine jR ?_ | (refine jo ?_;first | refine ak F ?_ | refine jD F F F ?_ | refine jF fun _=>?_ | refine cj F F F F F F F F F oM fun _ _=>?_) | refine ac F (ar ‹_›) ?_ | (refine aj (an (id:=18) _ (fun _ h=>h) ai ?_);refine jT 5 [0,2] (aa 7 5) ?_;(refine jG (aa 7 13) 3 F (aA F F F) ?_);(refine jG (aa 7 29) 4 F (bJ F F F F) ?_);refine jA 1 F ?_;(refine ab F F F cx_out F ?_);refine jS (aa 7 31) ?_;refine jA 5 F ?_;(refine ab F F F cx_sta F ?_);refine jS (aa 7 63) ?_;refine jT 0 [6] (aa 7 127) ?_;refine jQ ?_))
      all_goals
       rename_i _ y1 yc1 _ y2 yc2
       rw [hrow1,hrow2]
       exact aY (gs ++ [(d,w)],bs ++ [wb],some ⟨y1,0,none⟩,yc1,some ⟨y2,0,none⟩,yc2,r',m,tg,G) ⟨⟨⟨hbl',hfm',hreps'⟩,hgl⟩,⟨(by dsimp only;rw [hit,hnd]),(by dsimp only;omega)⟩,(by dsimp only;omega),h0,h1⟩ (by dsimp only;omega) tU rfl (by rw [hl'];repeat (first | exact List.Sublist.refl _ | apply List.Sublist.cons_cons | apply List.Sublist.cons))
theorem aaK {n : Nat} {u : Value} {vs : List bL} {a : Option Addr} {ca : Nat} {nm : act} {fs : List Fld} {k s : act} (h : SchR G u vs) (hw : SchW (af vs)) (hr : dU vs (64 :: k) = some ((a,ca),⟨69,nm,fs⟩)) (hk : dX (64 :: k) = true) (hkl : k.length ≤ 999) (hs : s.length ≤ 1000) (hn : n ≤ 999) :
  bx acs 159 [Ag [u],S s,S (64 :: k),I (n + 1 : Nat)] G (ck (af vs) (bS (af vs) (rb (af vs) n) ⟨69,nm,fs⟩ s) (64 :: k)):=by
 have hk0 : bt (64 :: k) (Int.toNat 0) = 64:=bh 64 k
 have hkl2 : (64 :: k).length = k.length + 1:=rfl
 have hvl : vs.length ≤ 8:=by have:=hw.len;unfold af at this;simpa using this
 have href:=dP vs (64 :: k)
 rw [hr] at href
 have cx_rf:=gE (G:=G) (k:=64 :: k) h oM hk oM
 rw [hr] at cx_rf
 have cx_rf : av acs 160 [u,S (64 :: k)] G (· = Tu [Ag [U8 (69 : Nat),S nm,.slice a fs.length ca],Bo true]):=cx_rf
 have hxm:=er hr
 have hxt : (⟨69,nm,fs⟩ : Ty) ∈ af vs:=List.mem_map_of_mem hxm
 have hTW:=hw.ty _ hxt
 have hfl:=hTW.len
 dsimp only at hfl
 have hrd : bS (af vs) (rb (af vs) n) ⟨69,nm,fs⟩ s = match bj s with
   | none=>none
   | some (m,r)=>match bK fs m with
    | none=>none
    | some d=>some (.nd 69 [] d.tag [],r):=by
  unfold bS
  rw [if_neg (by simp)]
  rcases bj s with _ | ⟨m,r⟩
  ·rfl
  ·dsimp only
   rcases bK fs m with _ | d
   ·rfl
   ·dsimp only;rw [if_pos rfl]
 rw [hrd]
 have cx_ng0:=eN (G:=G) (s:=s) oM
 cases hg : bj s with
 | none =>
  rw [hg] at cx_ng0
  have cx_ng : av acs 106 [S s] G (· = Tu [I 0,S [],Bo false]):=cx_ng0
  clear cx_ng0
  have cx_f0:=g5 (G:=G) (x:=((a,ca),⟨69,nm,fs⟩)) (tag:=0) (h.fl _ hxm) (by dsimp only;omega)
  have hd : bK fs 0 = none:=jP hTW
  rw [hd] at cx_f0
  have cx_fld : av acs 161 [Ag [U8 (69 : Nat),S nm,.slice a fs.length ca],I 0] G (· = Tu [Ag [I 0,S [],S [],S []],Bo false]):=cx_f0
  refine jB [(0,_),(1,_),(2,_),(3,_)] Tryz.func159 Tryz.ntmps159 fun B hok hB hW=>?_
  repeat' (first | refine jR ?_ | (refine jo ?_;first | refine jO fun _=>?_ | refine ak F ?_ | refine aV F ?_ | refine jL fun _=>?_ | refine jC F F F ?_ | refine aE F ?_ | refine ab F F F cx_rf F ?_ | refine ab F F F cx_ng F ?_ | refine ab F F F cx_fld F ?_) | refine aw F F F ?_ | refine ac F F ?_ | refine ad F F ?_)
  all_goals refine jZ (vs:=[_,_,_]) F ⟨F,F,F,trivial⟩ F ⟨Gh.le.refl _,F,?_⟩
  all_goals exact fK F
 | some z =>
  obtain ⟨m,r⟩:=z
  obtain ⟨h1,h2,_⟩:=cF hg
  have hl:=bT hg
  rw [hg] at cx_ng0
  have cx_ng : av acs 106 [S s] G (· = Tu [I m,S r,Bo true]):=cx_ng0
  clear cx_ng0
  have cx_f0:=g5 (G:=G) (x:=((a,ca),⟨69,nm,fs⟩)) (tag:=m) (h.fl _ hxm) (by dsimp only;omega)
  dsimp only
  cases hd : bK fs m with
  | none =>
   rw [hd] at cx_f0
   have cx_fld : av acs 161 [Ag [U8 (69 : Nat),S nm,.slice a fs.length ca],I m] G (· = Tu [Ag [I 0,S [],S [],S []],Bo false]):=cx_f0
   refine jB [(0,_),(1,_),(2,_),(3,_)] Tryz.func159 Tryz.ntmps159 fun B hok hB hW=>?_
   repeat' (first | refine jR ?_ | (refine jo ?_;first | refine jO fun _=>?_ | refine ak F ?_ | refine aV F ?_ | refine jL fun _=>?_ | refine jC F F F ?_ | refine aq F ?_ | refine ab F F F cx_rf F ?_ | refine ab F F F cx_ng F ?_ | refine ab F F F cx_fld F ?_) | refine al F F F ?_ | refine ac F F ?_ | refine ad F F ?_)
   all_goals refine jZ (vs:=[_,_,_]) F ⟨F,F,F,trivial⟩ F ⟨Gh.le.refl _,F,?_⟩
   all_goals exact fK F
  | some d =>
   rw [hd] at cx_f0
   have cx_fld : av acs 161 [Ag [U8 (69 : Nat),S nm,.slice a fs.length ca],I m] G (· = Tu [Ag [I d.tag,S d.name,S d.kind,S d.stand],Bo true]):=cx_f0
   have hdm : d ∈ fs:=List.mem_of_find?_eq_some hd
   have hdt : d.tag = m:=(ik hd).1
   refine jB [(0,_),(1,_),(2,_),(3,_)] Tryz.func159 Tryz.ntmps159 fun B hok hB hW=>?_
   repeat' (first | refine jR ?_ | (refine jo ?_;first | refine jO fun _=>?_ | refine ak F ?_ | refine aV F ?_ | refine jL fun _=>?_ | refine jC F F F ?_ | refine aq F ?_ | refine jF fun _=>?_ | refine jV (am F F) ?_ | refine ab F F F cx_rf F ?_ | refine ab F F F cx_ng F ?_ | refine ab F F F cx_fld F ?_) | refine al F F F ?_ | refine ac F F ?_ | refine ad F F ?_)
   all_goals
    rename_i y1 y8
    refine Nx.sealC (b:=y1) fun G2 hG2 hs1=>?_
    refine Nx.sealC (b:=y8) fun G3 hG3 hsg=>?_
    refine jZ (vs:=[_,_,_]) F ⟨F,F,F,trivial⟩ F ⟨(hG2.trans hG3),F,?_⟩
    rw [← hdt] at hs1
    exact oE F (.enm (64 :: k) y8 y1 ⟨69,nm,fs⟩ d ⟨href.symm,F⟩ hdm hsg (hs1.mono hG3))
theorem aaD {n : Nat} {u : Value} {vs : List bL} {a : Option Addr} {ca : Nat} {nm : act} {fs : List Fld} {k s : act} (hR : lC n u vs) (h : SchR G u vs) (hw : SchW (af vs)) (hr : dU vs (64 :: k) = some ((a,ca),⟨85,nm,fs⟩)) (hk : dX (64 :: k) = true) (hkl : k.length ≤ 999) (hs : s.length ≤ 1000) (hn : n ≤ 999) :
  bx acs 159 [Ag [u],S s,S (64 :: k),I (n + 1 : Nat)] G (ck (af vs) (bS (af vs) (rb (af vs) n) ⟨85,nm,fs⟩ s) (64 :: k)):=by
 have edn : ((n + 1 : Nat) : Int) - 1 = (n : Nat):=oM
 have hk0 : bt (64 :: k) (Int.toNat 0) = 64:=bh 64 k
 have hkl2 : (64 :: k).length = k.length + 1:=rfl
 have hvl : vs.length ≤ 8:=by have:=hw.len;unfold af at this;simpa using this
 have href:=dP vs (64 :: k)
 rw [hr] at href
 have cx_rf:=gE (G:=G) (k:=64 :: k) h oM hk oM
 rw [hr] at cx_rf
 have cx_rf : av acs 160 [u,S (64 :: k)] G (· = Tu [Ag [U8 (85 : Nat),S nm,.slice a fs.length ca],Bo true]):=cx_rf
 have hxm:=er hr
 have hxt : (⟨85,nm,fs⟩ : Ty) ∈ af vs:=List.mem_map_of_mem hxm
 have hTW:=hw.ty _ hxt
 have hfl:=hTW.len
 dsimp only at hfl
 have hrd : bS (af vs) (rb (af vs) n) ⟨85,nm,fs⟩ s = match bj s with
   | none=>none
   | some (m,r)=>match bK fs m with
    | none=>none
    | some d=>match cd r with
     | none=>none
     | some (p,r')=>(cP (rb (af vs) n) d.kind p).map fun v=>(.nd 85 [] d.tag [v],r'):=by
  unfold bS
  rw [if_neg (by simp)]
  rcases bj s with _ | ⟨m,r⟩
  ·rfl
  ·dsimp only
   rcases bK fs m with _ | d
   ·rfl
   ·dsimp only;rw [if_neg (by simp)]
    all_goals (rcases cd r with _ | ⟨p,r'⟩ <;> rfl)
 rw [hrd]
 have cx_ng0:=eN (G:=G) (s:=s) oM
 cases hg : bj s with
 | none =>
  rw [hg] at cx_ng0
  have cx_ng : av acs 106 [S s] G (· = Tu [I 0,S [],Bo false]):=cx_ng0
  clear cx_ng0
  have cx_f0:=g5 (G:=G) (x:=((a,ca),⟨85,nm,fs⟩)) (tag:=0) (h.fl _ hxm) (by dsimp only;omega)
  have hd : bK fs 0 = none:=jP hTW
  rw [hd] at cx_f0
  have cx_fld : av acs 161 [Ag [U8 (85 : Nat),S nm,.slice a fs.length ca],I 0] G (· = Tu [Ag [I 0,S [],S [],S []],Bo false]):=cx_f0
  refine jB [(0,_),(1,_),(2,_),(3,_)] Tryz.func159 Tryz.ntmps159 fun B hok hB hW=>?_
  repeat' (first | refine jR ?_ | (refine jo ?_;first | refine jO fun _=>?_ | refine ak F ?_ | refine aV F ?_ | refine jL fun _=>?_ | refine jC F F F ?_ | refine aE F ?_ | refine ab F F F cx_rf F ?_ | refine ab F F F cx_ng F ?_ | refine ab F F F cx_fld F ?_) | refine aw F F F ?_ | refine ac F F ?_ | refine ad F F ?_)
  all_goals refine jZ (vs:=[_,_,_]) F ⟨F,F,F,trivial⟩ F ⟨Gh.le.refl _,F,?_⟩
  all_goals exact fK F
 | some z =>
  obtain ⟨m,r⟩:=z
  obtain ⟨h1,h2,_⟩:=cF hg
  have hl:=bT hg
  rw [hg] at cx_ng0
  have cx_ng : av acs 106 [S s] G (· = Tu [I m,S r,Bo true]):=cx_ng0
  clear cx_ng0
  have cx_f0:=g5 (G:=G) (x:=((a,ca),⟨85,nm,fs⟩)) (tag:=m) (h.fl _ hxm) (by dsimp only;omega)
  dsimp only
  cases hd : bK fs m with
  | none =>
   rw [hd] at cx_f0
   have cx_fld : av acs 161 [Ag [U8 (85 : Nat),S nm,.slice a fs.length ca],I m] G (· = Tu [Ag [I 0,S [],S [],S []],Bo false]):=cx_f0
   refine jB [(0,_),(1,_),(2,_),(3,_)] Tryz.func159 Tryz.ntmps159 fun B hok hB hW=>?_
   repeat' (first | refine jR ?_ | (refine jo ?_;first | refine jO fun _=>?_ | refine ak F ?_ | refine aV F ?_ | refine jL fun _=>?_ | refine jC F F F ?_ | refine aq F ?_ | refine ab F F F cx_rf F ?_ | refine ab F F F cx_ng F ?_ | refine ab F F F cx_fld F ?_) | refine al F F F ?_ | refine ac F F ?_ | refine ad F F ?_)
   all_goals refine jZ (vs:=[_,_,_]) F ⟨F,F,F,trivial⟩ F ⟨Gh.le.refl _,F,?_⟩
   all_goals exact fK F
  | some d =>
   rw [hd] at cx_f0
   have cx_fld : av acs 161 [Ag [U8 (85 : Nat),S nm,.slice a fs.length ca],I m] G (· = Tu [Ag [I d.tag,S d.name,S d.kind,S d.stand],Bo true]):=cx_f0
   have hdm : d ∈ fs:=List.mem_of_find?_eq_some hd
   have hdt : d.tag = m:=(ik hd).1
   have hdk : aJ (af vs) d.kind = true:=dQ hw hxt (by dsimp only;omega) hdm
   have cx_tk0:=nO (G:=G) (s:=r) oM
   dsimp only
   cases ht : cd r with
   | none =>
    rw [ht] at cx_tk0
    have cx_tk : av acs 68 [S r] G (· = Tu [S [],S [],Bo false]):=cx_tk0
    refine jB [(0,_),(1,_),(2,_),(3,_)] Tryz.func159 Tryz.ntmps159 fun B hok hB hW=>?_
    repeat' (first | refine jR ?_ | (refine jo ?_;first | refine jO fun _=>?_ | refine ak F ?_ | refine aV F ?_ | refine jL fun _=>?_ | refine jC F F F ?_ | refine aq F ?_ | refine ab F F F cx_rf F ?_ | refine ab F F F cx_ng F ?_ | refine ab F F F cx_fld F ?_ | refine ab F F F cx_tk F ?_) | refine al F F F ?_ | refine ac F F ?_ | refine ad F F ?_)
    all_goals refine jZ (vs:=[_,_,_]) F ⟨F,F,F,trivial⟩ F ⟨Gh.le.refl _,F,?_⟩
    all_goals exact fK F
   | some y =>
    obtain ⟨p,r'⟩:=y
    have hl2:=dZ ht
    rw [ht] at cx_tk0
    have cx_tk : av acs 68 [S r] G (· = Tu [S p,S r',Bo true]):=cx_tk0
    dsimp only
    cases hf : cP (rb (af vs) n) d.kind p with
    | none =>
     have cx_wh0:=nK (G:=G) hR h hdk oM oM hf
     rw [← edn] at cx_wh0
     refine jB [(0,_),(1,_),(2,_),(3,_)] Tryz.func159 Tryz.ntmps159 fun B hok hB hW=>?_
     repeat' (first | refine jM ?_ | (refine jo ?_;first | refine jO fun _=>?_ | refine ak F ?_ | refine aV F ?_ | refine jL fun _=>?_ | refine jC F F F ?_ | refine aq F ?_ | refine jF fun _=>?_ | refine jV (am F F) ?_ | refine ab F F F cx_rf F ?_ | refine ab F F F cx_ng F ?_ | refine ab F F F cx_fld F ?_ | refine ab F F F cx_tk F ?_ | (refine aM F F F cx_wh0 F ?_;rintro _ G hle ⟨q1,rfl⟩;skip)) | refine al F F F ?_ | refine ad F F ?_)
     all_goals refine jZ (vs:=[_,_,_]) F ⟨F,F,F,trivial⟩ F ⟨hle,F,?_⟩
     all_goals exact fK F
    | some w =>
     have cx_wh1:=ll (G:=G) hR h hdk oM oM hf
     rw [← edn] at cx_wh1
     refine jB [(0,_),(1,_),(2,_),(3,_)] Tryz.func159 Tryz.ntmps159 fun B hok hB hW=>?_
     repeat' (first | refine jM ?_ | (refine jo ?_;first | refine jO fun _=>?_ | refine ak F ?_ | refine aV F ?_ | refine jL fun _=>?_ | refine jC F F F ?_ | refine aq F ?_ | refine jF fun _=>?_ | refine jV (am F F) ?_ | refine ab F F F cx_rf F ?_ | refine ab F F F cx_ng F ?_ | refine ab F F F cx_fld F ?_ | refine ab F F F cx_tk F ?_ | (refine aM F F F cx_wh1 F ?_;rintro _ G hle ⟨wb,rfl,hrep⟩;skip)) | refine al F F F ?_ | refine ad F F ?_)
     all_goals
      rename_i y1 y2 y8
      refine Nx.sealC (b:=y1) fun G2 hG2 hs1=>?_
      refine Nx.sealC (b:=y2) fun G3 hG3 hs2=>?_
      refine Nx.sealC (b:=y8) fun G4 hG4 hsg=>?_
      refine jZ (vs:=[_,_,_]) F ⟨F,F,F,trivial⟩ F ⟨(((hle.trans hG2).trans hG3).trans hG4),F,?_⟩
      rw [← hdt] at hs1
      exact oE F (.uni (64 :: k) y8 y1 y2 wb 1 ⟨85,nm,fs⟩ d w (Nat.le_refl _) ⟨href.symm,F⟩ hdm hsg ((hs1.mono hG3).mono hG4) (hs2.mono hG4) (hrep.mono ((hG2.trans hG3).trans hG4)))
theorem aaF {n : Nat} {u : Value} {vs : List bL} {a : Option Addr} {ca : Nat} {nm : act} {fs : List Fld} {k s : act} (hR : lC n u vs) (h : SchR G u vs) (hw : SchW (af vs)) (hr : dU vs (64 :: k) = some ((a,ca),⟨82,nm,fs⟩)) (hk : dX (64 :: k) = true) (hkl : k.length ≤ 999) (hs : s.length ≤ 1000) (hn : n ≤ 999) :
  bx acs 159 [Ag [u],S s,S (64 :: k),I (n + 1 : Nat)] G (ck (af vs) (bS (af vs) (rb (af vs) n) ⟨82,nm,fs⟩ s) (64 :: k)):=by
 have hk0 : bt (64 :: k) (Int.toNat 0) = 64:=bh 64 k
 have hkl2 : (64 :: k).length = k.length + 1:=rfl
 have hvl : vs.length ≤ 8:=by have:=hw.len;unfold af at this;simpa using this
 have cx_rf:=gE (G:=G) (k:=64 :: k) h oM hk oM
 rw [hr] at cx_rf
 have cx_rf : av acs 160 [u,S (64 :: k)] G (· = Tu [Ag [U8 (82 : Nat),S nm,.slice a fs.length ca],Bo true]):=cx_rf
 have cx_fds:=vU (G:=G) (s:=s) hR h hw hr hk hkl hs hn
 have hrd : bS (af vs) (rb (af vs) n) ⟨82,nm,fs⟩ s = (bH (af vs) (rb (af vs) n) ⟨82,nm,fs⟩ (s.length + 1) 0 s []).map fun x=>(.nd 82 [] 0 x.1,x.2):=by
  unfold bS;rw [if_pos rfl]
 rw [hrd]
 refine jB [(0,_),(1,_),(2,_),(3,_)] Tryz.func159 Tryz.ntmps159 fun B hok hB hW=>?_
 repeat' (first | refine jR ?_ | (refine jo ?_;first | refine jO fun _=>?_ | refine ak F ?_ | refine aV F ?_ | refine jL fun _=>?_ | refine jC F F F ?_ | refine ab F F F cx_rf F ?_ | (refine aM F F F cx_fds F ?_;rintro _ G hle ⟨q1,r1,ok1,rfl,hyes,hno⟩;skip)) | refine ac F F ?_)
 all_goals refine jZ (vs:=[_,_,_]) F ⟨F,F,F,trivial⟩ F ⟨hle,F,?_⟩
 all_goals (rw [aB];exact ⟨_,_,_,F,hyes,hno⟩)
def gz (s k b : act) : Option V:=match aT s with
 | some ts=>if aJ ts k = true ∧ b.length ≤ 600 then (match cP (rb ts 12) k b with
  | some v=>if v.out.length ≤ 400 then some v else none
  | none=>none) else none
 | none=>none
def ix (s k b : act) : Option V:=match aT s with
 | some ts=>if aJ ts k = true ∧ b.length ≤ 600 then (match cP (rb ts 13) k b with
  | some v=>if v.out.length ≤ 400 ∧ v.deep ≤ 12 then some v else none
  | none=>none) else none
 | none=>none
def cg (s k b : act) : Option V:=match aT s with
 | some ts=>if aJ ts k = true ∧ b.length ≤ 600 then ji ts k b else none
 | none=>none
theorem pi {s k b : act} {v : V} (h : gz s k b = some v) : ∃ ts,aT s = some ts ∧ aJ ts k = true ∧ b.length ≤ 600 ∧ cP (rb ts 12) k b = some v ∧ v.out.length ≤ 400:=by
 unfold gz at h
 split at h
 ·rename_i ts hs
  split at h
  ·rename_i hk
   split at h
   ·rename_i u hu
    split at h
    ·cases h;exact ⟨ts,hs,hk.1,hk.2,hu,by assumption⟩
    ·cases h
   ·cases h
  ·cases h
 ·cases h
theorem pj {s k b : act} {v : V} (h : ix s k b = some v) : ∃ ts,aT s = some ts ∧ aJ ts k = true ∧ b.length ≤ 600 ∧ cP (rb ts 13) k b = some v ∧ v.out.length ≤ 400 ∧ v.deep ≤ 12:=by
 unfold ix at h
 split at h
 ·rename_i ts hs
  split at h
  ·rename_i hk
   split at h
   ·rename_i u hu
    split at h
    ·rename_i hc
     cases h;exact ⟨ts,hs,hk.1,hk.2,hu,hc.1,hc.2⟩
    ·cases h
   ·cases h
  ·cases h
 ·cases h
theorem gn {s k b : act} {v : V} (h : cg s k b = some v) : ∃ ts,aT s = some ts ∧ aJ ts k = true ∧ b.length ≤ 600 ∧ OfK ts k v ∧ v.deep ≤ 12 ∧ v.out.length ≤ 400 ∧ v.bys = b:=by
 unfold cg at h
 split at h
 ·rename_i ts hs
  split at h
  ·rename_i hk
   obtain ⟨h1,h2,h3,h4⟩:=(lk (ci hs) oM).1 h
   exact ⟨ts,hs,hk.1,hk.2,h1,h2,h3,h4⟩
  ·cases h
 ·cases h
theorem vB {s k : act} {ts : List Ty} {v : V} (hs : aT s = some ts) (hk : aJ ts k = true) (h : OfK ts k v) (hd : v.deep ≤ 12) (ho : v.out.length ≤ 400) (hb : v.bys.length ≤ 600) : cg s k v.bys = some v:=by
 unfold cg
 rw [hs]
 dsimp only
 rw [if_pos ⟨hk,hb⟩]
 exact (lk (ci hs) oM).2 ⟨h,hd,ho,F⟩
theorem oC {s k b : act} {v : V} (h : gz s k b = some v) : cg s k b = if v.bys = b then some v else none:=by
 obtain ⟨ts,hs,hk,hb,hr,ho⟩:=pi h
 have hr2:=cN hr
 unfold cg ji
 rw [hs]
 dsimp only
 rw [if_pos ⟨hk,hb⟩,hr2]
 dsimp only
 by_cases h1 : v.bys = b
 ·rw [if_pos h1,if_pos ⟨h1,ho⟩]
 ·rw [if_neg h1,if_neg fun h=>h1 h.1]
theorem s7 {s k b : act} (h : gz s k b = none) : cg s k b = none:=by
 cases hc : cg s k b with
 | none=>rfl
 | some v =>
  obtain ⟨ts,hs,hk,hb,h1,h2,h3,rfl⟩:=gn hc
  have:=kU (ci hs) 12 h1 h2 oM []
  rw [List.append_nil] at this
  unfold gz at h
  rw [hs] at h
  dsimp only at h
  rw [if_pos ⟨hk,hb⟩,fZ this] at h
  dsimp only at h
  rw [if_pos h3] at h
  cases h
theorem ux {s k b : act} {v : V} (h : cg s k b = some v) : gz s k b = some v:=by
 cases hg : gz s k b with
 | none=>rw [s7 hg] at h;cases h
 | some u =>
  rw [oC hg] at h
  split at h
  ·exact h
  ·cases h
theorem uf {s k b : act} {v : V} (h : ix s k b = some v) : cg s k b = if v.bys = b then some v else none:=by
 obtain ⟨ts,hs,hk,hb,hr,ho,hd⟩:=pj h
 have hr2:=cN hr
 unfold cg
 rw [hs]
 dsimp only
 rw [if_pos ⟨hk,hb⟩]
 by_cases h1 : v.bys = b
 ·rw [if_pos h1]
  exact (rJ (ci hs) oM).2 ⟨hr2,hd,ho,h1⟩
 ·rw [if_neg h1]
  cases hc : ji ts k b with
  | none=>rfl
  | some u =>
   obtain ⟨g1,g2,g3,g4⟩:=(rJ (ci hs) oM).1 hc
   rw [hr2] at g1
   simp only [Option.some.injEq,Prod.mk.injEq,and_true] at g1
   subst g1
   exact absurd g4 h1
theorem oO {s k b : act} {v : V} (h : cg s k b = some v) : ix s k b = some v:=by
 obtain ⟨ts,hs,hk,hb,h1,h2,h3,rfl⟩:=gn h
 have:=kU (ci hs) 13 h1 oM oM []
 rw [List.append_nil] at this
 unfold ix
 rw [hs]
 dsimp only
 rw [if_pos ⟨hk,hb⟩,fZ this]
 dsimp only
 rw [if_pos ⟨h3,h2⟩]
theorem x9 {s k b : act} (h : ix s k b = none) : cg s k b = none:=by
 cases hc : cg s k b with
 | none=>rfl
 | some v=>rw [oO hc] at h;cases h
theorem ww {s k : act} {v : V} {ts : List Ty} (hs : aT s = some ts) (hk : aJ ts k = true) (h : OfK ts k v) (hd : v.deep ≤ 12) (ho : v.out.length ≤ 400) : eZ s k v.out = some v:=by
 unfold eZ
 rw [hs]
 dsimp only
 rw [if_pos hk]
 exact ng (ci hs) h ho hd
theorem na {s k : act} {v : V} {ts : List Ty} (hs : aT s = some ts) (hk : aJ ts k = true) (h : OfK ts k v) (hd : v.deep ≤ 12) (ho : v.out.length ≤ 400) : c9 s k v.out = if v.bys.length ≤ 600 then some v.bys else none:=by
 unfold c9
 rw [ww hs hk h hd ho]
theorem vA {s k b : act} {v : V} (h : cg s k b = some v) : c9 s k v.out = some b:=by
 obtain ⟨ts,hs,hk,hb,h1,h2,h3,rfl⟩:=gn h
 rw [na hs hk h1 h2 h3,if_pos hb]
theorem pO {s k w b : act} (h : c9 s k w = some b) : ∃ v,cg s k b = some v ∧ v.out = w:=by
 unfold c9 at h
 split at h
 ·rename_i u hu
  split at h
  ·rename_i hl
   cases h
   obtain ⟨ts,hs,hk,hv,ht,hw⟩:=k6 hu
   obtain ⟨h4,h5,h6⟩:=pC hv
   exact ⟨u,vB hs hk (nT hv) h6 (by rw [h4];exact h5) hl,h4⟩
  ·cases h
 ·cases h
theorem qk {s k b r : act} {u v : V} (h1 : cg s k b = some u) (h2 : cg s k (b ++ r) = some v) : r = []:=by
 obtain ⟨ts,hs,hk,hb,g1,g2,g3,rfl⟩:=gn h1
 obtain ⟨ts',hs',hk',hb',q1,q2,q3,q4⟩:=gn h2
 obtain rfl : ts = ts':=by rw [hs] at hs';exact Option.some.inj hs'
 have e1:=kU (ci hs) 12 g1 g2 oM r
 have e2:=kU (ci hs) 12 q1 q2 (by rw [q4];omega) []
 rw [List.append_nil,q4,e1] at e2
 simp only [Option.some.injEq,Prod.mk.injEq] at e2
 exact e2.2
theorem aaL {n : Nat} {u : Value} {ts : List Ty} {k s : act} {c e : UInt8} (hc : c = 64) (hu : u.oneCell' = true)
  (cx_typ : bx acs 159 [Ag [u],S (e :: s),S (c :: k),I (n + 1 : Nat)] G (ck ts (rb ts (n + 1) (c :: k) (e :: s)) (c :: k))) (hs : s.length ≤ 999) (hkl : k.length ≤ 1000) (hn : n ≤ 999) :
  bx acs 121 [Ag [u],S (e :: s),S (c :: k),I (n + 1 : Nat)] G (ck ts (rb ts (n + 1) (c :: k) (e :: s)) (c :: k)):=by
 have hel : (e :: s).length = s.length + 1:=rfl
 have hkl2 : (c :: k).length = k.length + 1:=rfl
 subst hc
 have hk0 : bt (64 :: k) (Int.toNat 0) = 64:=bh 64 k
 refine jB [(0,_),(1,_),(2,_),(3,_)] Tryz.func121 Tryz.ntmps121 fun B hok hB hW=>?_
 repeat' (first | refine jM ?_ | (refine jo ?_;first | refine jO fun _=>?_ | refine aq F ?_ | refine aV F ?_ | (refine aM F F F cx_typ F ?_;rintro _ G hle ⟨q1,r1,ok1,rfl,hyes,hno⟩;skip)) | refine al F F F ?_ | refine ad F F ?_)
 all_goals refine jZ (vs:=[_,_,_]) F ⟨F,F,F,trivial⟩ F ⟨hle,F,?_⟩
 all_goals (rw [aB];exact ⟨_,_,_,F,hyes,hno⟩)
theorem k7 {u : Value} {vs : List bL} (hw : SchW (af vs)) : ∀ n,n ≤ 1000 → lC n u vs
 | 0,_=>fun G k s _ _ _=>vR (.inr rfl) oM
 | n + 1,hn=>fun G k s h hk hs=>by
  have hR:=k7 (u:=u) (vs:=vs) hw n oM
  have hkk:=cQ (c7 hk)
  have hvl : vs.length ≤ 8:=by have:=hw.len;unfold af at this;simpa using this
  match s,hs with
  | [],_=>exact vR (.inl F) hn
  | e :: s,hs =>
   have hs1:=hs
   simp only [List.length_cons] at hs
   match k,hk,hkk with
   | [],hk,_=>cases hk
   | c :: k,hk,hkk =>
    have hkl:=hkk.2
    simp only [List.length_cons] at hkl
    by_cases h1 : c.toNat = 91
    ·obtain rfl : c = 91:=bn h1 dC
     exact aaI hR h hk oM oM oM
    by_cases h2 : c.toNat = 63
    ·obtain rfl : c = 63:=bn h2 dC
     exact aaG hR h hk oM oM
    have h91 : ¬ (c.toNat = 91 ∨ c.toNat = 63):=fun h=>by rcases h with h | h <;> omega
    cases hr : aX (af vs) (c :: k) with
    | some t =>
     obtain ⟨r,e1⟩:=fa hr
     simp only [List.cons.injEq] at e1
     obtain ⟨rfl,rfl⟩:=e1
     have href:=dP vs (64 :: k)
     rcases hrv : dU vs (64 :: k) with _ | x
     ·rw [hrv,hr] at href;cases href
     obtain ⟨⟨a,ca⟩,⟨so,nm,fs⟩⟩:=x
     have hso:=(hw.ty _ (List.mem_map_of_mem (er hrv))).sort
     dsimp only at hso
     rw [hrv] at href
     refine aaL F h.sl.one ?_ oM oM oM
     rw [wt href.symm]
     rcases hso with rfl | rfl | rfl
     ·exact aaF hR h hw hrv hkk.1 oM hs1 oM
     ·exact aaD hR h hw hrv hkk.1 oM hs1 oM
     ·exact aaK h hw hrv hkk.1 oM hs1 oM
    | none =>
     rcases ew hk h91 hr with e1 | e1 | e1
     ·simp only [List.cons.injEq] at e1
      obtain ⟨rfl,rfl⟩:=e1
      rw [zz hr]
      exact aaH h.sl.one (by simp) hs1 oM
     ·simp only [List.cons.injEq] at e1
      obtain ⟨rfl,rfl⟩:=e1
      rw [zx hr]
      exact aaE h.sl.one (by simp) hs1 oM
     ·simp only [List.cons.injEq] at e1
      obtain ⟨rfl,rfl⟩:=e1
      rw [zB hr]
      exact aaJ h.sl.one oM oM
theorem tB {s k b : act} (h : s.length ≤ 1048576 ∧ k.length ≤ 1048576 ∧ b.length ≤ 1048576) (hg : gz s k b = none) : bx acs 46 [S s,S k,S b] G (fun v _=>∃ u q,v = Tu [u,.pointer q,Bo false]):=by
 by_cases hk : cz s k = true
 case neg =>
  have hk2 : cz s k = false:=by simpa using hk
  have cx_lk1 : ∀ G,bx acs 83 [S s,S k] G (fun v _=>∃ u,v = Tu [u,Bo false]):=fun G=>by
   refine (eW (G:=G) (s:=s) (k:=k) oM oM).mono ?_
   rintro v G' L' ⟨h1,h2,u,vs,rfl,_⟩
   exact ⟨h1,h2,u,by rw [hk2]⟩
  refine jB [(0,_),(1,_),(2,_)] Tryz.func46 Tryz.ntmps46 fun B hok hB hW=>?_
  repeat' (first | refine jR ?_ | (refine jo ?_;first | refine aE F ?_ | (refine aM F F F (cx_lk1 _) F ?_;rintro _ G hle ⟨u1,rfl⟩;skip)) | refine aw F F F ?_ | refine ac F F ?_)
  all_goals refine jZ (vs:=[_,_,_]) F ⟨F,F,F,trivial⟩ F ⟨hle,F,?_⟩
  all_goals exact ⟨_,_,F⟩
 obtain ⟨ts,hs,hki,hw⟩:=hY hk
 have cx_lka : ∀ G,bx acs 83 [S s,S k] G (fun v G'=>∃ a c vs,v = Tu [.slice a vs.length c,Bo true] ∧ SchR G' (.slice a vs.length c) vs ∧ af vs = ts):=fun G=>by
  refine (eW (G:=G) (s:=s) (k:=k) oM oM).mono ?_
  rintro v G' L' ⟨h1,h2,u,vs,rfl,h4,_,h6⟩
  obtain ⟨_,⟨rfl,h0⟩ | ⟨b,o,cap,rfl,_,_⟩⟩:=h4.sl
  ·exact ⟨h1,h2,none,0,vs,by rw [hk,h0],by rw [h0];exact h4,h6 ts hs hki⟩
  ·exact ⟨h1,h2,_,cap,vs,by rw [hk],h4,h6 ts hs hki⟩
 by_cases hl : b.length ≤ 600
 case neg =>
  refine jB [(0,_),(1,_),(2,_)] Tryz.func46 Tryz.ntmps46 fun B hok hB hW=>?_
  repeat' (first | refine jR ?_ | (refine jo ?_;first | refine aq F ?_ | (refine aM F F F (cx_lka _) F ?_;rintro _ G hle ⟨av1,cv1,vs1,rfl,hR1,hT1⟩;skip)) | refine al F F F ?_ | refine ac F (ar oM) ?_)
  all_goals refine jZ (vs:=[_,_,_]) F ⟨F,F,F,trivial⟩ F ⟨hle,F,?_⟩
  all_goals exact ⟨_,_,F⟩
 unfold gz at hg
 rw [hs] at hg
 dsimp only at hg
 rw [if_pos ⟨hki,hl⟩] at hg
 refine jB [(0,_),(1,_),(2,_)] Tryz.func46 Tryz.ntmps46 fun B hok hB hW=>?_
 repeat' (first | refine jR ?_ | (refine jo ?_;first | refine aq F ?_ | refine jV (am F F) ?_ | (refine aM F F F (cx_lka _) F ?_;rintro _ G hle ⟨av1,cv1,vs1,rfl,hR1,hT1⟩;skip)) | refine al F F F ?_ | refine ad F (ay oM) ?_)
 subst hT1
 have hle0:=hle
 cases hf : cP (rb (af vs1) 12) k b with
 | none =>
  have cx_wh0:=nK (k7 (u:=.slice av1 vs1.length cv1) (vs:=vs1) hw 12 oM) hR1 hki oM oM hf
  repeat' (first | refine jR ?_ | (refine jo ?_;(refine aM F F F cx_wh0 F ?_;rintro _ G hle ⟨q1,rfl⟩;skip)) | refine ac F F ?_)
  all_goals refine jZ (vs:=[_,_,_]) F ⟨F,F,F,trivial⟩ F ⟨(hle0.trans hle),F,?_⟩
  all_goals exact ⟨_,_,F⟩
 | some v =>
  rw [hf] at hg
  have htot:=i7 _ _ _ _ _ (cN hf)
  simp only [List.length_nil] at htot
  have hvn : bZ (af vs1) k v.out = none:=ss hw (kT _ _ _ _ (cN hf)).1 fun h=>by dsimp only at hg;rw [if_pos h.1] at hg;cases hg
  have cx_wh1:=ll (k7 (u:=.slice av1 vs1.length cv1) (vs:=vs1) hw 12 oM) hR1 hki oM oM hf
  refine jo ?_
  refine aM F F F cx_wh1 F ?_
  rintro _ G2 hle2 ⟨wb,rfl,hrep⟩
  have hR2:=hR1.mono hle2
  have cx_out:=io hw hrep oM
  have cx_bk:=rR (k:=k) (s:=v.out) hw hR2 hki
  rw [hvn] at cx_bk
  repeat' (first | refine jR ?_ | (refine jo ?_;first | refine ab F F F cx_out F ?_ | (refine aM F F F cx_bk F ?_;rintro _ G hle rfl;skip)) | refine ad F F ?_)
  all_goals refine jZ (vs:=[_,_,_]) F ⟨F,F,F,trivial⟩ F ⟨((hle0.trans hle2).trans hle),F,?_⟩
  all_goals exact ⟨_,_,F⟩
theorem tA {s k b : act} {v : V} (h : s.length ≤ 1048576 ∧ k.length ≤ 1048576 ∧ b.length ≤ 1048576) (hg : gz s k b = some v) : bx acs 46 [S s,S k,S b] G (fun r G'=>∃ a c vs wb,r = Tu [.slice a vs.length c,Pt wb 0,Bo true] ∧ SchR G' (.slice a vs.length c) vs ∧ aT s = some (af vs) ∧ RepR G' (af vs) v k wb):=by
 obtain ⟨ts,hs,hki,hl,hf,ho⟩:=pi hg
 have hw:=ci hs
 have hk : cz s k = true:=by unfold cz;rw [hs];exact hki
 have cx_lka : ∀ G,bx acs 83 [S s,S k] G (fun v G'=>∃ a c vs,v = Tu [.slice a vs.length c,Bo true] ∧ SchR G' (.slice a vs.length c) vs ∧ af vs = ts):=fun G=>by
  refine (eW (G:=G) (s:=s) (k:=k) oM oM).mono ?_
  rintro v G' L' ⟨h1,h2,u,vs,rfl,h4,_,h6⟩
  obtain ⟨_,⟨rfl,h0⟩ | ⟨b,o,cap,rfl,_,_⟩⟩:=h4.sl
  ·exact ⟨h1,h2,none,0,vs,by rw [hk,h0],by rw [h0];exact h4,h6 ts hs hki⟩
  ·exact ⟨h1,h2,_,cap,vs,by rw [hk],h4,h6 ts hs hki⟩
 have htot:=i7 _ _ _ _ _ (cN hf)
 simp only [List.length_nil] at htot
 obtain ⟨hk1,hd⟩:=kT _ _ _ _ (cN hf)
 have hvs:=ng hw hk1 ho hd
 refine jB [(0,_),(1,_),(2,_)] Tryz.func46 Tryz.ntmps46 fun B hok hB hW=>?_
 repeat' (first | refine jR ?_ | (refine jo ?_;first | refine aq F ?_ | refine jV (am F F) ?_ | (refine aM F F F (cx_lka _) F ?_;rintro _ G hle ⟨av1,cv1,vs1,rfl,hR1,hT1⟩;skip)) | refine al F F F ?_ | refine ad F (ay oM) ?_)
 subst hT1
 have hle0:=hle
 have cx_wh1:=ll (k7 (u:=.slice av1 vs1.length cv1) (vs:=vs1) hw 12 oM) hR1 hki oM oM hf
 refine jo ?_
 refine aM F F F cx_wh1 F ?_
 rintro _ G2 hle2 ⟨wb,rfl,hrep⟩
 have hR2:=hR1.mono hle2
 have cx_out:=io hw hrep oM
 have cx_bk:=rR (k:=k) (s:=v.out) hw hR2 hki
 rw [hvs] at cx_bk
 repeat' (first | refine jR ?_ | (refine jo ?_;first | refine ab F F F cx_out F ?_ | (refine aM F F F cx_bk F ?_;rintro _ G hle rfl;skip)) | refine ad F F ?_)
 all_goals refine jZ (vs:=[_,_,_]) F ⟨F,F,F,trivial⟩ F ⟨((hle0.trans hle2).trans hle),F,?_⟩
 all_goals exact ⟨_,_,_,_,F,hR2.mono hle,hs,hrep.mono hle⟩
theorem s6 {s k b : act} {v : V} (h : gz s k b = some v) : v.wf ∧ v.tot ≤ 60000:=by
 obtain ⟨ts,hs,hki,hl,hf,ho⟩:=pi h
 have htot:=i7 _ _ _ _ _ (cN hf)
 simp only [List.length_nil] at htot
 obtain ⟨hk1,hd⟩:=kT _ _ _ _ (cN hf)
 exact ⟨(qG (ng (ci hs) hk1 ho hd)).1,oM⟩
theorem sL {s k b : act} (h : s.length ≤ 1048576 ∧ k.length ≤ 1048576 ∧ b.length ≤ 1048576) : av acs 39 [S s,S k,S b] G (· = iE ((gz s k b).map V.out)):=by
 cases hg : gz s k b with
 | none =>
  have cx_l50:=tB (G:=G) h hg
  refine jB (Post:=fun v G' L'=>G' = G ∧ L' = [] ∧ _) [(0,_),(1,_),(2,_)] Tryz.func39 Tryz.ntmps39 fun B hok hB hW=>?_
  repeat' (first | refine jR ?_ | (refine jo ?_;(refine aM F F F cx_l50 F ?_;rintro _ G hle ⟨u5,q5,rfl⟩;skip)) | refine ac F F ?_)
  all_goals refine Nx.base hok hB ?_
  all_goals refine jY (vs:=[_,_]) ?_
  all_goals rfl
 | some v =>
  obtain ⟨hwf,htot⟩:=s6 hg
  have cx_l5:=tA (G:=G) h hg
  refine jB (Post:=fun v G' L'=>G' = G ∧ L' = [] ∧ _) [(0,_),(1,_),(2,_)] Tryz.func39 Tryz.ntmps39 fun B hok hB hW=>?_
  repeat' (first | refine jR ?_ | (refine jo ?_;(refine aM F F F cx_l5 F ?_;rintro _ G hle ⟨a5,c5,vs5,wb5,rfl,hR5,hs5,hrep5⟩;skip)) | refine ad F F ?_)
  have cx_out:=io (ci hs5) hrep5 oM
  repeat' (first | refine jR ?_ | (refine jo ?_;refine ab F F F cx_out F ?_))
  all_goals refine Nx.base hok hB ?_
  all_goals refine jY (vs:=[_,_]) ?_
  all_goals rfl
theorem qy {s k b : act} (h : s.length ≤ 1048576 ∧ k.length ≤ 1048576 ∧ b.length ≤ 1048576) : av acs 38 [S s,S k,S b] G (· = Bo (cg s k b).isSome):=by
 cases hg : gz s k b with
 | none =>
  have cx_l50:=tB (G:=G) h hg
  rw [s7 hg]
  refine jB (Post:=fun v G' L'=>G' = G ∧ L' = [] ∧ _) [(0,_),(1,_),(2,_)] Tryz.func38 Tryz.ntmps38 fun B hok hB hW=>?_
  repeat' (first | refine jR ?_ | (refine jo ?_;first | refine aq F ?_ | (refine aM F F F cx_l50 F ?_;rintro _ G hle ⟨u5,q5,rfl⟩;skip)) | refine al F F F ?_)
  all_goals refine Nx.base hok hB ?_
  all_goals refine jY (vs:=[_]) ?_
  all_goals rfl
 | some v =>
  obtain ⟨hwf,htot⟩:=s6 hg
  have hl5:=tA (G:=G) h hg
  have hres : (cg s k b).isSome = decide (v.bys = b):=by
   rw [oC hg]
   by_cases h1 : v.bys = b
   ·rw [if_pos h1,decide_eq_true h1];rfl
   ·rw [if_neg h1,decide_eq_false h1];rfl
  rw [hres]
  refine jB (Post:=fun v G' L'=>G' = G ∧ L' = [] ∧ _) [(0,_),(1,_),(2,_)] Tryz.func38 Tryz.ntmps38 fun B hok hB hW=>?_
  repeat' (refine jR ?_)
  refine jo ?_
  refine aM F F F hl5 F ?_
  rintro _ G2 hle ⟨a5,c5,vs5,wb5,rfl,hR5,hs5,hrep5⟩
  have cx_bys:=v5 (ci hs5) hrep5 hwf oM
  generalize v.bys = vb at cx_bys ⊢
  clear hrep5 hR5 hg hwf htot hres hl5
  repeat' (first | refine jR ?_ | (refine jo ?_;first | refine aE F ?_ | refine ab F F F cx_bys F ?_) | refine aw F F F ?_)
  all_goals refine Nx.base hok hB ?_
  all_goals refine jY (vs:=[_]) ?_
  all_goals rfl
abbrev tBr : TypeId:=93
abbrev bD (r sc : Nat) (s : act) (b : Bool) (a : Option Addr) (n c : Nat) (d : Int) : Own:=.blk r (.cells (List.toArray [Pt sc 0,S s,Bo b,.slice a n c,I d]) tBr (0,0))
theorem jj {r sc m n c : Nat} {s : act} {a : Option Addr} {d : Int} (h : m ≤ s.length ∧ s.length ≤ 1000000) : cx acs 64 [Pt r 0,I (m : Nat)] G [bD r sc s false a n c d] (fun v L'=>v = S (s.take m) ∧ L' = [bD r sc (s.drop m) false a n c d]):=by
 refine jH [(0,_),(1,_)] Tryz.func64 Tryz.ntmps64 fun B hB hW=>?_
 repeat' (first | refine jM ?_ | (refine jo ?_;first | refine ak F ?_ | refine aq F ?_ | refine jD F F F ?_) | refine al F F F ?_ | refine ad F (ay oM) ?_)
 exact aO (vs:=[_]) F ⟨F,trivial⟩ F (List.Sublist.refl _) ⟨F,F,F⟩
theorem fy {r sc m n c : Nat} {s : act} {b : Bool} {a : Option Addr} {d : Int} (h : b = true ∨ s.length < m) (hs : s.length ≤ 1000000 ∧ m ≤ 1000000) : cx acs 64 [Pt r 0,I (m : Nat)] G [bD r sc s b a n c d] (fun v L'=>v = S [] ∧ L' = [bD r sc s true a n c d]):=by
 rcases h with rfl | h
 ·refine jH [(0,_),(1,_)] Tryz.func64 Tryz.ntmps64 fun B hB hW=>?_
  repeat' (first | refine jR ?_ | (refine jo ?_;first | refine ak F ?_ | refine aE F ?_ | refine jD F F F ?_) | refine aw F F F ?_ | refine ac F F ?_)
  all_goals exact aO (vs:=[_]) F ⟨F,trivial⟩ F (List.Sublist.refl _) ⟨F,F,F⟩
 ·cases b
  ·refine jH [(0,_),(1,_)] Tryz.func64 Tryz.ntmps64 fun B hB hW=>?_
   repeat' (first | refine jR ?_ | (refine jo ?_;first | refine ak F ?_ | refine aq F ?_ | refine jD F F F ?_) | refine al F F F ?_ | refine ac F (ar oM) ?_)
   all_goals exact aO (vs:=[_]) F ⟨F,trivial⟩ F (List.Sublist.refl _) ⟨F,F,F⟩
  ·refine jH [(0,_),(1,_)] Tryz.func64 Tryz.ntmps64 fun B hB hW=>?_
   repeat' (first | refine jR ?_ | (refine jo ?_;first | refine ak F ?_ | refine aE F ?_ | refine jD F F F ?_) | refine aw F F F ?_ | refine ac F F ?_)
   all_goals exact aO (vs:=[_]) F ⟨F,trivial⟩ F (List.Sublist.refl _) ⟨F,F,F⟩
theorem rX {r sc n c : Nat} {s q : act} {x : Bool} {a : Option Addr} {d : Int} (h : cq s = some (x,q)) (hs : s.length ≤ 1000000) : cx acs 135 [Pt r 0] G [bD r sc s false a n c d] (fun v L'=>v = Bo x ∧ L' = [bD r sc q false a n c d]):=by
 have e:=eS h
 subst e
 have hl : ((if x = true then 1 else 0) :: q).length = q.length + 1:=rfl
 have cx_tkb:=jj (G:=G) (r:=r) (sc:=sc) (m:=1) (n:=n) (c:=c) (s:=(if x = true then 1 else 0) :: q) (a:=a) (d:=d) ⟨oM,hs⟩
 cases x
 ·have cx_tkb : cx acs 64 [Pt r 0,I 1] G [bD r sc (0 :: q) false a n c d] (fun v L'=>v = S [0] ∧ L' = [bD r sc q false a n c d]):=cx_tkb
  refine jH [(0,_)] Tryz.func135 Tryz.ntmps135 fun B hB hW=>?_
  repeat' (first | refine jR ?_ | (refine jo ?_;(refine ag F F F cx_tkb F ?_;rintro _ _ ⟨rfl,rfl⟩;dsimp only [zA,fA])) | refine ad F F ?_)
  all_goals exact aO (vs:=[_]) F ⟨F,trivial⟩ F (List.Sublist.refl _) ⟨F,F,F⟩
 ·have cx_tkb : cx acs 64 [Pt r 0,I 1] G [bD r sc (1 :: q) false a n c d] (fun v L'=>v = S [1] ∧ L' = [bD r sc q false a n c d]):=cx_tkb
  refine jH [(0,_)] Tryz.func135 Tryz.ntmps135 fun B hB hW=>?_
  repeat' (first | refine jR ?_ | (refine jo ?_;(refine ag F F F cx_tkb F ?_;rintro _ _ ⟨rfl,rfl⟩;dsimp only [zA,fA])) | refine ad F F ?_)
  all_goals exact aO (vs:=[_]) F ⟨F,trivial⟩ F (List.Sublist.refl _) ⟨F,F,F⟩
theorem rY {r sc n c : Nat} {s : act} {b : Bool} {a : Option Addr} {d : Int} (h : b = true ∨ cq s = none) (hs : s.length ≤ 1000000) : cx acs 135 [Pt r 0] G [bD r sc s b a n c d] (fun v L'=>∃ q,(v = Bo false ∧ q.length ≤ s.length) ∧ L' = [bD r sc q true a n c d]):=by
 by_cases h1 : b = true ∨ s.length < 1
 ·have cx_tkb:=fy (G:=G) (r:=r) (sc:=sc) (m:=1) (n:=n) (c:=c) (s:=s) (b:=b) (a:=a) (d:=d) h1 ⟨hs,oM⟩
  have cx_tkb : cx acs 64 [Pt r 0,I 1] G [bD r sc s b a n c d] (fun v L'=>v = S [] ∧ L' = [bD r sc s true a n c d]):=cx_tkb
  refine jH [(0,_)] Tryz.func135 Tryz.ntmps135 fun B hB hW=>?_
  repeat' (first | refine jR ?_ | (refine jo ?_;(refine ag F F F cx_tkb F ?_;rintro _ _ ⟨rfl,rfl⟩;dsimp only [zA,fA])) | refine ad F F ?_)
  all_goals exact aO (vs:=[_]) F ⟨F,trivial⟩ F (List.Sublist.refl _) ⟨F,s,⟨F,Nat.le_refl _⟩,F⟩
 ·obtain rfl : b = false:=by cases b;rfl;exact absurd (.inl F) h1
  match s,h,hs,h1 with
  | [],_,_,h1=>exact absurd (.inr (by simp)) h1
  | e :: q,h,hs,_ =>
   have he : e.toNat ≠ 0 ∧ e.toNat ≠ 1:=by
    rcases h with h | h
    ·cases h
    ·unfold cq at h
     dsimp only at h
     split at h
     ·cases h
     ·split at h
      ·cases h
      ·exact ⟨by assumption,by assumption⟩
   have hl : (e :: q).length = q.length + 1:=rfl
   have cx_tkb:=jj (G:=G) (r:=r) (sc:=sc) (m:=1) (n:=n) (c:=c) (s:=e :: q) (a:=a) (d:=d) ⟨oM,hs⟩
   have cx_tkb : cx acs 64 [Pt r 0,I 1] G [bD r sc (e :: q) false a n c d] (fun v L'=>v = S [e] ∧ L' = [bD r sc q false a n c d]):=cx_tkb
   have hne : ¬ [e] = [1]:=fun h=>by simp only [List.cons.injEq,and_true] at h;subst h;exact he.2 F
   have hbl : Op.bytesLess [e] [1] = false:=by
    cases hb : Op.bytesLess [e] [1] with
    | false=>rfl
    | true =>
     exfalso
     unfold Op.bytesLess at hb
     have h9 : ¬ e.toNat < (1 : UInt8).toNat:=by show ¬ e.toNat < 1;omega
     simp_all
   have hc : (!(Op.bytesLess [e] [1] || decide ([e] = [1]))) = true:=by rw [hbl,decide_eq_false hne];rfl
   refine jH [(0,_)] Tryz.func135 Tryz.ntmps135 fun B hB hW=>?_
   repeat' (first | refine jR ?_ | (refine jo ?_;first | refine jD F F F ?_ | (refine ag F F F cx_tkb F ?_;rintro _ _ ⟨rfl,rfl⟩;dsimp only [zA,fA])) | refine ac F ‹_› ?_)
   all_goals exact aO (vs:=[_]) F ⟨F,trivial⟩ F (List.Sublist.refl _) ⟨F,q,⟨by rw [decide_eq_false hne];all_goals rfl,oM⟩,rfl⟩
theorem ee {r sc m c : Nat} {s q : act} {b : Bool} {a : Option Addr} {d n : Int} (h : bj s = some (n,q)) (hs : s.length ≤ 1000) : cx acs 63 [Pt r 0] G [bD r sc s b a m c d] (fun v L'=>v = I n ∧ L' = [bD r sc q b a m c d]):=by
 have cx_ng0:=mn (G:=G) (s:=s) oM
 rw [h] at cx_ng0
 have cx_ngi : av acs 31 [S s] G (· = Tu [I n,S q,Bo true]):=cx_ng0
 refine jH [(0,_)] Tryz.func63 Tryz.ntmps63 fun B hB hW=>?_
 repeat' (first | refine jR ?_ | (refine jo ?_;first | refine ak F ?_ | refine jD F F F ?_ | refine ab F F F cx_ngi F ?_) | refine ad F F ?_)
 all_goals exact aO (vs:=[_]) F ⟨F,trivial⟩ F (List.Sublist.refl _) ⟨F,F,F⟩
theorem fN {r sc m c : Nat} {s : act} {b : Bool} {a : Option Addr} {d : Int} (h : bj s = none) (hs : s.length ≤ 1000) : cx acs 63 [Pt r 0] G [bD r sc s b a m c d] (fun v L'=>v = I 0 ∧ L' = [bD r sc [] true a m c d]):=by
 have cx_ng0:=mn (G:=G) (s:=s) oM
 rw [h] at cx_ng0
 have cx_ngi : av acs 31 [S s] G (· = Tu [I 0,S [],Bo false]):=cx_ng0
 refine jH [(0,_)] Tryz.func63 Tryz.ntmps63 fun B hB hW=>?_
 repeat' (first | refine jR ?_ | (refine jo ?_;first | refine ak F ?_ | refine jD F F F ?_ | refine ab F F F cx_ngi F ?_) | refine ac F F ?_)
 all_goals exact aO (vs:=[_]) F ⟨F,trivial⟩ F (List.Sublist.refl _) ⟨F,F,F⟩
abbrev fk : TypeId:=91
abbrev lJ : TypeId:=76
abbrev qN : TypeId:=71
theorem da {P : Program} {n : Nat} {E : bm} {B : Base} {G : Gh} {L R1 R : List Own} {e : Exit} {f : FuncId} {fi ca az xs : List Value} {b1 b2 : Nat} {c1 c2 : List Value} {T1 T2 : TypeId} {PostD : Value → Gh → List Own → Prop} {fn : Func} {rs : List ResultVar} {Post : Value → Gh → List Own → Prop}
  [h1 : DelB L b1 c1 T1 R1] [h2 : DelB R1 b2 c2 T2 R] (he : e = .ret ∨ e = .normal) (hv : fi ++ az ++ ca = xs) (hc : FnD P f xs G [.blk b1 (.cells c1.toArray T1 (0,0)),.blk b2 (.cells c2.toArray T2 (0,0))] PostD)
  (hr : fn.results = rs.toArray) (k : ∀ v G' L',PostD v G' L' → ∃ vs L'',iB P (St B G' (L' ++ R)) E rs vs ∧ L''.Sublist (L' ++ R) ∧ Post (eD vs) G' L'') :
  Nx n [rG f fi ca az] E B G L (cu P (.exit e) [] (v9 P fn (dy B Post))):=abd he hv hc (h1.del.perm.trans (h2.del.perm.cons _)) hr k
theorem cL {x0 r sc n c : Nat} {s : act} {b : Bool} {a : Option Addr} {d : Int} (hd : -1000 ≤ d ∧ d ≤ 1000) : FnD acs 132 [Pt x0 0] G [.blk x0 (.cells (List.toArray [Pt r 0]) fk (0,0)),bD r sc s b a n c d]
  (fun _ G' L'=>G' = G ∧ L' = [.blk x0 (.cells (List.toArray [Pt r 0]) fk (0,0)),bD r sc s b a n c (d - 1)]):=by
 refine yB [(0,_)] Tryz.func132 kR Tryz.ntmps132 F F tU fun B hok hB hW=>?_
 repeat' (first | refine jM ?_ | (refine jo ?_;first | refine ak F ?_ | refine jD F F F ?_))
 all_goals exact nu (vs:=[]) F trivial F (List.Sublist.refl _) ⟨F,F⟩
def sn (f : act → Option (V × act)) (s : act) (b : Bool) (u : V) (s' : act) (b' : Bool) : Prop :=
 s'.length ≤ s.length ∧ (b' = false → b = false ∧ f s = some (u,s')) ∧ (b' = true → b = true ∨ f s = none)
def j9 (f : act → Option (V × act)) (r sc : Nat) (s : act) (b : Bool) (d : Int) (v : Value) (G' : Gh) (L' : List Own) : Prop :=
 ∃ u c s' b' a n k,v = Ag (b7 c) ∧ V.rep G' u c ∧ L' = [bD r sc s' b' a n k d] ∧ (d ≠ 0 → a = none ∧ n = 0 ∧ k = 0) ∧ sn f s b u s' b'
def qq (n sc : Nat) (qs : List cI) : Prop:=∀ (G : Gh) (r : Nat) (k s : act) (b : Bool),ScI G sc qs → aJ (ah qs) k = true → s.length ≤ 1000 →
 dt acs 92 [Pt r 0,Ag (eh k)] G [bD r sc s b none 0 0 (13 - (n : Int))] (j9 (rb (ah qs) n k) r sc s b (13 - (n : Int)))
theorem cK {f : act → Option (V × act)} {r sc n k : Nat} {s s' : act} {b b' : Bool} {d d' : Int} {u : V} {c : VC} {a : Option Addr} {G' : Gh} (hr : V.rep G' u c) (hd : d' = d) (hk : d ≠ 0 → a = none ∧ n = 0 ∧ k = 0) (h : sn f s b u s' b') : j9 f r sc s b d (Ag (b7 c)) G' [bD r sc s' b' a n k d']:=by
 subst hd;exact ⟨u,c,s',b',a,n,k,F,hr,F,hk,h⟩
theorem we {f : act → Option (V × act)} {r sc : Nat} {k q : act} {d e : Int} (h : e = d) (h0 : d ≠ 0) (hc : dt acs 92 [Pt r 0,Ag (eh k)] G [bD r sc q false none 0 0 e] (j9 f r sc q false e)) : dt acs 92 [Pt r 0,Ag [S (sg k),S (bs k),S (nm k)]] G [bD r sc q false none 0 0 d] (fun v G' L'=>∃ u c s' b',v = Ag (b7 c) ∧ V.rep G' u c ∧ L' = [bD r sc s' b' none 0 0 d] ∧ sn f q false u s' b'):=by
 subst h
 refine hc.mono ?_
 rintro v G' L' ⟨h1,u,c,s',b',a,n,kk,rfl,h2,rfl,h3,h4⟩
 obtain ⟨rfl,rfl,rfl⟩:=h3 h0
 exact ⟨h1,u,c,s',b',F,h2,F,h4⟩
theorem kx {ts : List Ty} {n : Nat} {k q t1 : act} {u : V} {b1 : Bool} (h : sn (rb ts n k) q false u t1 b1) : t1.length ≤ q.length ∧ (b1 = false → rb ts n k q = some (u,t1) ∧ u.tot + 100 * t1.length ≤ 100 * q.length ∧ t1.length < q.length) ∧ (b1 = true → rb ts n k q = none):=by
 obtain ⟨h1,h2,h3⟩:=h
 refine ⟨h1,fun h=>?_,fun h=>?_⟩
 ·obtain ⟨_,h4⟩:=h2 h
  exact ⟨h4,i7 _ _ _ _ _ h4,oc _ _ _ _ _ h4⟩
 ·rcases h3 h with h4 | h4
  ·cases h4
  ·exact h4
theorem tp {r sc n : Nat} {qs : List cI} {k s : act} {b : Bool} (h : b = true ∨ n = 0) (hs : s.length ≤ 1000) (hn : n ≤ 13) :
  dt acs 92 [Pt r 0,Ag [S (sg k),S (bs k),S (nm k)]] G [bD r sc s b none 0 0 (13 - (n : Int))] (j9 (rb (ah qs) n k) r sc s b (13 - (n : Int))):=by
 have hno : b = true ∨ rb (ah qs) n k s = none:=by
  rcases h with h | rfl
  ·exact .inl h
  ·exact .inr F
 rcases h with rfl | rfl
 ·
  refine cm [(0,_),(1,_)] Tryz.func92 kR Tryz.ntmps92 F F tU fun B hok hB hW=>?_
  repeat' (first | refine jM ?_ | (refine jo ?_;first | refine jO fun _=>?_ | refine jL fun _=>?_ | refine ak F ?_ | refine jD F F F ?_ | refine jV (dg F F) ?_))
  rename_i x2 x3 x4
  refine jo ?_
  refine cn (fi:=[]) (ca:=[Pt x2 0]) (az:=[]) F F ?_
  repeat' (first | refine jR ?_ | (refine jo ?_;first | refine ak F ?_ | refine jD F F F ?_ | refine jC F F F ?_ | refine jV (am F F) ?_) | refine ac F F ?_ | refine cR F (fun _=>?_) (fun _=>?_))
  all_goals
   refine da (.inl F) F (cL (x0:=x2) (r:=r) (sc:=sc) (s:=s) (b:=true) (a:=none) (n:=0) (c:=0) (d:=13 - (n : Int) + 1) oM) F ?_
   rintro v G' L' ⟨rfl,rfl⟩
   dsimp only [zA,fA]
   exact ⟨[_],[bD r sc s true none 0 0 (13 - (n : Int) + 1 - 1)],⟨aF F F F F,trivial⟩,sB,Gh.le.refl _,cK (c:=⟨0,[],0,none,0,0⟩) fm oM (fun _=>⟨F,F,F⟩) ⟨Nat.le_refl _,fun h=>(by cases h),fun _=>hno⟩⟩
 ·
  refine cm [(0,_),(1,_)] Tryz.func92 kR Tryz.ntmps92 F F tU fun B hok hB hW=>?_
  repeat' (first | refine jM ?_ | (refine jo ?_;first | refine jO fun _=>?_ | refine jL fun _=>?_ | refine ak F ?_ | refine jD F F F ?_ | refine jV (dg F F) ?_))
  rename_i x2 x3 x4
  refine jo ?_
  refine cn (fi:=[]) (ca:=[Pt x2 0]) (az:=[]) F F ?_
  repeat' (first | refine jR ?_ | (refine jo ?_;first | refine ak F ?_ | refine jD F F F ?_ | refine jC F F F ?_ | refine jV (am F F) ?_) | refine ac F F ?_)
  all_goals
   refine da (.inl F) F (cL (x0:=x2) (r:=r) (sc:=sc) (s:=s) (b:=true) (a:=none) (n:=0) (c:=0) (d:=13 - ((0 : Nat) : Int) + 1) oM) F ?_
   rintro v G' L' ⟨rfl,rfl⟩
   dsimp only [zA,fA]
   exact ⟨[_],[bD r sc s true none 0 0 (13 - ((0 : Nat) : Int) + 1 - 1)],⟨aF F F F F,trivial⟩,sB,Gh.le.refl _,cK (c:=⟨0,[],0,none,0,0⟩) fm oM (fun _=>⟨F,F,F⟩) ⟨Nat.le_refl _,fun h=>(by cases h),fun _=>hno⟩⟩
theorem tw {n r sc m c : Nat} {qs : List cI} {k p s : act} {d : Int} {a : Option Addr} (hd : d = 13 - (n : Int)) (hn : n ≤ 12) (hU : qq n sc qs) (hS : ScI G sc qs) (hk : aJ (ah qs) k = true) (hs : p.length ≤ 1000) :
  dt acs 138 [Pt r 0,Ag [S (sg k),S (bs k),S (nm k)],S p] G [bD r sc s false a m c d] (fun v G' L'=>∃ u cc b',v = Ag (b7 cc) ∧ V.rep G' u cc ∧ L' = [bD r sc s b' a m c d] ∧ (b' = false → cP (rb (ah qs) n) k p = some u ∧ u.tot ≤ 100 * p.length) ∧ (b' = true → cP (rb (ah qs) n) k p = none)):=by
 have cx_vl : ∀ y,dt acs 92 [Pt y 0,Ag [S (sg k),S (bs k),S (nm k)]] G [bD y sc p false none 0 0 d] (fun v G' L'=>∃ u c s' b',v = Ag (b7 c) ∧ V.rep G' u c ∧ L' = [bD y sc s' b' none 0 0 d] ∧ sn (rb (ah qs) n k) p false u s' b'):=fun y=>we hd.symm oM (hU G y k p false hS hk hs)
 refine bI [(0,_),(1,_),(2,_)] Tryz.func138 kR Tryz.ntmps138 F F tU fun B hB hW=>?_
 repeat' (first | refine jR ?_ | (refine jo ?_;first | refine jO fun _=>?_ | refine jL fun _=>?_ | refine aV F ?_) | (refine aj (an (id:=1) _ (fun _ h=>h) ai ?_);refine jT 5 [0,1,2,4,5,6,7] (aa 12 247) ?_;(refine jG (aa 12 255) 3 F (aA F F F) ?_);(refine jG (aa 12 511) 8 F (aA F F F) ?_);(refine jG (aa 12 1023) 9 F (am F F) ?_);refine jA 10 F ?_;(refine jO fun _=>?_);refine jS (aa 12 2047) ?_;refine jT 0 [11] (aa 12 4095) ?_;refine jQ ?_))
 rename_i y
 refine jo ?_
 refine cU F F F (cx_vl y) F ?_
 rintro _ G1 _ hle ⟨u1,c1,t1,b1,rfl,hrep,rfl,hP⟩
 dsimp only [zA,fA]
 obtain ⟨hQ1,hQ2,hQ3⟩:=kx hP
 cases b1 with
 | true =>
  have hno : cP (rb (ah qs) n) k p = none:=by unfold cP;rw [hQ3 rfl]
  repeat' (first | refine jR ?_ | (refine jo ?_;first | refine jL fun _=>?_ | refine ak F ?_ | refine aV F ?_ | refine jD F F F ?_ | refine jC F F F ?_ | refine aE F ?_) | refine aw F F F ?_ | refine ac F F ?_)
  all_goals refine aO (vs:=[_]) F ⟨aF F F F F,trivial⟩ F sB ⟨hle,u1,c1,true,F,hrep,F,fun h=>(by cases h),fun _=>hno⟩
 | false =>
  obtain ⟨h1,h2,h3⟩:=hQ2 rfl
  cases t1 with
  | nil =>
   have hyes : cP (rb (ah qs) n) k p = some u1:=fZ h1
   repeat' (first | refine jR ?_ | (refine jo ?_;first | refine jL fun _=>?_ | refine ak F ?_ | refine aV F ?_ | refine jC F F F ?_ | refine aq F ?_) | refine al F F F ?_ | refine ad F F ?_)
   all_goals refine aO (vs:=[_]) F ⟨aF F F F F,trivial⟩ F sB ⟨hle,u1,c1,false,F,hrep,F,fun _=>⟨hyes,by simpa using h2⟩,fun h=>(by cases h)⟩
  | cons e t1 =>
   have hno : cP (rb (ah qs) n) k p = none:=by unfold cP;rw [h1]
   repeat' (first | refine jR ?_ | (refine jo ?_;first | refine jL fun _=>?_ | refine ak F ?_ | refine aV F ?_ | refine jD F F F ?_ | refine jC F F F ?_ | refine aq F ?_) | refine al F F F ?_ | refine ac F F ?_)
   all_goals refine aO (vs:=[_]) F ⟨aF F F F F,trivial⟩ F sB ⟨hle,u1,c1,true,F,hrep,F,fun h=>(by cases h),fun _=>hno⟩
theorem aa1 (x : act) : db (39 :: (x ++ [39])) = l5 x:=by
 cases x with
 | nil=>simp [db,xE,l5,bt]
 | cons c x =>
  have h:=s4 (s:=39 :: (c :: x ++ [39]))
  have hne : (39 :: (c :: x ++ [39]) : act) ≠ [39,39]:=fun e=>by simpa using congrArg List.length e
  have hl : (39 :: (c :: x ++ [39]) : act).length = x.length + 3:=by simp
  have e0 : bt (39 :: (c :: x ++ [39]) : act) 0 = 39:=rfl
  have e1 : bt (39 :: (c :: x ++ [39]) : act) (x.length + 3 - 1) = 39:=by
   rw [show x.length + 3 - 1 = (x.length + 1) + 1 by omega,dT,show x.length + 1 = (c :: x).length from rfl]
   simp [bt,List.getD]
  have e2 : ((39 :: (c :: x ++ [39]) : act).take (x.length + 3 - 1)).drop 1 = c :: x:=by
   rw [show x.length + 3 - 1 = (c :: x).length + 1 by simp,List.take_succ_cons,List.take_left];rfl
  rw [hl,e0,e1,e2,decide_eq_true hne,Bool.and_true] at h
  rw [h,decide_eq_true oM]
  simp
theorem aby {n r sc : Nat} {qs : List cI} {s : act} {d : Int} (hd : d = 12 - (n : Int)) (hn : n ≤ 12) (hr : aX (ah qs) [110] = none) (hs : s.length ≤ 1000) :
  dt acs 92 [Pt r 0,Ag (eh [110])] G [bD r sc s false none 0 0 d] (j9 (rb (ah qs) (n + 1) [110]) r sc s false d):=by
 have cx_sign:=@dz G [110] []
 have hrd:=zz (ts:=ah qs) (n:=n) (s:=s) hr
 show dt acs 92 [Pt r 0,Ag [S [],S [110],S []]] G [bD r sc s false none 0 0 d] _
 cases hg : bj s with
 | none =>
  rw [hg] at hrd
  have cx_nb:=fN (G:=G) (r:=r) (sc:=sc) (m:=0) (c:=0) (b:=false) (a:=none) (d:=d + 1) hg hs
  refine cm [(0,_),(1,_)] Tryz.func92 kR Tryz.ntmps92 F F tU fun B hok hB hW=>?_
  repeat' (first | refine jM ?_ | (refine jo ?_;first | refine jO fun _=>?_ | refine jL fun _=>?_ | refine ak F ?_ | refine jD F F F ?_ | refine jV (dg F F) ?_))
  rename_i x2 x3 x4
  refine jo ?_
  refine cn (fi:=[]) (ca:=[Pt x2 0]) (az:=[]) F F ?_
  repeat' (first | refine jR ?_ | (refine jo ?_;first | refine ak F ?_ | refine aV F ?_ | refine jC F F F ?_ | refine jV (am F F) ?_ | refine ab F F F cx_sign F ?_ | (refine ag F F F cx_nb F ?_;rintro _ _ ⟨rfl,rfl⟩;dsimp only [zA,fA]) | refine ab F F F (fO oM) F ?_) | refine ac F F ?_ | (refine ad F (by first | rfl | (refine decide_eq_false ?_;(omega))) ?_))
  all_goals
   refine da (.inl F) F (cL (x0:=x2) (r:=r) (sc:=sc) (s:=[]) (b:=true) (a:=none) (n:=0) (c:=0) (d:=d + 1) oM) F ?_
   rintro v G' L' ⟨rfl,rfl⟩
   dsimp only [zA,fA]
   exact ⟨[_],[bD r sc [] true none 0 0 (d + 1 - 1)],⟨aF F F F F,trivial⟩,sB,Gh.le.refl _,cK (c:=⟨110,br 0,0,none,0,0⟩) (bo dC dC) oM (fun _=>⟨F,F,F⟩) ⟨by simp,fun h=>(by cases h),fun _=>.inr hrd⟩⟩
 | some z =>
  obtain ⟨m,q⟩:=z
  obtain ⟨h1,h2,_⟩:=cF hg
  have hl:=bT hg
  rw [hg] at hrd
  have cx_nb:=ee (G:=G) (r:=r) (sc:=sc) (m:=0) (c:=0) (b:=false) (a:=none) (d:=d + 1) hg hs
  refine cm [(0,_),(1,_)] Tryz.func92 kR Tryz.ntmps92 F F tU fun B hok hB hW=>?_
  repeat' (first | refine jM ?_ | (refine jo ?_;first | refine jO fun _=>?_ | refine jL fun _=>?_ | refine ak F ?_ | refine jD F F F ?_ | refine jV (dg F F) ?_))
  rename_i x2 x3 x4
  refine jo ?_
  refine cn (fi:=[]) (ca:=[Pt x2 0]) (az:=[]) F F ?_
  repeat' (first | refine jR ?_ | (refine jo ?_;first | refine ak F ?_ | refine aV F ?_ | refine jC F F F ?_ | refine jV (am F F) ?_ | refine ab F F F cx_sign F ?_ | (refine ag F F F cx_nb F ?_;rintro _ _ ⟨rfl,rfl⟩;dsimp only [zA,fA]) | refine ab F F F (fO oM) F ?_) | refine ac F F ?_ | (refine ad F (by first | rfl | (refine decide_eq_false ?_;(omega))) ?_))
  all_goals
   refine da (.inl F) F (cL (x0:=x2) (r:=r) (sc:=sc) (s:=q) (b:=false) (a:=none) (n:=0) (c:=0) (d:=d + 1) oM) F ?_
   rintro v G' L' ⟨rfl,rfl⟩
   dsimp only [zA,fA]
   exact ⟨[_],[bD r sc q false none 0 0 (d + 1 - 1)],⟨aF F F F F,trivial⟩,sB,Gh.le.refl _,cK (c:=⟨110,br m,0,none,0,0⟩) (bo dC dC) oM (fun _=>⟨F,F,F⟩) ⟨oM,fun _=>⟨F,hrd⟩,fun h=>(by cases h)⟩⟩
theorem abA {n r sc : Nat} {qs : List cI} {s : act} {d : Int} (hd : d = 12 - (n : Int)) (hn : n ≤ 12) (hr : aX (ah qs) [102] = none) (hs : s.length ≤ 1000) :
  dt acs 92 [Pt r 0,Ag (eh [102])] G [bD r sc s false none 0 0 d] (j9 (rb (ah qs) (n + 1) [102]) r sc s false d):=by
 have cx_sign:=@dz G [102] []
 have hrd:=zB (ts:=ah qs) (n:=n) (s:=s) hr
 show dt acs 92 [Pt r 0,Ag [S [],S [102],S []]] G [bD r sc s false none 0 0 d] _
 cases hf : cq s with
 | none =>
  rw [hf] at hrd
  have cx_fl:=rY (G:=G) (r:=r) (sc:=sc) (n:=0) (c:=0) (s:=s) (b:=false) (a:=none) (d:=d + 1) (.inr hf) oM
  refine cm [(0,_),(1,_)] Tryz.func92 kR Tryz.ntmps92 F F tU fun B hok hB hW=>?_
  repeat' (first | refine jM ?_ | (refine jo ?_;first | refine jO fun _=>?_ | refine jL fun _=>?_ | refine ak F ?_ | refine jD F F F ?_ | refine jV (dg F F) ?_))
  rename_i x2 x3 x4
  refine jo ?_
  refine cn (fi:=[]) (ca:=[Pt x2 0]) (az:=[]) F F ?_
  repeat' (first | refine jR ?_ | (refine jo ?_;first | refine ak F ?_ | refine aV F ?_ | refine jC F F F ?_ | refine jV (am F F) ?_ | refine ab F F F cx_sign F ?_ | (refine ag F F F cx_fl F ?_;rintro _ _ ⟨q1,⟨rfl,hql⟩,rfl⟩;dsimp only [zA,fA])) | refine ac F F ?_ | (refine ad F (by first | rfl | (refine decide_eq_false ?_;(omega))) ?_))
  all_goals
   refine da (.inl F) F (cL (x0:=x2) (r:=r) (sc:=sc) (s:=q1) (b:=true) (a:=none) (n:=0) (c:=0) (d:=d + 1) oM) F ?_
   rintro v G' L' ⟨rfl,rfl⟩
   dsimp only [zA,fA]
   exact ⟨[_],[bD r sc q1 true none 0 0 (d + 1 - 1)],⟨aF F F F F,trivial⟩,sB,Gh.le.refl _,cK (c:=⟨102,[110,111],0,none,0,0⟩) (bo dC dC) oM (fun _=>⟨F,F,F⟩) ⟨hql,fun h=>(by cases h),fun _=>.inr hrd⟩⟩
 | some y =>
  obtain ⟨x,q⟩:=y
  rw [hf] at hrd
  have hin:=eS hf
  have hl : s.length = q.length + 1:=by rw [hin];rfl
  have cx_fl:=rX (G:=G) (r:=r) (sc:=sc) (n:=0) (c:=0) (s:=s) (q:=q) (x:=x) (a:=none) (d:=d + 1) hf oM
  cases x with
  | false =>
   refine cm [(0,_),(1,_)] Tryz.func92 kR Tryz.ntmps92 F F tU fun B hok hB hW=>?_
   repeat' (first | refine jM ?_ | (refine jo ?_;first | refine jO fun _=>?_ | refine jL fun _=>?_ | refine ak F ?_ | refine jD F F F ?_ | refine jV (dg F F) ?_))
   rename_i x2 x3 x4
   refine jo ?_
   refine cn (fi:=[]) (ca:=[Pt x2 0]) (az:=[]) F F ?_
   repeat' (first | refine jR ?_ | (refine jo ?_;first | refine ak F ?_ | refine aV F ?_ | refine jC F F F ?_ | refine jV (am F F) ?_ | refine ab F F F cx_sign F ?_ | (refine ag F F F cx_fl F ?_;rintro _ _ ⟨rfl,rfl⟩;dsimp only [zA,fA])) | refine ac F F ?_ | (refine ad F (by first | rfl | (refine decide_eq_false ?_;(omega))) ?_))
   all_goals
    refine da (.inl F) F (cL (x0:=x2) (r:=r) (sc:=sc) (s:=q) (b:=false) (a:=none) (n:=0) (c:=0) (d:=d + 1) oM) F ?_
    rintro v G' L' ⟨rfl,rfl⟩
    dsimp only [zA,fA]
    exact ⟨[_],[bD r sc q false none 0 0 (d + 1 - 1)],⟨aF F F F F,trivial⟩,sB,Gh.le.refl _,cK (c:=⟨102,[110,111],0,none,0,0⟩) (bo dC dC) oM (fun _=>⟨F,F,F⟩) ⟨oM,fun _=>⟨F,hrd⟩,fun h=>(by cases h)⟩⟩
  | true =>
   refine cm [(0,_),(1,_)] Tryz.func92 kR Tryz.ntmps92 F F tU fun B hok hB hW=>?_
   repeat' (first | refine jM ?_ | (refine jo ?_;first | refine jO fun _=>?_ | refine jL fun _=>?_ | refine ak F ?_ | refine jD F F F ?_ | refine jV (dg F F) ?_))
   rename_i x2 x3 x4
   refine jo ?_
   refine cn (fi:=[]) (ca:=[Pt x2 0]) (az:=[]) F F ?_
   repeat' (first | refine jR ?_ | (refine jo ?_;first | refine ak F ?_ | refine aV F ?_ | refine jC F F F ?_ | refine jV (am F F) ?_ | refine ab F F F cx_sign F ?_ | (refine ag F F F cx_fl F ?_;rintro _ _ ⟨rfl,rfl⟩;dsimp only [zA,fA])) | refine ac F F ?_ | (refine ad F (by first | rfl | (refine decide_eq_false ?_;(omega))) ?_))
   all_goals
    refine da (.inl F) F (cL (x0:=x2) (r:=r) (sc:=sc) (s:=q) (b:=false) (a:=none) (n:=0) (c:=0) (d:=d + 1) oM) F ?_
    rintro v G' L' ⟨rfl,rfl⟩
    dsimp only [zA,fA]
    exact ⟨[_],[bD r sc q false none 0 0 (d + 1 - 1)],⟨aF F F F F,trivial⟩,sB,Gh.le.refl _,cK (c:=⟨102,[121,101,115],0,none,0,0⟩) (bo dC dC) oM (fun _=>⟨F,F,F⟩) ⟨oM,fun _=>⟨F,hrd⟩,fun h=>(by cases h)⟩⟩
theorem gv {s : act} : (bj s = none ∧ cd s = none) ∨ ∃ (m : Nat) (q : act),bj s = some ((m : Int),q) ∧ m ≤ 999999 ∧ ((q.length < m ∧ cd s = none) ∨ (m ≤ q.length ∧ cd s = some (q.take m,q.drop m))):=by
 cases h : bj s with
 | none=>exact .inl ⟨F,by unfold cd;rw [h]⟩
 | some z =>
  obtain ⟨n,q⟩:=z
  obtain ⟨h0,h1,_⟩:=cF h
  obtain ⟨m,rfl⟩ : ∃ m : Nat,n = (m : Int):=⟨n.toNat,oM⟩
  refine .inr ⟨m,q,F,oM,?_⟩
  by_cases hl : m ≤ q.length
  ·exact .inr ⟨hl,by unfold cd;rw [h];dsimp only;rw [Int.toNat_natCast,if_pos hl]⟩
  ·exact .inl ⟨oM,by unfold cd;rw [h];dsimp only;rw [Int.toNat_natCast,if_neg hl]⟩
theorem abv {n r sc : Nat} {qs : List cI} {s : act} {d : Int} (hd : d = 12 - (n : Int)) (hn : n ≤ 12) (hr : aX (ah qs) [116] = none) (hs : s.length ≤ 1000) :
  dt acs 92 [Pt r 0,Ag (eh [116])] G [bD r sc s false none 0 0 d] (j9 (rb (ah qs) (n + 1) [116]) r sc s false d):=by
 have cx_sign:=@dz G [116] []
 have hrd:=zx (ts:=ah qs) (n:=n) (s:=s) hr
 show dt acs 92 [Pt r 0,Ag [S [],S [116],S []]] G [bD r sc s false none 0 0 d] _
 rcases gv (s:=s) with ⟨hg,ht⟩ | ⟨m,q,hg,hm,⟨hl,ht⟩ | ⟨hl,ht⟩⟩
 ·rw [ht] at hrd
  dsimp only at hrd
  have cx_nb:=fN (G:=G) (r:=r) (sc:=sc) (m:=0) (c:=0) (b:=false) (a:=none) (d:=d + 1) hg hs
  have cx_tkb:=fy (G:=G) (r:=r) (sc:=sc) (m:=0) (n:=0) (c:=0) (s:=[]) (b:=true) (a:=none) (d:=d + 1) (.inl rfl) ⟨by simp,oM⟩
  have cx_tkb : cx acs 64 [Pt r 0,I 0] G [bD r sc [] true none 0 0 (d + 1)] (fun v L'=>v = S [] ∧ L' = [bD r sc [] true none 0 0 (d + 1)]):=cx_tkb
  refine cm [(0,_),(1,_)] Tryz.func92 kR Tryz.ntmps92 F F tU fun B hok hB hW=>?_
  repeat' (first | refine jM ?_ | (refine jo ?_;first | refine jO fun _=>?_ | refine jL fun _=>?_ | refine ak F ?_ | refine jD F F F ?_ | refine jV (dg F F) ?_))
  rename_i x2 x3 x4
  refine jo ?_
  refine cn (fi:=[]) (ca:=[Pt x2 0]) (az:=[]) F F ?_
  repeat' (first | refine jR ?_ | (refine jo ?_;first | refine ak F ?_ | refine aV F ?_ | refine ab F F F cx_sign F ?_) | refine ac F F ?_ | (refine ad F (by first | rfl | (refine decide_eq_false ?_;(omega))) ?_))
  (refine aj (an (id:=26) [.blk x2 (.cells (List.toArray [Pt r 0]) fk (0,0))] (by intro y hy;simp only [List.mem_cons,List.not_mem_nil,or_false] at hy ⊢;simp [hy]) ai ?_);(refine jG (aa 5 1) 0 F (aA F F F) ?_);(refine jG (aa 5 3) 1 F (aA F F F) ?_);refine jA 2 F ?_;(refine ag F F F cx_nb F ?_;rintro _ _ ⟨rfl,rfl⟩;dsimp only [zA,fA]);refine jK (aa 5 7) ?_;refine jA 3 F ?_;(refine ag F F F cx_tkb F ?_;rintro _ _ ⟨rfl,rfl⟩;dsimp only [zA,fA]);refine jK (aa 5 15) ?_;refine jW 0 [4] (aa 5 31) ?_;refine jQ ?_)
  all_goals repeat' (first | refine jR ?_ | (refine jo ?_;first | refine jC F F F ?_ | refine jV (am F F) ?_ | (refine ab F F F (jk ?_) F ?_;(focus ((simp;done);done)))) | refine ad F F ?_)
  all_goals
   refine da (.inl F) F (cL (x0:=x2) (r:=r) (sc:=sc) (s:=[]) (b:=true) (a:=none) (n:=0) (c:=0) (d:=d + 1) oM) F ?_
   rintro v G' L' ⟨rfl,rfl⟩
   dsimp only [zA,fA]
   exact ⟨[_],[bD r sc [] true none 0 0 (d + 1 - 1)],⟨aF F F F F,trivial⟩,sB,Gh.le.refl _,cK (c:=⟨116,[],0,none,0,0⟩) (bo dC dC) oM (fun _=>⟨F,F,F⟩) ⟨by simp,fun h=>(by cases h),fun _=>.inr hrd⟩⟩
 ·rw [ht] at hrd
  dsimp only at hrd
  have hql:=bT hg
  have cx_nb:=ee (G:=G) (r:=r) (sc:=sc) (m:=0) (c:=0) (b:=false) (a:=none) (d:=d + 1) hg hs
  have cx_tkb:=fy (G:=G) (r:=r) (sc:=sc) (m:=m) (n:=0) (c:=0) (s:=q) (b:=false) (a:=none) (d:=d + 1) (.inr hl) ⟨oM,oM⟩
  refine cm [(0,_),(1,_)] Tryz.func92 kR Tryz.ntmps92 F F tU fun B hok hB hW=>?_
  repeat' (first | refine jM ?_ | (refine jo ?_;first | refine jO fun _=>?_ | refine jL fun _=>?_ | refine ak F ?_ | refine jD F F F ?_ | refine jV (dg F F) ?_))
  rename_i x2 x3 x4
  refine jo ?_
  refine cn (fi:=[]) (ca:=[Pt x2 0]) (az:=[]) F F ?_
  repeat' (first | refine jR ?_ | (refine jo ?_;first | refine ak F ?_ | refine aV F ?_ | refine ab F F F cx_sign F ?_) | refine ac F F ?_ | (refine ad F (by first | rfl | (refine decide_eq_false ?_;(omega))) ?_))
  (refine aj (an (id:=26) [.blk x2 (.cells (List.toArray [Pt r 0]) fk (0,0))] (by intro y hy;simp only [List.mem_cons,List.not_mem_nil,or_false] at hy ⊢;simp [hy]) ai ?_);(refine jG (aa 5 1) 0 F (aA F F F) ?_);(refine jG (aa 5 3) 1 F (aA F F F) ?_);refine jA 2 F ?_;(refine ag F F F cx_nb F ?_;rintro _ _ ⟨rfl,rfl⟩;dsimp only [zA,fA]);refine jK (aa 5 7) ?_;refine jA 3 F ?_;(refine ag F F F cx_tkb F ?_;rintro _ _ ⟨rfl,rfl⟩;dsimp only [zA,fA]);refine jK (aa 5 15) ?_;refine jW 0 [4] (aa 5 31) ?_;refine jQ ?_)
  all_goals repeat' (first | refine jR ?_ | (refine jo ?_;first | refine jC F F F ?_ | refine jV (am F F) ?_ | (refine ab F F F (jk ?_) F ?_;(focus ((simp;done);done)))) | refine ad F F ?_)
  all_goals
   refine da (.inl F) F (cL (x0:=x2) (r:=r) (sc:=sc) (s:=q) (b:=true) (a:=none) (n:=0) (c:=0) (d:=d + 1) oM) F ?_
   rintro v G' L' ⟨rfl,rfl⟩
   dsimp only [zA,fA]
   exact ⟨[_],[bD r sc q true none 0 0 (d + 1 - 1)],⟨aF F F F F,trivial⟩,sB,Gh.le.refl _,cK (c:=⟨116,[],0,none,0,0⟩) (bo dC dC) oM (fun _=>⟨F,F,F⟩) ⟨oM,fun h=>(by cases h),fun _=>.inr hrd⟩⟩
 ·rw [ht] at hrd
  dsimp only at hrd
  rw [aa1] at hrd
  have hql:=bT hg
  have hdl : (q.drop m).length = q.length - m:=List.length_drop
  have htl : (q.take m).length ≤ 1000:=by rw [List.length_take];omega
  have cx_nb:=ee (G:=G) (r:=r) (sc:=sc) (m:=0) (c:=0) (b:=false) (a:=none) (d:=d + 1) hg hs
  have cx_tkb:=jj (G:=G) (r:=r) (sc:=sc) (m:=m) (n:=0) (c:=0) (s:=q) (a:=none) (d:=d + 1) ⟨hl,oM⟩
  cases hti : l5 (q.take m) with
  | true =>
   rw [hti] at hrd
   rw [if_pos rfl] at hrd
   refine cm [(0,_),(1,_)] Tryz.func92 kR Tryz.ntmps92 F F tU fun B hok hB hW=>?_
   repeat' (first | refine jM ?_ | (refine jo ?_;first | refine jO fun _=>?_ | refine jL fun _=>?_ | refine ak F ?_ | refine jD F F F ?_ | refine jV (dg F F) ?_))
   rename_i x2 x3 x4
   refine jo ?_
   refine cn (fi:=[]) (ca:=[Pt x2 0]) (az:=[]) F F ?_
   repeat' (first | refine jR ?_ | (refine jo ?_;first | refine ak F ?_ | refine aV F ?_ | refine ab F F F cx_sign F ?_) | refine ac F F ?_ | (refine ad F (by first | rfl | (refine decide_eq_false ?_;(omega))) ?_))
   (refine aj (an (id:=26) [.blk x2 (.cells (List.toArray [Pt r 0]) fk (0,0))] (by intro y hy;simp only [List.mem_cons,List.not_mem_nil,or_false] at hy ⊢;simp [hy]) ai ?_);(refine jG (aa 5 1) 0 F (aA F F F) ?_);(refine jG (aa 5 3) 1 F (aA F F F) ?_);refine jA 2 F ?_;(refine ag F F F cx_nb F ?_;rintro _ _ ⟨rfl,rfl⟩;dsimp only [zA,fA]);refine jK (aa 5 7) ?_;refine jA 3 F ?_;(refine ag F F F cx_tkb F ?_;rintro _ _ ⟨rfl,rfl⟩;dsimp only [zA,fA]);refine jK (aa 5 15) ?_;refine jW 0 [4] (aa 5 31) ?_;refine jQ ?_)
   all_goals repeat' (first | refine jR ?_ | (refine jo ?_;first | refine jC F F F ?_ | refine jV (am F F) ?_ | refine ab F F F (jk oM) F ?_) | (refine ad F ?_ ?_;(focus ((simp [*];done);done))))
   all_goals
    refine da (.inl F) F (cL (x0:=x2) (r:=r) (sc:=sc) (s:=(q.drop m)) (b:=false) (a:=none) (n:=0) (c:=0) (d:=d + 1) oM) F ?_
    rintro v G' L' ⟨rfl,rfl⟩
    dsimp only [zA,fA]
    exact ⟨[_],[bD r sc (q.drop m) false none 0 0 (d + 1 - 1)],⟨aF F F F F,trivial⟩,sB,Gh.le.refl _,cK (c:=⟨116,q.take m,0,none,0,0⟩) (bo dC dC) oM (fun _=>⟨F,F,F⟩) ⟨oM,fun _=>⟨F,hrd⟩,fun h=>(by cases h)⟩⟩
  | false =>
   rw [hti] at hrd
   rw [if_neg (by simp)] at hrd
   refine cm [(0,_),(1,_)] Tryz.func92 kR Tryz.ntmps92 F F tU fun B hok hB hW=>?_
   repeat' (first | refine jM ?_ | (refine jo ?_;first | refine jO fun _=>?_ | refine jL fun _=>?_ | refine ak F ?_ | refine jD F F F ?_ | refine jV (dg F F) ?_))
   rename_i x2 x3 x4
   refine jo ?_
   refine cn (fi:=[]) (ca:=[Pt x2 0]) (az:=[]) F F ?_
   repeat' (first | refine jR ?_ | (refine jo ?_;first | refine ak F ?_ | refine aV F ?_ | refine ab F F F cx_sign F ?_) | refine ac F F ?_ | (refine ad F (by first | rfl | (refine decide_eq_false ?_;(omega))) ?_))
   (refine aj (an (id:=26) [.blk x2 (.cells (List.toArray [Pt r 0]) fk (0,0))] (by intro y hy;simp only [List.mem_cons,List.not_mem_nil,or_false] at hy ⊢;simp [hy]) ai ?_);(refine jG (aa 5 1) 0 F (aA F F F) ?_);(refine jG (aa 5 3) 1 F (aA F F F) ?_);refine jA 2 F ?_;(refine ag F F F cx_nb F ?_;rintro _ _ ⟨rfl,rfl⟩;dsimp only [zA,fA]);refine jK (aa 5 7) ?_;refine jA 3 F ?_;(refine ag F F F cx_tkb F ?_;rintro _ _ ⟨rfl,rfl⟩;dsimp only [zA,fA]);refine jK (aa 5 15) ?_;refine jW 0 [4] (aa 5 31) ?_;refine jQ ?_)
   all_goals repeat' (first | refine jR ?_ | (refine jo ?_;first | refine ak F ?_ | refine jD F F F ?_ | refine jC F F F ?_ | refine jV (am F F) ?_ | refine ab F F F (jk oM) F ?_) | (refine ac F ?_ ?_;(focus ((simp [*];done);done))))
   all_goals
    refine da (.inl F) F (cL (x0:=x2) (r:=r) (sc:=sc) (s:=(q.drop m)) (b:=true) (a:=none) (n:=0) (c:=0) (d:=d + 1) oM) F ?_
    rintro v G' L' ⟨rfl,rfl⟩
    dsimp only [zA,fA]
    exact ⟨[_],[bD r sc (q.drop m) true none 0 0 (d + 1 - 1)],⟨aF F F F F,trivial⟩,sB,Gh.le.refl _,cK (c:=⟨116,q.take m,0,none,0,0⟩) (bo dC dC) oM (fun _=>⟨F,F,F⟩) ⟨oM,fun h=>(by cases h),fun _=>.inr hrd⟩⟩
theorem lx {p : Nat} {t : Ty} {m : Int} (hT : ir G p t) (hw : TyW t) (hm : 0 ≤ m ∧ m ≤ 999999) : av acs 137 [Pt p 0,I m] G (fun v=>∃ q,v = .pointer q):=by
 have hfl:=hw.len
 cases hft : bK t.fields m with
 | none =>
  obtain ⟨fv,ln,h1,h2⟩:=hT
  exact (d4 h1 h2 oM hft).mono fun v G' L' h=>⟨h.1,h.2.1,_,h.2.2⟩
 | some f =>
  obtain ⟨fv,ln,h1,h2⟩:=hT
  obtain ⟨j,hj,hjn,hjt,hjd⟩:=em hft
  obtain ⟨bf,of,cf,rfl,hsf⟩:=h2.expl oM
  exact (eM h1 hsf oM hj hjn hjt).mono fun v G' L' h=>⟨h.1,h.2.1,_,h.2.2⟩
theorem abB {n r sc p : Nat} {qs : List cI} {t : Ty} {x s : act} {d : Int} (hd : d = 12 - (n : Int)) (hn : n ≤ 12) (hS : ScI G sc qs) (hkv : lF (gx qs) x = some (Pt p 0)) (hT : ir G p t) (hw : TyW t) (hso : t.sort = 69) (hs : s.length ≤ 1000) :
  dt acs 92 [Pt r 0,Ag [S [],S [64],S x]] G [bD r sc s false none 0 0 d] (j9 (bS (ah qs) (rb (ah qs) n) t) r sc s false d):=by
 obtain ⟨u,m,g1,g2,g3⟩:=hS.at'
 obtain ⟨fv,ln,h1,h2⟩:=hT
 have hfl:=hw.len
 have hso' : (t.sort : Int) = 69:=oM
 have cx_sign:=@dz G [64] x
 have hrd : bS (ah qs) (rb (ah qs) n) t s = match bj s with
   | none=>none
   | some (m,r)=>match bK t.fields m with
    | none=>none
    | some d=>some (.nd 69 [] d.tag [],r):=by
  unfold bS
  rw [if_neg oM]
  rcases bj s with _ | ⟨m,r⟩
  ·rfl
  ·dsimp only
   rcases bK t.fields m with _ | d
   ·rfl
   ·dsimp only;rw [if_pos hso]
 cases hg : bj s with
 | none =>
  rw [hg] at hrd
  have cx_nb:=fN (G:=G) (r:=r) (sc:=sc) (m:=0) (c:=0) (b:=false) (a:=none) (d:=d + 1) hg hs
  have cx_fld:=d4 h1 h2 oM (jP hw)
  refine cm [(0,_),(1,_)] Tryz.func92 kR Tryz.ntmps92 F F tU fun B hok hB hW=>?_
  repeat' (first | refine jM ?_ | (refine jo ?_;first | refine jO fun _=>?_ | refine jL fun _=>?_ | refine ak F ?_ | refine jD F F F ?_ | refine jV (dg F F) ?_))
  rename_i x2 x3 x4
  refine jo ?_
  refine cn (fi:=[]) (ca:=[Pt x2 0]) (az:=[]) F F ?_
  repeat' (first | refine jR ?_ | (refine jo ?_;first | refine jL fun _=>?_ | refine ak F ?_ | refine aV F ?_ | refine jV (aG F F aS F F) ?_ | refine jD F F F ?_ | refine jC F F F ?_ | refine jV (am F F) ?_ | refine jV (cD F F) ?_ | refine ab F F F cx_sign F ?_ | (refine ag F F F cx_nb F ?_;rintro _ _ ⟨rfl,rfl⟩;dsimp only [zA,fA]) | refine ab F F F cx_fld F ?_) | (refine ac F (by first | rfl | (refine decide_eq_true ?_;(assumption))) ?_) | (refine ad F (by first | rfl | (refine decide_eq_false ?_;(omega))) ?_) | (refine aj (an (id:=34) _ (fun _ h=>h) ai ?_);refine jT 10 [7] (aa 11 128) ?_;(refine jG (aa 11 129) 0 F (aA F F F) ?_);refine jT 7 [1,2] (aa 11 135) ?_;(refine jG (aa 11 143) 3 F (aA F F F) ?_);refine jT 4 [4,5] (aa 11 191) ?_;(refine jG (aa 11 255) 6 F (aG F F aS F F) ?_);(refine jG (aa 11 511) 8 F (aA F F F) ?_);((refine jG (aa 11 1023) 9 F (cJ F F (eE aS) aS F) ?_));refine jT 0 [10] (aa 11 2047) ?_;refine jQ ?_))
  all_goals
   refine da (.inl F) F (cL (x0:=x2) (r:=r) (sc:=sc) (s:=[]) (b:=true) (a:=none) (n:=0) (c:=0) (d:=d + 1) oM) F ?_
   rintro v G' L' ⟨rfl,rfl⟩
   dsimp only [zA,fA]
   exact ⟨[_],[bD r sc [] true none 0 0 (d + 1 - 1)],⟨aF F F F F,trivial⟩,sB,Gh.le.refl _,cK (c:=⟨69,[],0,none,0,0⟩) (bo dC dC) oM (fun _=>⟨F,F,F⟩) ⟨by simp,fun h=>(by cases h),fun _=>.inr hrd⟩⟩
 | some z =>
  obtain ⟨m,q⟩:=z
  obtain ⟨hm0,hm1,_⟩:=cF hg
  have hl:=bT hg
  rw [hg] at hrd
  dsimp only at hrd
  have cx_nb:=ee (G:=G) (r:=r) (sc:=sc) (m:=0) (c:=0) (b:=false) (a:=none) (d:=d + 1) hg hs
  cases hft : bK t.fields m with
  | none =>
   rw [hft] at hrd
   have cx_fld:=d4 h1 h2 oM hft
   refine cm [(0,_),(1,_)] Tryz.func92 kR Tryz.ntmps92 F F tU fun B hok hB hW=>?_
   repeat' (first | refine jM ?_ | (refine jo ?_;first | refine jO fun _=>?_ | refine jL fun _=>?_ | refine ak F ?_ | refine jD F F F ?_ | refine jV (dg F F) ?_))
   rename_i x2 x3 x4
   refine jo ?_
   refine cn (fi:=[]) (ca:=[Pt x2 0]) (az:=[]) F F ?_
   repeat' (first | refine jR ?_ | (refine jo ?_;first | refine jL fun _=>?_ | refine ak F ?_ | refine aV F ?_ | refine jV (aG F F aS F F) ?_ | refine jD F F F ?_ | refine jC F F F ?_ | refine jV (am F F) ?_ | refine jV (cD F F) ?_ | refine ab F F F cx_sign F ?_ | (refine ag F F F cx_nb F ?_;rintro _ _ ⟨rfl,rfl⟩;dsimp only [zA,fA]) | refine ab F F F cx_fld F ?_) | (refine ac F (by first | rfl | (refine decide_eq_true ?_;(assumption))) ?_) | (refine ad F (by first | rfl | (refine decide_eq_false ?_;(omega))) ?_) | (refine aj (an (id:=34) _ (fun _ h=>h) ai ?_);refine jT 10 [7] (aa 11 128) ?_;(refine jG (aa 11 129) 0 F (aA F F F) ?_);refine jT 7 [1,2] (aa 11 135) ?_;(refine jG (aa 11 143) 3 F (aA F F F) ?_);refine jT 4 [4,5] (aa 11 191) ?_;(refine jG (aa 11 255) 6 F (aG F F aS F F) ?_);(refine jG (aa 11 511) 8 F (aA F F F) ?_);((refine jG (aa 11 1023) 9 F (cJ F F (eE aS) aS F) ?_));refine jT 0 [10] (aa 11 2047) ?_;refine jQ ?_))
   all_goals
    refine da (.inl F) F (cL (x0:=x2) (r:=r) (sc:=sc) (s:=q) (b:=true) (a:=none) (n:=0) (c:=0) (d:=d + 1) oM) F ?_
    rintro v G' L' ⟨rfl,rfl⟩
    dsimp only [zA,fA]
    exact ⟨[_],[bD r sc q true none 0 0 (d + 1 - 1)],⟨aF F F F F,trivial⟩,sB,Gh.le.refl _,cK (c:=⟨69,[],m,none,0,0⟩) (bo dC oM) oM (fun _=>⟨F,F,F⟩) ⟨oM,fun h=>(by cases h),fun _=>.inr hrd⟩⟩
  | some f =>
   rw [hft] at hrd
   obtain ⟨j,hj,hjn,hjt,hjd⟩:=em hft
   obtain ⟨bf,of,cf,rfl,hsf⟩:=h2.expl oM
   have cx_fld:=eM h1 hsf oM hj hjn hjt
   have hft2 : f.tag = m:=by rw [← hjd];exact hjt
   dsimp only at hrd
   rw [hft2] at hrd
   refine cm [(0,_),(1,_)] Tryz.func92 kR Tryz.ntmps92 F F tU fun B hok hB hW=>?_
   repeat' (first | refine jM ?_ | (refine jo ?_;first | refine jO fun _=>?_ | refine jL fun _=>?_ | refine ak F ?_ | refine jD F F F ?_ | refine jV (dg F F) ?_))
   rename_i x2 x3 x4
   refine jo ?_
   refine cn (fi:=[]) (ca:=[Pt x2 0]) (az:=[]) F F ?_
   repeat' (first | refine jR ?_ | (refine jo ?_;first | refine jL fun _=>?_ | refine ak F ?_ | refine aV F ?_ | refine jV (aG F F aS F F) ?_ | refine jC F F F ?_ | refine jV (am F F) ?_ | refine jV (cD F F) ?_ | refine ab F F F cx_sign F ?_ | (refine ag F F F cx_nb F ?_;rintro _ _ ⟨rfl,rfl⟩;dsimp only [zA,fA]) | refine ab F F F cx_fld F ?_) | refine ac F (ar ‹_›) ?_ | (refine ad F (by first | rfl | (refine decide_eq_false ?_;(omega))) ?_) | (refine aj (an (id:=34) _ (fun _ h=>h) ai ?_);refine jT 10 [7] (aa 11 128) ?_;(refine jG (aa 11 129) 0 F (aA F F F) ?_);refine jT 7 [1,2] (aa 11 135) ?_;(refine jG (aa 11 143) 3 F (aA F F F) ?_);refine jT 4 [4,5] (aa 11 191) ?_;(refine jG (aa 11 255) 6 F (aG F F aS F F) ?_);(refine jG (aa 11 511) 8 F (aA F F F) ?_);((refine jG (aa 11 1023) 9 F (cJ F F (eE aS) aS F) ?_));refine jT 0 [10] (aa 11 2047) ?_;refine jQ ?_))
   all_goals
    refine da (.inl F) F (cL (x0:=x2) (r:=r) (sc:=sc) (s:=q) (b:=false) (a:=none) (n:=0) (c:=0) (d:=d + 1) oM) F ?_
    rintro v G' L' ⟨rfl,rfl⟩
    dsimp only [zA,fA]
    exact ⟨[_],[bD r sc q false none 0 0 (d + 1 - 1)],⟨aF F F F F,trivial⟩,sB,Gh.le.refl _,cK (c:=⟨69,[],m,none,0,0⟩) (bo dC oM) oM (fun _=>⟨F,F,F⟩) ⟨oM,fun _=>⟨F,hrd⟩,fun h=>(by cases h)⟩⟩
theorem vC {n r sc p : Nat} {qs : List cI} {t : Ty} {x s q : act} {m : Int} {d : Int} (hd : d = 12 - (n : Int)) (hn : n ≤ 12) (hS : ScI G sc qs) (hkv : lF (gx qs) x = some (Pt p 0)) (hT : ir G p t) (hw : TyW t) (hso : t.sort = 85) (hs : s.length ≤ 1000) (hg : bj s = some (m,q)) (ht : cd q = none) (hrd : bS (ah qs) (rb (ah qs) n) t s = none) :
  dt acs 92 [Pt r 0,Ag [S [],S [64],S x]] G [bD r sc s false none 0 0 d] (j9 (bS (ah qs) (rb (ah qs) n) t) r sc s false d):=by
 obtain ⟨u,m2,g1,g2,g3⟩:=hS.at'
 have hso' : (t.sort : Int) = 85:=oM
 have cx_sign:=@dz G [64] x
 obtain ⟨hm0,hm1,_⟩:=cF hg
 have hl:=bT hg
 have cx_nb:=ee (G:=G) (r:=r) (sc:=sc) (m:=0) (c:=0) (b:=false) (a:=none) (d:=d + 1) hg hs
 have cx_fldg:=lx hT hw ⟨hm0,hm1⟩
 obtain ⟨fv,ln,h1,h2⟩:=hT
 rcases gv (s:=q) with ⟨hg2,ht2⟩ | ⟨m3,q2,hg2,hm,⟨hl3,ht2⟩ | ⟨hl3,ht2⟩⟩
 ·have cx_nb2:=fN (G:=G) (r:=r) (sc:=sc) (m:=0) (c:=0) (b:=false) (a:=none) (d:=d + 1) hg2 oM
  have cx_tkb:=fy (G:=G) (r:=r) (sc:=sc) (m:=0) (n:=0) (c:=0) (s:=[]) (b:=true) (a:=none) (d:=d + 1) (.inl rfl) ⟨by simp,oM⟩
  have cx_tkb : cx acs 64 [Pt r 0,I 0] G [bD r sc [] true none 0 0 (d + 1)] (fun v L'=>v = S [] ∧ L' = [bD r sc [] true none 0 0 (d + 1)]):=cx_tkb
  refine cm [(0,_),(1,_)] Tryz.func92 kR Tryz.ntmps92 F F tU fun B hok hB hW=>?_
  repeat' (first | refine jM ?_ | (refine jo ?_;first | refine jO fun _=>?_ | refine jL fun _=>?_ | refine ak F ?_ | refine jD F F F ?_ | refine jV (dg F F) ?_))
  rename_i x2 x3 x4
  refine jo ?_
  refine cn (fi:=[]) (ca:=[Pt x2 0]) (az:=[]) F F ?_
  repeat' (first | refine jR ?_ | (refine jo ?_;first | refine ak F ?_ | refine aV F ?_ | refine ab F F F cx_sign F ?_) | (refine ad F (by first | rfl | (refine decide_eq_false ?_;(omega))) ?_))
  (refine aj (an (id:=34) _ (fun _ h=>h) ai ?_);refine jT 10 [7] (aa 11 128) ?_;(refine jG (aa 11 129) 0 F (aA F F F) ?_);refine jT 7 [1,2] (aa 11 135) ?_;(refine jG (aa 11 143) 3 F (aA F F F) ?_);refine jT 4 [4,5] (aa 11 191) ?_;(refine jG (aa 11 255) 6 F (aG F F aS F F) ?_);(refine jG (aa 11 511) 8 F (aA F F F) ?_);((refine jG (aa 11 1023) 9 F (cJ F F (eE aS) aS F) ?_));refine jT 0 [10] (aa 11 2047) ?_;refine jQ ?_)
  all_goals repeat' (first | refine jR ?_ | (refine jo ?_;first | refine ak F ?_ | refine jV (aG F F aS F F) ?_ | (refine ag F F F cx_nb F ?_;rintro _ _ ⟨rfl,rfl⟩;dsimp only [zA,fA])) | refine ac F (ar ‹_›) ?_ | refine ad F (ay oM) ?_)
  (refine aj (an (id:=43) [.blk x2 (.cells (List.toArray [Pt r 0]) fk (0,0))] (by intro y hy;simp only [List.mem_cons,List.not_mem_nil,or_false] at hy ⊢;simp [hy]) ai ?_);(refine jG (aa 5 1) 0 F (aA F F F) ?_);(refine jG (aa 5 3) 1 F (aA F F F) ?_);refine jA 2 F ?_;(refine ag F F F cx_nb2 F ?_;rintro _ _ ⟨rfl,rfl⟩;dsimp only [zA,fA]);refine jK (aa 5 7) ?_;refine jA 3 F ?_;(refine ag F F F cx_tkb F ?_;rintro _ _ ⟨rfl,rfl⟩;dsimp only [zA,fA]);refine jK (aa 5 15) ?_;refine jW 0 [4] (aa 5 31) ?_;refine jQ ?_)
  repeat' (refine jR ?_)
  refine jo ?_
  refine c8 F F F cx_fldg F ?_
  rintro _ ⟨q9,rfl⟩
  cases q9
  all_goals repeat' (first | refine jR ?_ | (refine jo ?_;first | refine ak F ?_ | refine jD F F F ?_ | refine jC F F F ?_ | refine jV (am F F) ?_ | refine aE F ?_ | refine aq F ?_ | refine jV (cD F F) ?_) | refine aw F F F ?_ | refine al F F F ?_ | refine ac F F ?_)
  all_goals
   refine da (.inl F) F (cL (x0:=x2) (r:=r) (sc:=sc) (s:=[]) (b:=true) (a:=none) (n:=0) (c:=0) (d:=d + 1) oM) F ?_
   rintro v G' L' ⟨rfl,rfl⟩
   dsimp only [zA,fA]
   exact ⟨[_],[bD r sc [] true none 0 0 (d + 1 - 1)],⟨aF F F F F,trivial⟩,sB,Gh.le.refl _,cK (c:=⟨0,[],0,none,0,0⟩) fm oM (fun _=>⟨F,F,F⟩) ⟨by simp,fun h=>(by cases h),fun _=>.inr hrd⟩⟩
 ·have hl4:=bT hg2
  have cx_nb2:=ee (G:=G) (r:=r) (sc:=sc) (m:=0) (c:=0) (b:=false) (a:=none) (d:=d + 1) hg2 oM
  have cx_tkb:=fy (G:=G) (r:=r) (sc:=sc) (m:=m3) (n:=0) (c:=0) (s:=q2) (b:=false) (a:=none) (d:=d + 1) (.inr hl3) ⟨oM,oM⟩
  refine cm [(0,_),(1,_)] Tryz.func92 kR Tryz.ntmps92 F F tU fun B hok hB hW=>?_
  repeat' (first | refine jM ?_ | (refine jo ?_;first | refine jO fun _=>?_ | refine jL fun _=>?_ | refine ak F ?_ | refine jD F F F ?_ | refine jV (dg F F) ?_))
  rename_i x2 x3 x4
  refine jo ?_
  refine cn (fi:=[]) (ca:=[Pt x2 0]) (az:=[]) F F ?_
  repeat' (first | refine jR ?_ | (refine jo ?_;first | refine ak F ?_ | refine aV F ?_ | refine ab F F F cx_sign F ?_) | (refine ad F (by first | rfl | (refine decide_eq_false ?_;(omega))) ?_))
  (refine aj (an (id:=34) _ (fun _ h=>h) ai ?_);refine jT 10 [7] (aa 11 128) ?_;(refine jG (aa 11 129) 0 F (aA F F F) ?_);refine jT 7 [1,2] (aa 11 135) ?_;(refine jG (aa 11 143) 3 F (aA F F F) ?_);refine jT 4 [4,5] (aa 11 191) ?_;(refine jG (aa 11 255) 6 F (aG F F aS F F) ?_);(refine jG (aa 11 511) 8 F (aA F F F) ?_);((refine jG (aa 11 1023) 9 F (cJ F F (eE aS) aS F) ?_));refine jT 0 [10] (aa 11 2047) ?_;refine jQ ?_)
  all_goals repeat' (first | refine jR ?_ | (refine jo ?_;first | refine ak F ?_ | refine jV (aG F F aS F F) ?_ | (refine ag F F F cx_nb F ?_;rintro _ _ ⟨rfl,rfl⟩;dsimp only [zA,fA])) | refine ac F (ar ‹_›) ?_ | refine ad F (ay oM) ?_)
  (refine aj (an (id:=43) [.blk x2 (.cells (List.toArray [Pt r 0]) fk (0,0))] (by intro y hy;simp only [List.mem_cons,List.not_mem_nil,or_false] at hy ⊢;simp [hy]) ai ?_);(refine jG (aa 5 1) 0 F (aA F F F) ?_);(refine jG (aa 5 3) 1 F (aA F F F) ?_);refine jA 2 F ?_;(refine ag F F F cx_nb2 F ?_;rintro _ _ ⟨rfl,rfl⟩;dsimp only [zA,fA]);refine jK (aa 5 7) ?_;refine jA 3 F ?_;(refine ag F F F cx_tkb F ?_;rintro _ _ ⟨rfl,rfl⟩;dsimp only [zA,fA]);refine jK (aa 5 15) ?_;refine jW 0 [4] (aa 5 31) ?_;refine jQ ?_)
  repeat' (refine jR ?_)
  refine jo ?_
  refine c8 F F F cx_fldg F ?_
  rintro _ ⟨q9,rfl⟩
  cases q9
  all_goals repeat' (first | refine jR ?_ | (refine jo ?_;first | refine ak F ?_ | refine jD F F F ?_ | refine jC F F F ?_ | refine jV (am F F) ?_ | refine aE F ?_ | refine aq F ?_ | refine jV (cD F F) ?_) | refine aw F F F ?_ | refine al F F F ?_ | refine ac F F ?_)
  all_goals
   refine da (.inl F) F (cL (x0:=x2) (r:=r) (sc:=sc) (s:=q2) (b:=true) (a:=none) (n:=0) (c:=0) (d:=d + 1) oM) F ?_
   rintro v G' L' ⟨rfl,rfl⟩
   dsimp only [zA,fA]
   exact ⟨[_],[bD r sc q2 true none 0 0 (d + 1 - 1)],⟨aF F F F F,trivial⟩,sB,Gh.le.refl _,cK (c:=⟨0,[],0,none,0,0⟩) fm oM (fun _=>⟨F,F,F⟩) ⟨oM,fun h=>(by cases h),fun _=>.inr hrd⟩⟩
 ·rw [ht] at ht2;cases ht2
theorem abu {n r sc p : Nat} {qs : List cI} {t : Ty} {x s : act} {d : Int} (hd : d = 12 - (n : Int)) (hn : n ≤ 12) (hU : qq n sc qs) (hS : ScI G sc qs) (hkv : lF (gx qs) x = some (Pt p 0)) (hT : ir G p t) (hw : TyW t) (hkf : ∀ d ∈ t.fields,aJ (ah qs) d.kind = true) (hso : t.sort = 85) (hs : s.length ≤ 1000) :
  dt acs 92 [Pt r 0,Ag [S [],S [64],S x]] G [bD r sc s false none 0 0 d] (j9 (bS (ah qs) (rb (ah qs) n) t) r sc s false d):=by
 obtain ⟨u,m2,g1,g2,g3⟩:=hS.at'
 have hT2:=hT
 obtain ⟨fv,ln,h1,h2⟩:=hT
 have hfl:=hw.len
 have hso' : (t.sort : Int) = 85:=oM
 have cx_sign:=@dz G [64] x
 have hrd : bS (ah qs) (rb (ah qs) n) t s = match bj s with
   | none=>none
   | some (m,r)=>match bK t.fields m with
    | none=>none
    | some d=>match cd r with
     | none=>none
     | some (p,r')=>(cP (rb (ah qs) n) d.kind p).map fun v=>(.nd 85 [] d.tag [v],r'):=by
  unfold bS
  rw [if_neg oM]
  rcases bj s with _ | ⟨m,r⟩
  ·rfl
  ·dsimp only
   rcases bK t.fields m with _ | d
   ·rfl
   ·dsimp only;rw [if_neg oM]
    all_goals (rcases cd r with _ | ⟨p,r'⟩ <;> rfl)
 cases hg : bj s with
 | none =>
  rw [hg] at hrd
  have cx_nb:=fN (G:=G) (r:=r) (sc:=sc) (m:=0) (c:=0) (b:=false) (a:=none) (d:=d + 1) hg hs
  have cx_nb2:=fN (G:=G) (r:=r) (sc:=sc) (m:=0) (c:=0) (s:=[]) (b:=true) (a:=none) (d:=d + 1) rfl (by simp)
  have cx_tkb:=fy (G:=G) (r:=r) (sc:=sc) (m:=0) (n:=0) (c:=0) (s:=[]) (b:=true) (a:=none) (d:=d + 1) (.inl rfl) ⟨by simp,oM⟩
  have cx_tkb : cx acs 64 [Pt r 0,I 0] G [bD r sc [] true none 0 0 (d + 1)] (fun v L'=>v = S [] ∧ L' = [bD r sc [] true none 0 0 (d + 1)]):=cx_tkb
  have cx_fld:=d4 h1 h2 oM (jP hw)
  refine cm [(0,_),(1,_)] Tryz.func92 kR Tryz.ntmps92 F F tU fun B hok hB hW=>?_
  repeat' (first | refine jM ?_ | (refine jo ?_;first | refine jO fun _=>?_ | refine jL fun _=>?_ | refine ak F ?_ | refine jD F F F ?_ | refine jV (dg F F) ?_))
  rename_i x2 x3 x4
  refine jo ?_
  refine cn (fi:=[]) (ca:=[Pt x2 0]) (az:=[]) F F ?_
  repeat' (first | refine jR ?_ | (refine jo ?_;first | refine ak F ?_ | refine aV F ?_ | refine ab F F F cx_sign F ?_) | (refine ad F (by first | rfl | (refine decide_eq_false ?_;(omega))) ?_))
  (refine aj (an (id:=34) _ (fun _ h=>h) ai ?_);refine jT 10 [7] (aa 11 128) ?_;(refine jG (aa 11 129) 0 F (aA F F F) ?_);refine jT 7 [1,2] (aa 11 135) ?_;(refine jG (aa 11 143) 3 F (aA F F F) ?_);refine jT 4 [4,5] (aa 11 191) ?_;(refine jG (aa 11 255) 6 F (aG F F aS F F) ?_);(refine jG (aa 11 511) 8 F (aA F F F) ?_);((refine jG (aa 11 1023) 9 F (cJ F F (eE aS) aS F) ?_));refine jT 0 [10] (aa 11 2047) ?_;refine jQ ?_)
  all_goals repeat' (first | refine jR ?_ | (refine jo ?_;first | refine ak F ?_ | refine jV (aG F F aS F F) ?_ | (refine ag F F F cx_nb F ?_;rintro _ _ ⟨rfl,rfl⟩;dsimp only [zA,fA])) | refine ac F (ar ‹_›) ?_ | refine ad F (ay oM) ?_)
  (refine aj (an (id:=43) [.blk x2 (.cells (List.toArray [Pt r 0]) fk (0,0))] (by intro y hy;simp only [List.mem_cons,List.not_mem_nil,or_false] at hy ⊢;simp [hy]) ai ?_);(refine jG (aa 5 1) 0 F (aA F F F) ?_);(refine jG (aa 5 3) 1 F (aA F F F) ?_);refine jA 2 F ?_;(refine ag F F F cx_nb2 F ?_;rintro _ _ ⟨rfl,rfl⟩;dsimp only [zA,fA]);refine jK (aa 5 7) ?_;refine jA 3 F ?_;(refine ag F F F cx_tkb F ?_;rintro _ _ ⟨rfl,rfl⟩;dsimp only [zA,fA]);refine jK (aa 5 15) ?_;refine jW 0 [4] (aa 5 31) ?_;refine jQ ?_)
  all_goals repeat' (first | refine jR ?_ | (refine jo ?_;first | refine ak F ?_ | refine jD F F F ?_ | refine jC F F F ?_ | refine jV (am F F) ?_ | refine aE F ?_ | refine jV (cD F F) ?_ | refine ab F F F cx_fld F ?_) | refine aw F F F ?_ | refine ac F F ?_)
  all_goals
   refine da (.inl F) F (cL (x0:=x2) (r:=r) (sc:=sc) (s:=[]) (b:=true) (a:=none) (n:=0) (c:=0) (d:=d + 1) oM) F ?_
   rintro v G' L' ⟨rfl,rfl⟩
   dsimp only [zA,fA]
   exact ⟨[_],[bD r sc [] true none 0 0 (d + 1 - 1)],⟨aF F F F F,trivial⟩,sB,Gh.le.refl _,cK (c:=⟨0,[],0,none,0,0⟩) fm oM (fun _=>⟨F,F,F⟩) ⟨by simp,fun h=>(by cases h),fun _=>.inr hrd⟩⟩
 | some z =>
  obtain ⟨m,q⟩:=z
  obtain ⟨hm0,hm1,_⟩:=cF hg
  have hl:=bT hg
  rw [hg] at hrd
  dsimp only at hrd
  rcases gv (s:=q) with ⟨hg2,ht⟩ | ⟨m3,q2,hg2,hm,⟨hl3,ht⟩ | ⟨hl3,ht⟩⟩
  ·refine vC hd hn hS hkv hT2 hw hso hs hg ht ?_
   rw [hrd,ht]
   cases bK t.fields m <;> rfl
  ·refine vC hd hn hS hkv hT2 hw hso hs hg ht ?_
   rw [hrd,ht]
   cases bK t.fields m <;> rfl
  have hl4:=bT hg2
  have hdl : (q2.drop m3).length = q2.length - m3:=List.length_drop
  have htl : (q2.take m3).length ≤ 1000:=by rw [List.length_take];omega
  have cx_nb:=ee (G:=G) (r:=r) (sc:=sc) (m:=0) (c:=0) (b:=false) (a:=none) (d:=d + 1) hg hs
  have cx_nb2:=ee (G:=G) (r:=r) (sc:=sc) (m:=0) (c:=0) (b:=false) (a:=none) (d:=d + 1) hg2 oM
  have cx_tkb:=jj (G:=G) (r:=r) (sc:=sc) (m:=m3) (n:=0) (c:=0) (s:=q2) (a:=none) (d:=d + 1) ⟨hl3,oM⟩
  cases hft : bK t.fields m with
  | none =>
   rw [hft] at hrd
   have cx_fld:=d4 h1 h2 oM hft
   refine cm [(0,_),(1,_)] Tryz.func92 kR Tryz.ntmps92 F F tU fun B hok hB hW=>?_
   repeat' (first | refine jM ?_ | (refine jo ?_;first | refine jO fun _=>?_ | refine jL fun _=>?_ | refine ak F ?_ | refine jD F F F ?_ | refine jV (dg F F) ?_))
   rename_i x2 x3 x4
   refine jo ?_
   refine cn (fi:=[]) (ca:=[Pt x2 0]) (az:=[]) F F ?_
   repeat' (first | refine jR ?_ | (refine jo ?_;first | refine ak F ?_ | refine aV F ?_ | refine ab F F F cx_sign F ?_) | (refine ad F (by first | rfl | (refine decide_eq_false ?_;(omega))) ?_))
   (refine aj (an (id:=34) _ (fun _ h=>h) ai ?_);refine jT 10 [7] (aa 11 128) ?_;(refine jG (aa 11 129) 0 F (aA F F F) ?_);refine jT 7 [1,2] (aa 11 135) ?_;(refine jG (aa 11 143) 3 F (aA F F F) ?_);refine jT 4 [4,5] (aa 11 191) ?_;(refine jG (aa 11 255) 6 F (aG F F aS F F) ?_);(refine jG (aa 11 511) 8 F (aA F F F) ?_);((refine jG (aa 11 1023) 9 F (cJ F F (eE aS) aS F) ?_));refine jT 0 [10] (aa 11 2047) ?_;refine jQ ?_)
   all_goals repeat' (first | refine jR ?_ | (refine jo ?_;first | refine ak F ?_ | refine jV (aG F F aS F F) ?_ | (refine ag F F F cx_nb F ?_;rintro _ _ ⟨rfl,rfl⟩;dsimp only [zA,fA])) | refine ac F (ar ‹_›) ?_ | refine ad F (ay oM) ?_)
   (refine aj (an (id:=43) [.blk x2 (.cells (List.toArray [Pt r 0]) fk (0,0))] (by intro y hy;simp only [List.mem_cons,List.not_mem_nil,or_false] at hy ⊢;simp [hy]) ai ?_);(refine jG (aa 5 1) 0 F (aA F F F) ?_);(refine jG (aa 5 3) 1 F (aA F F F) ?_);refine jA 2 F ?_;(refine ag F F F cx_nb2 F ?_;rintro _ _ ⟨rfl,rfl⟩;dsimp only [zA,fA]);refine jK (aa 5 7) ?_;refine jA 3 F ?_;(refine ag F F F cx_tkb F ?_;rintro _ _ ⟨rfl,rfl⟩;dsimp only [zA,fA]);refine jK (aa 5 15) ?_;refine jW 0 [4] (aa 5 31) ?_;refine jQ ?_)
   all_goals repeat' (first | refine jR ?_ | (refine jo ?_;first | refine ak F ?_ | refine jD F F F ?_ | refine jC F F F ?_ | refine jV (am F F) ?_ | refine aE F ?_ | refine jV (cD F F) ?_ | refine ab F F F cx_fld F ?_) | refine aw F F F ?_ | refine ac F F ?_)
   all_goals
    refine da (.inl F) F (cL (x0:=x2) (r:=r) (sc:=sc) (s:=(q2.drop m3)) (b:=true) (a:=none) (n:=0) (c:=0) (d:=d + 1) oM) F ?_
    rintro v G' L' ⟨rfl,rfl⟩
    dsimp only [zA,fA]
    exact ⟨[_],[bD r sc (q2.drop m3) true none 0 0 (d + 1 - 1)],⟨aF F F F F,trivial⟩,sB,Gh.le.refl _,cK (c:=⟨0,[],0,none,0,0⟩) fm oM (fun _=>⟨F,F,F⟩) ⟨oM,fun h=>(by cases h),fun _=>.inr hrd⟩⟩
  | some f =>
   rw [hft] at hrd
   obtain ⟨j,hj,hjn,hjt,hjd⟩:=em hft
   obtain ⟨bf,of,cf,rfl,hsf⟩:=h2.expl oM
   have cx_fld:=eM h1 hsf oM hj hjn hjt
   have hft2 : f.tag = m:=by rw [← hjd];exact hjt
   dsimp only at hrd
   rw [ht,hft2] at hrd
   dsimp only at hrd
   subst hjd
   have cx_prt:=tw (G:=G) (r:=r) (sc:=sc) (m:=0) (c:=0) (a:=none) (s:=q2.drop m3) (k:=(ae t.fields j).kind) (p:=q2.take m3) (d:=d + 1) oM oM hU hS (hkf _ (bR hj)) htl
   refine cm [(0,_),(1,_)] Tryz.func92 kR Tryz.ntmps92 F F tU fun B hok hB hW=>?_
   repeat' (first | refine jM ?_ | (refine jo ?_;first | refine jO fun _=>?_ | refine jL fun _=>?_ | refine ak F ?_ | refine jD F F F ?_ | refine jV (dg F F) ?_))
   rename_i x2 x3 x4
   refine jo ?_
   refine cn (fi:=[]) (ca:=[Pt x2 0]) (az:=[]) F F ?_
   repeat' (first | refine jR ?_ | (refine jo ?_;first | refine ak F ?_ | refine aV F ?_ | refine ab F F F cx_sign F ?_) | (refine ad F (by first | rfl | (refine decide_eq_false ?_;(omega))) ?_))
   (refine aj (an (id:=34) _ (fun _ h=>h) ai ?_);refine jT 10 [7] (aa 11 128) ?_;(refine jG (aa 11 129) 0 F (aA F F F) ?_);refine jT 7 [1,2] (aa 11 135) ?_;(refine jG (aa 11 143) 3 F (aA F F F) ?_);refine jT 4 [4,5] (aa 11 191) ?_;(refine jG (aa 11 255) 6 F (aG F F aS F F) ?_);(refine jG (aa 11 511) 8 F (aA F F F) ?_);((refine jG (aa 11 1023) 9 F (cJ F F (eE aS) aS F) ?_));refine jT 0 [10] (aa 11 2047) ?_;refine jQ ?_)
   all_goals repeat' (first | refine jR ?_ | (refine jo ?_;first | refine ak F ?_ | refine jV (aG F F aS F F) ?_ | (refine ag F F F cx_nb F ?_;rintro _ _ ⟨rfl,rfl⟩;dsimp only [zA,fA])) | refine ac F (ar ‹_›) ?_ | refine ad F (ay oM) ?_)
   (refine aj (an (id:=43) [.blk x2 (.cells (List.toArray [Pt r 0]) fk (0,0))] (by intro y hy;simp only [List.mem_cons,List.not_mem_nil,or_false] at hy ⊢;simp [hy]) ai ?_);(refine jG (aa 5 1) 0 F (aA F F F) ?_);(refine jG (aa 5 3) 1 F (aA F F F) ?_);refine jA 2 F ?_;(refine ag F F F cx_nb2 F ?_;rintro _ _ ⟨rfl,rfl⟩;dsimp only [zA,fA]);refine jK (aa 5 7) ?_;refine jA 3 F ?_;(refine ag F F F cx_tkb F ?_;rintro _ _ ⟨rfl,rfl⟩;dsimp only [zA,fA]);refine jK (aa 5 15) ?_;refine jW 0 [4] (aa 5 31) ?_;refine jQ ?_)
   all_goals repeat' (first | refine jR ?_ | (refine jo ?_;first | refine ak F ?_ | refine aq F ?_ | refine jV (cD F F) ?_ | refine ab F F F cx_fld F ?_) | refine al F F F ?_ | refine ad F F ?_)
   (refine aj (an (id:=48) [.blk x2 (.cells (List.toArray [Pt r 0]) fk (0,0))] (by intro y hy;simp only [List.mem_cons,List.not_mem_nil,or_false] at hy ⊢;simp [hy]) ai ?_);refine jW 11 [0,2,3,4,6] (aa 16 93) ?_;(refine jG (aa 16 95) 1 F (aA F F F) ?_);((refine jG (aa 16 127) 5 F (ij F F aS ?_ F F) ?_;focus omega));refine jA 7 F ?_;(refine cU F F F cx_prt F ?_;rintro _ G1 _ hle ⟨u1,c1,b1,rfl,hrep,rfl,hQ2,hQ3⟩;dsimp only [zA,fA];skip);refine jK (aa 16 255) ?_;refine cy [8,9] kR dC ⟨?_,?_,trivial⟩;(focus (refine a9 F F ?_;(refine jF fun _=>?_);refine jK (aa 16 511) ?_;refine jA 9 F ?_;(refine jC F F F ?_);refine jK (aa 16 1023) ?_;refine jW 5 [10] (aa 16 2047) ?_;refine jA 11 F ?_;(refine jD F F F ?_);refine jK (aa 16 4095) ?_;refine jW 3 [12] (aa 16 8191) ?_;refine jA 13 F ?_;(refine jD F F F ?_);refine jK (aa 16 16383) ?_;refine jW 1 [14] (aa 16 32767) ?_;refine jA 15 F ?_;(refine jD F F F ?_);refine jK (aa 16 65535) ?_;refine jQ ?_));rotate_left 1;(focus (refine a9 F F ?_;(refine jC F F F ?_);refine jK (aa 16 767) ?_;refine jW 6 [10] (aa 16 1791) ?_;refine cy [8,11] kR dC ⟨?_,?_,trivial⟩;(focus (refine a9 F F ?_;(refine jF fun _=>?_);refine jK (aa 16 2047) ?_;refine jA 11 F ?_;(refine jD F F F ?_);refine jK (aa 16 4095) ?_;refine jW 3 [12] (aa 16 8191) ?_;refine jA 13 F ?_;(refine jD F F F ?_);refine jK (aa 16 16383) ?_;refine jW 1 [14] (aa 16 32767) ?_;refine jA 15 F ?_;(refine jD F F F ?_);refine jK (aa 16 65535) ?_;refine jQ ?_));rotate_left 1;(focus (refine a9 F F ?_;(refine jD F F F ?_);refine jK (aa 16 3839) ?_;refine jW 4 [12] (aa 16 7935) ?_;refine cy [8,13] kR dC ⟨?_,?_,trivial⟩;(focus (refine a9 F F ?_;(refine jF fun _=>?_);refine jK (aa 16 8191) ?_;refine jA 13 F ?_;(refine jD F F F ?_);refine jK (aa 16 16383) ?_;refine jW 1 [14] (aa 16 32767) ?_;refine jA 15 F ?_;(refine jD F F F ?_);refine jK (aa 16 65535) ?_;refine jQ ?_));rotate_left 1;(focus (refine a9 F F ?_;(refine jD F F F ?_);refine jK (aa 16 16127) ?_;refine jA 8 F ?_;(refine jF fun _=>?_);refine jK (aa 16 16383) ?_;refine jW 1 [14] (aa 16 32767) ?_;refine jA 15 F ?_;(refine jD F F F ?_);refine jK (aa 16 65535) ?_;refine jQ ?_));rotate_left 1));rotate_left 2));rotate_left 3)
   all_goals repeat' (refine jR ?_)
   all_goals
    rename_i y
    refine Nx.sealC (b:=y) fun G2 hG2 hsy=>?_
    have hsl : a8 G2 (.slice (some ⟨y,0,none⟩) 1 1) 4 ([c1] : List VC).length (aI b7 [c1]):=⟨rfl,.inr ⟨y,0,1,rfl,Nat.le_refl _,hsy⟩⟩
    refine da (.inl F) F (cL (x0:=x2) (r:=r) (sc:=sc) (s:=(q2.drop m3)) (b:=b1) (a:=none) (n:=0) (c:=0) (d:=d + 1) oM) F ?_
    rintro v G' L' ⟨rfl,rfl⟩
    dsimp only [zA,fA]
    exact ⟨[_],[bD r sc (q2.drop m3) b1 none 0 0 (d + 1 - 1)],⟨aF F F F F,trivial⟩,sB,(hle.trans hG2),cK (c:=⟨85,[],m,some ⟨y,0,none⟩,1,1⟩) (cX (ks:=[u1]) dC oM (fun _=>rfl) F hsl ⟨_,[],F,fY hG2 hrep,F⟩) oM (fun _=>⟨F,F,F⟩) ⟨oM,fun h=>⟨F,by rw [hrd,(hQ2 h).1];rfl⟩,fun h=>.inr (by rw [hrd,hQ3 h];rfl)⟩⟩
abbrev tR : TypeId:=76
abbrev xb : TypeId:=3
theorem aau {n r sc p : Nat} {qs : List cI} {t : Ty} {s : act} {d : Int} (hd : d = 13 - (n : Int)) (hn : n ≤ 12) (hU : qq n sc qs) (hS : ScI G sc qs) (hW0 : SchW (ah qs)) (hT : ir G p t) (hw : TyW t) (hkf : ∀ d ∈ t.fields,aJ (ah qs) d.kind = true) (hs : s.length ≤ 1000) :
  dt acs 139 [Pt r 0,Pt p 0] G [bD r sc s false none 0 0 d] (fun v G' L'=>∃ u c s' b' a m k,v = Ag (b7 c) ∧ V.rep G' u c ∧ L' = [bD r sc s' b' a m k d] ∧ (d ≠ 1 → a = none ∧ m = 0 ∧ k = 0) ∧ sn (fun s=>(bH (ah qs) (rb (ah qs) n) t (s.length + 1) 0 s []).map fun x=>(.nd 82 [] 0 x.1,x.2)) s false u s' b'):=by
 have hT2:=hT
 obtain ⟨fv,ln,h1',h2⟩:=hT
 have hfl:=hw.len
 refine bI [(0,_),(1,_)] Tryz.func139 kR Tryz.ntmps139 F F tU fun B hB hW=>?_
 repeat' (first | refine jR ?_ | (refine jo ?_;first | refine jL fun _=>?_ | refine jV (am F F) ?_ | refine jC F F F ?_))
 rename_i x4 x5
 refine Nx.addNil tR 4 (Nx.addNil xb 1 (Nx.perm (List.perm_append_comm (l₁:=[_,_,_,_]) (l₂:=[_])) ?_))
 dsimp only [zA,fA]
 refine aR (ι:=List V × List VC × Option Addr × Nat × List Int × Option Addr × Nat × act × Bool × Nat × Int × Gh) (fun y=>(V.reps y.2.2.2.2.2.2.2.2.2.2.2 y.1 y.2.1 ∧ Gh.le G y.2.2.2.2.2.2.2.2.2.2.2) ∧ (y.2.2.2.2.2.2.2.2.1 = false → bH (ah qs) (rb (ah qs) n) t (s.length + 1) 0 s [] = bH (ah qs) (rb (ah qs) n) t y.2.2.2.2.2.2.2.2.2.1 y.2.2.2.2.2.2.2.2.2.2.1 y.2.2.2.2.2.2.2.1 y.1 ∧ y.2.2.2.2.2.2.2.1.length < y.2.2.2.2.2.2.2.2.2.1) ∧ (y.2.2.2.2.2.2.2.2.1 = true → bH (ah qs) (rb (ah qs) n) t (s.length + 1) 0 s [] = none) ∧ (y.1.length + y.2.2.2.2.1.length + y.2.2.2.2.2.2.2.1.length ≤ s.length ∧ 0 ≤ y.2.2.2.2.2.2.2.2.2.2.1 ∧ y.2.2.2.2.2.2.2.2.2.2.1 ≤ 999999) ∧ (d ≠ 1 → y.2.2.2.2.1 = [] ∧ y.2.2.2.2.2.1 = none ∧ y.2.2.2.2.2.2.1 = 0)) (fun y=>[(0,Pt r 0),(1,Pt p 0),(4,Pt x4 0),(5,Pt x5 0),(6,I y.2.2.2.2.2.2.2.2.2.2.1)]) (fun y=>y.2.2.2.2.2.2.2.2.2.2.2) (fun y=>[bD r sc y.2.2.2.2.2.2.2.1 y.2.2.2.2.2.2.2.2.1 y.2.2.2.2.2.1 y.2.2.2.2.1.length y.2.2.2.2.2.2.1 d,.acc (.slice y.2.2.2.2.2.1 y.2.2.2.2.1.length y.2.2.2.2.2.2.1) xb 1 y.2.2.2.2.1.length (aI gk y.2.2.2.2.1),.acc (.slice y.2.2.1 y.1.length y.2.2.2.1) tR 4 y.1.length (aI b7 y.2.1),.blk x5 (.cells (List.toArray [U8 82,S [],I 0,.slice y.2.2.1 y.1.length y.2.2.2.1]) tR (0,0)),.blk x4 (.cells (List.toArray [U8 (0 : Nat),S [],I 0,aH]) tR (0,0))]) (fun y=>y.2.2.2.2.2.2.2.1.length) ([],[],none,0,[],none,0,s,false,s.length + 1,0,G) ?_ tU F aW (fun y Hy=>?_)
 ·exact ⟨⟨F,Gh.le.refl _⟩,fun _=>⟨F,Nat.lt_succ_self _⟩,fun h=>(by cases h),⟨by simp,Int.le_refl 0,by show (0 : Int) ≤ 999999;omega⟩,fun _=>⟨rfl,rfl,rfl⟩⟩
 obtain ⟨vs,cs,a,cap,sk,sa,scap,t',b,m',last,Gq⟩:=y
 dsimp only at Hy ⊢
 obtain ⟨⟨hreps,hgq⟩,hI0,hI1,⟨hlen,hla0,hla1⟩,hsk⟩:=Hy
 have hcl:=gO hreps
 have hskF : d ≠ 1 → sa = none ∧ sk.length = 0 ∧ scap = 0:=fun h=>by obtain ⟨h1,h2,h3⟩:=hsk h;subst h1;exact ⟨h2,F,h3⟩
 cases b with
 | true =>
  have hno:=hI1 rfl
  repeat' (first | refine jR ?_ | (refine jo ?_;first | refine jC F F F ?_ | refine ak F ?_ | refine aV F ?_) | refine ad F F ?_)
  all_goals
   refine Nx.sealS (v:=.slice a vs.length cap) fun G2 hG2 hsl=>?_
   refine aO (vs:=[_]) F ⟨aF F F F F,trivial⟩ F sB ⟨hgq.trans hG2,.nd 82 [] 0 vs,⟨82,[],0,a,vs.length,cap⟩,t',true,sa,sk.length,scap,F,cX dC dC (fun h=>absurd h dC) F (by rw [hcl];exact hsl) (bX hG2 hreps),F,hskF,⟨oM,fun h=>(by cases h),fun _=>.inr (by dsimp only;rw [hno];rfl)⟩⟩
 | false =>
  obtain ⟨hit,htm⟩:=hI0 rfl
  clear hI0 hI1
  obtain ⟨m',rfl⟩ : ∃ j,m' = j + 1:=⟨m' - 1,oM⟩
  cases hg : bj t' with
  | none =>
   rw [ol hg] at hit
   have cx_nb:=fN (G:=Gq) (r:=r) (sc:=sc) (m:=sk.length) (c:=scap) (b:=false) (a:=sa) (d:=d) hg oM
   repeat' (first | refine jR ?_ | (refine jo ?_;first | refine jC F F F ?_ | refine ak F ?_ | refine aV F ?_ | (refine ag F F F cx_nb F ?_;rintro _ _ ⟨rfl,rfl⟩;dsimp only [zA,fA])) | refine ac F F ?_)
   all_goals
    refine Nx.sealS (v:=.slice a vs.length cap) fun G2 hG2 hsl=>?_
    refine aO (vs:=[_]) F ⟨aF F F F F,trivial⟩ F sB ⟨hgq.trans hG2,.nd 82 [] 0 vs,⟨82,[],0,a,vs.length,cap⟩,[],true,sa,sk.length,scap,F,cX dC dC (fun h=>absurd h dC) F (by rw [hcl];exact hsl) (bX hG2 hreps),F,hskF,⟨by simp,fun h=>(by cases h),fun _=>.inr (by dsimp only;rw [hit];rfl)⟩⟩
  | some z =>
   obtain ⟨tg,q⟩:=z
   obtain ⟨h0,h1,_⟩:=cF hg
   have hl:=bT hg
   have cx_nb:=ee (G:=Gq) (r:=r) (sc:=sc) (m:=sk.length) (c:=scap) (b:=false) (a:=sa) (d:=d) hg oM
   by_cases htz : tg = 0
   ·subst htz
    rw [qZ hg] at hit
    repeat' (first | refine jR ?_ | (refine jo ?_;first | refine jC F F F ?_ | refine ak F ?_ | refine aV F ?_ | (refine ag F F F cx_nb F ?_;rintro _ _ ⟨rfl,rfl⟩;dsimp only [zA,fA])) | refine ac F F ?_)
    all_goals
     refine Nx.sealS (v:=.slice a vs.length cap) fun G2 hG2 hsl=>?_
     refine aO (vs:=[_]) F ⟨aF F F F F,trivial⟩ F sB ⟨hgq.trans hG2,.nd 82 [] 0 vs,⟨82,[],0,a,vs.length,cap⟩,q,false,sa,sk.length,scap,F,cX dC dC (fun h=>absurd h dC) F (by rw [hcl];exact hsl) (bX hG2 hreps),F,hskF,⟨oM,fun _=>⟨F,by dsimp only;rw [hit];rfl⟩,fun h=>(by cases h)⟩⟩
   rcases gv (s:=q) with ⟨hg2,ht⟩ | ⟨m3,q2,hg2,hm3,⟨hl3,ht⟩ | ⟨hl3,ht⟩⟩
   ·rw [kW hg htz ht] at hit
    have cx_nb2:=fN (G:=Gq) (r:=r) (sc:=sc) (m:=sk.length) (c:=scap) (b:=false) (a:=sa) (d:=d) hg2 oM
    have cx_tkb:=fy (G:=Gq) (r:=r) (sc:=sc) (m:=0) (n:=sk.length) (c:=scap) (s:=[]) (b:=true) (a:=sa) (d:=d) (.inl rfl) ⟨by simp,oM⟩
    have cx_tkb : cx acs 64 [Pt r 0,I 0] Gq [bD r sc [] true sa sk.length scap d] (fun v L'=>v = S [] ∧ L' = [bD r sc [] true sa sk.length scap d]):=cx_tkb
    have cx_fldg:=lx (hT2.mono hgq) hw ⟨h0,h1⟩
    repeat' (first | refine jR ?_ | (refine jo ?_;first | refine jD F F F ?_ | refine ak F ?_ | (refine ag F F F cx_nb F ?_;rintro _ _ ⟨rfl,rfl⟩;dsimp only [zA,fA]) | (refine ag F F F cx_nb2 F ?_;rintro _ _ ⟨rfl,rfl⟩;dsimp only [zA,fA]) | (refine ag F F F cx_tkb F ?_;rintro _ _ ⟨rfl,rfl⟩;dsimp only [zA,fA])) | refine ac F F ?_ | refine ad F (ay ‹_›) ?_ | refine cR F (fun _=>?_) (fun _=>?_))
    all_goals
     refine jo ?_
     refine c8 F F F cx_fldg F ?_
     rintro _ ⟨q9,rfl⟩
     repeat' (first | refine jR ?_ | (refine jo ?_;refine ak F ?_) | refine ac F F ?_)
     exact aY (vs,cs,a,cap,sk,sa,scap,[],true,m',tg,Gq) ⟨⟨hreps,hgq⟩,fun h=>(by cases h),fun _=>hit,⟨by dsimp only;simp only [List.length_nil];omega,h0,h1⟩,hsk⟩ (by dsimp only;simp only [List.length_nil];omega) tU rfl aW
   ·have hl4:=bT hg2
    rw [kW hg htz ht] at hit
    have cx_nb2:=ee (G:=Gq) (r:=r) (sc:=sc) (m:=sk.length) (c:=scap) (b:=false) (a:=sa) (d:=d) hg2 oM
    have cx_tkb:=fy (G:=Gq) (r:=r) (sc:=sc) (m:=m3) (n:=sk.length) (c:=scap) (s:=q2) (b:=false) (a:=sa) (d:=d) (.inr hl3) ⟨oM,oM⟩
    have cx_fldg:=lx (hT2.mono hgq) hw ⟨h0,h1⟩
    repeat' (first | refine jR ?_ | (refine jo ?_;first | refine jD F F F ?_ | refine ak F ?_ | (refine ag F F F cx_nb F ?_;rintro _ _ ⟨rfl,rfl⟩;dsimp only [zA,fA]) | (refine ag F F F cx_nb2 F ?_;rintro _ _ ⟨rfl,rfl⟩;dsimp only [zA,fA]) | (refine ag F F F cx_tkb F ?_;rintro _ _ ⟨rfl,rfl⟩;dsimp only [zA,fA])) | refine ac F F ?_ | refine ad F (ay ‹_›) ?_ | refine cR F (fun _=>?_) (fun _=>?_))
    all_goals
     refine jo ?_
     refine c8 F F F cx_fldg F ?_
     rintro _ ⟨q9,rfl⟩
     repeat' (first | refine jR ?_ | (refine jo ?_;refine ak F ?_) | refine ac F F ?_)
     exact aY (vs,cs,a,cap,sk,sa,scap,q2,true,m',tg,Gq) ⟨⟨hreps,hgq⟩,fun h=>(by cases h),fun _=>hit,⟨by dsimp only;omega,h0,h1⟩,hsk⟩ (by dsimp only;omega) tU rfl aW
   have hl4:=bT hg2
   have hdl : (q2.drop m3).length = q2.length - m3:=List.length_drop
   have htl : (q2.take m3).length ≤ 1000:=by rw [List.length_take];omega
   have cx_nb2:=ee (G:=Gq) (r:=r) (sc:=sc) (m:=sk.length) (c:=scap) (b:=false) (a:=sa) (d:=d) hg2 oM
   have cx_tkb:=jj (G:=Gq) (r:=r) (sc:=sc) (m:=m3) (n:=sk.length) (c:=scap) (s:=q2) (a:=sa) (d:=d) ⟨hl3,oM⟩
   by_cases hlast : tg ≤ last
   ·rw [oi hg htz ht hlast] at hit
    have cx_fldg:=lx (hT2.mono hgq) hw ⟨h0,h1⟩
    repeat' (first | refine jR ?_ | (refine jo ?_;first | refine jD F F F ?_ | refine ak F ?_ | (refine ag F F F cx_nb F ?_;rintro _ _ ⟨rfl,rfl⟩;dsimp only [zA,fA]) | (refine ag F F F cx_nb2 F ?_;rintro _ _ ⟨rfl,rfl⟩;dsimp only [zA,fA]) | (refine ag F F F cx_tkb F ?_;rintro _ _ ⟨rfl,rfl⟩;dsimp only [zA,fA])) | (refine ac F (by first | rfl | (refine decide_eq_true ?_;(assumption))) ?_) | refine ad F (ay ‹_›) ?_)
    all_goals
     refine jo ?_
     refine c8 F F F cx_fldg F ?_
     rintro _ ⟨q9,rfl⟩
     repeat' (first | refine jR ?_ | (refine jo ?_;refine ak F ?_) | refine ac F F ?_)
     exact aY (vs,cs,a,cap,sk,sa,scap,(q2.drop m3),true,m',tg,Gq) ⟨⟨hreps,hgq⟩,fun h=>(by cases h),fun _=>hit,⟨by dsimp only;omega,h0,h1⟩,hsk⟩ (by dsimp only;omega) tU rfl aW
   cases hft : bK t.fields tg with
   | none =>
    rw [m1 hg htz ht hlast hft] at hit
    have cx_fld:=d4 (h1'.mono hgq) (h2.mono hgq) oM hft
    by_cases hd1 : d = 1
    ·have hskl : (sk ++ [tg]).length = sk.length + 1:=by simp
     have hrs : aI gk sk ++ [I tg] = aI gk (sk ++ [tg]):=(cl gk sk tg).symm
     repeat' (first | refine jR ?_ | (refine jo ?_;first | refine jD F F F ?_ | refine ak F ?_ | refine jV (cD F F) ?_ | refine jF fun _=>?_ | refine cj F F F F F F F F F oM fun _ _=>?_ | (refine ag F F F cx_nb F ?_;rintro _ _ ⟨rfl,rfl⟩;dsimp only [zA,fA]) | (refine ag F F F cx_nb2 F ?_;rintro _ _ ⟨rfl,rfl⟩;dsimp only [zA,fA]) | (refine ag F F F cx_tkb F ?_;rintro _ _ ⟨rfl,rfl⟩;dsimp only [zA,fA]) | refine ab F F F cx_fld F ?_) | (refine ac F (by first | rfl | (refine decide_eq_true ?_;(assumption))) ?_) | (refine ad F (by first | rfl | (refine decide_eq_false ?_;(assumption))) ?_))
     rename_i _ y1 yc
     rw [hrs]
     refine Nx.perm (List.Perm.append_right _ (List.perm_append_comm (l₁:=[_,_]) (l₂:=[_]))) ?_
     dsimp only [zA,fA]
     exact aY (vs,cs,a,cap,sk ++ [tg],some ⟨y1,0,none⟩,yc,q2.drop m3,false,m',tg,Gq) ⟨⟨hreps,hgq⟩,fun _=>⟨hit,by dsimp only;omega⟩,fun h=>(by cases h),⟨by dsimp only;omega,h0,h1⟩,fun h=>absurd hd1 h⟩ (by dsimp only;omega) tU rfl (by rw [hskl];repeat (first | exact List.Sublist.refl _ | apply List.Sublist.cons_cons | apply List.Sublist.cons))
    ·repeat' (first | refine jR ?_ | (refine jo ?_;first | refine ak F ?_ | refine jV (cD F F) ?_ | (refine ag F F F cx_nb F ?_;rintro _ _ ⟨rfl,rfl⟩;dsimp only [zA,fA]) | (refine ag F F F cx_nb2 F ?_;rintro _ _ ⟨rfl,rfl⟩;dsimp only [zA,fA]) | (refine ag F F F cx_tkb F ?_;rintro _ _ ⟨rfl,rfl⟩;dsimp only [zA,fA]) | refine ab F F F cx_fld F ?_) | refine ac F F ?_ | (refine ad F (by first | rfl | (refine decide_eq_false ?_;(assumption))) ?_))
     all_goals
      exact aY (vs,cs,a,cap,sk,sa,scap,q2.drop m3,false,m',tg,Gq) ⟨⟨hreps,hgq⟩,fun _=>⟨hit,by dsimp only;omega⟩,fun h=>(by cases h),⟨by dsimp only;omega,h0,h1⟩,hsk⟩ (by dsimp only;omega) tU rfl aW
   | some f =>
    obtain ⟨j,hj,hjn,hjt,hjd⟩:=em hft
    obtain ⟨bf,of,cf,rfl,hsf⟩:=h2.expl oM
    subst hjd
    have hsf:=hsf.mono hgq
    have cx_fld:=eM (h1'.mono hgq) hsf oM hj hjn hjt
    have cx_prt:=tw (G:=Gq) (r:=r) (sc:=sc) (m:=sk.length) (c:=scap) (a:=sa) (s:=q2.drop m3) (k:=(ae t.fields j).kind) (p:=q2.take m3) (d:=d) hd hn hU (hS.mono hgq) (hkf _ (bR hj)) htl
    repeat' (first | refine jR ?_ | (refine jo ?_;first | refine jL fun _=>?_ | refine jC F F F ?_ | refine ak F ?_ | (refine jV (ij F F aS ?_ F F) ?_;focus omega) | refine jV (cD F F) ?_ | (refine ag F F F cx_nb F ?_;rintro _ _ ⟨rfl,rfl⟩;dsimp only [zA,fA]) | (refine ag F F F cx_nb2 F ?_;rintro _ _ ⟨rfl,rfl⟩;dsimp only [zA,fA]) | (refine ag F F F cx_tkb F ?_;rintro _ _ ⟨rfl,rfl⟩;dsimp only [zA,fA]) | refine ab F F F cx_fld F ?_ | (refine cU F F F cx_prt F ?_;rintro _ G1 _ hle ⟨u1,c1,b1,rfl,hrep,rfl,hQ2,hQ3⟩;dsimp only [zA,fA];skip)) | refine ac F F ?_ | (refine ad F (by first | rfl | (refine decide_eq_false ?_;(assumption))) ?_))
    rename_i x10
    have hgl:=hgq.trans hle
    have hS1:=hS.mono hgl
    have hsf1:=hsf.mono hle
    have cx_of:=xB hS1 hW0 hsf1 hj (hkf _ (bR hj))
    obtain ⟨u',m2',g1',g2',g3'⟩:=hS1.at'
    cases b1 with
    | true =>
     rw [oh hg htz ht hlast hft (hQ3 rfl)] at hit
     repeat' (first | refine jR ?_ | refine ad F F ?_ | (refine aj (an (id:=12) _ (fun _ h=>h) ai ?_);refine jT 13 [0,1,2] (aa 16 7) ?_;(refine jG (aa 16 15) 3 F (aA F F F) ?_);refine jT 10 [4,5] (aa 16 63) ?_;(try (refine Nx.re (d:=47) (v':=Bo false) F (congrArg Value.bool F) ?_));refine jT 6 [8,9,10,12] (aa 16 5951) ?_;(refine jN (aa 16 6015) 6 F ?_);(refine jN (aa 16 8063) 11 F ?_);(refine jN (aa 16 8191) 7 F ?_);(refine jN (aa 16 16383) 13 F ?_);refine jT 1 [14] (aa 16 32767) ?_;(refine jG (aa 16 65535) 15 F (be F F F) ?_);refine jQ ?_))
     all_goals exact aY (vs,cs,a,cap,sk,sa,scap,q2.drop m3,true,m',tg,G1) ⟨⟨bX hle hreps,hgl⟩,fun h=>(by cases h),fun _=>hit,⟨by dsimp only;omega,h0,h1⟩,hsk⟩ (by dsimp only;omega) tU rfl sB
    | false =>
     obtain ⟨hra,htot⟩:=hQ2 rfl
     rw [og hg htz ht hlast hft hra] at hit
     have cx_pr:=mI (G:=G1) u1.tot (Nat.le_refl _) oM hrep
     have hotl:=pc hrep
     by_cases heq : u1.out = cT (ah qs) (ae t.fields j)
     ·rw [if_pos heq] at hit
      repeat' (first | refine jR ?_ | (refine ad F ?_ ?_;(focus ((simp [*];done);done))) | (refine aj (an (id:=12) _ (fun _ h=>h) ai ?_);refine jT 13 [0,1,2] (aa 16 7) ?_;(refine jG (aa 16 15) 3 F (aA F F F) ?_);refine jT 10 [4,5] (aa 16 63) ?_;(try (refine Nx.re (d:=47) (v':=Bo true) F (congrArg Value.bool F) ?_));refine jT 6 [8,9,10,12] (aa 16 5951) ?_;(refine jG (aa 16 6015) 6 F (bJ F F F F) ?_);(refine jG (aa 16 8063) 11 F (aA F F F) ?_);(refine jA 7 F ?_;(refine ab F F F cx_pr F ?_);refine jS (aa 16 8191) ?_);(refine jA 13 F ?_;(refine ab F F F cx_of F ?_);refine jS (aa 16 16383) ?_);refine jT 1 [14] (aa 16 32767) ?_;(refine jG (aa 16 65535) 15 F (bB F F F) ?_);refine jQ ?_))
      all_goals exact aY (vs,cs,a,cap,sk,sa,scap,q2.drop m3,false,m',tg,G1) ⟨⟨bX hle hreps,hgl⟩,fun _=>⟨hit,by dsimp only;omega⟩,fun h=>(by cases h),⟨by dsimp only;omega,h0,h1⟩,hsk⟩ (by dsimp only;omega) tU rfl sB
     ·rw [if_neg heq] at hit
      repeat' (first | refine jR ?_ | (refine jo ?_;first | refine jV (am F F) ?_ | refine jD F F F ?_ | refine ak F ?_ | refine aV F ?_ | refine jF fun _=>?_ | refine cj F F F F F F F F F oM fun _ _=>?_) | refine ac F (ar ‹_›) ?_ | (refine aj (an (id:=12) _ (fun _ h=>h) ai ?_);refine jT 13 [0,1,2] (aa 16 7) ?_;(refine jG (aa 16 15) 3 F (aA F F F) ?_);refine jT 10 [4,5] (aa 16 63) ?_;(try (refine Nx.re (d:=47) (v':=Bo true) F (congrArg Value.bool F) ?_));refine jT 6 [8,9,10,12] (aa 16 5951) ?_;(refine jG (aa 16 6015) 6 F (bJ F F F F) ?_);(refine jG (aa 16 8063) 11 F (aA F F F) ?_);(refine jA 7 F ?_;(refine ab F F F cx_pr F ?_);refine jS (aa 16 8191) ?_);(refine jA 13 F ?_;(refine ab F F F cx_of F ?_);refine jS (aa 16 16383) ?_);refine jT 1 [14] (aa 16 32767) ?_;(refine jG (aa 16 65535) 15 F (bB F F F) ?_);refine jQ ?_))
      rename_i y z y1 yc
      rw [hjt] at hit
      refine Nx.sealC (b:=y) fun G2 hG2 hsy=>?_
      have hsl : a8 G2 (.slice (some ⟨y,0,none⟩) 1 1) 4 ([c1] : List VC).length (aI b7 [c1]):=⟨rfl,.inr ⟨y,0,1,rfl,Nat.le_refl _,hsy⟩⟩
      have hrow : aI b7 cs ++ [U8 61,S [],I tg,.slice (some ⟨y,0,none⟩) 1 1] = aI b7 (cs ++ [⟨61,[],tg,some ⟨y,0,none⟩,1,1⟩]):=(cl b7 cs (⟨61,[],tg,some ⟨y,0,none⟩,1,1⟩ : VC)).symm
      have hr1 : V.rep G2 (.nd 61 [] tg [u1]) (⟨61,[],tg,some ⟨y,0,none⟩,1,1⟩ : VC):=cX (ks:=[u1]) dC oM (fun _=>rfl) rfl hsl ⟨c1,[],rfl,fY hG2 hrep,rfl⟩
      have hr2 : V.reps G2 (vs ++ [.nd 61 [] tg [u1]]) (cs ++ [⟨61,[],tg,some ⟨y,0,none⟩,1,1⟩]):=ib hr1 (bX (hle.trans hG2) hreps)
      have hvl : (vs ++ [V.nd 61 [] tg [u1]]).length = vs.length + 1:=by simp
      refine Nx.perm (List.Perm.append_right _ (List.perm_append_comm (l₁:=[_,_,_]) (l₂:=[_,_]))) ?_
      dsimp only [zA,fA]
      rw [hrow]
      exact aY (vs ++ [.nd 61 [] tg [u1]],cs ++ [⟨61,[],tg,some ⟨y,0,none⟩,1,1⟩],some ⟨y1,0,none⟩,yc,sk,sa,scap,q2.drop m3,false,m',tg,G2) ⟨⟨hr2,hgl.trans hG2⟩,fun _=>⟨hit,by dsimp only;omega⟩,fun h=>(by cases h),⟨by dsimp only;omega,h0,h1⟩,hsk⟩ (by dsimp only;omega) tU rfl (by rw [hvl];repeat (first | exact List.Sublist.refl _ | apply List.Sublist.cons_cons | apply List.Sublist.cons))
theorem abz {n r sc : Nat} {qs : List cI} {k s : act} {d : Int} (hd : d = 12 - (n : Int)) (hn : n ≤ 12) (hU : qq n sc qs) (hS : ScI G sc qs) (hk : aJ (ah qs) (91 :: k) = true) (hs : s.length ≤ 1000) :
  dt acs 92 [Pt r 0,Ag (eh (91 :: k))] G [bD r sc s false none 0 0 d] (j9 (rb (ah qs) (n + 1) (91 :: k)) r sc s false d):=by
 have hk2:=dx (.inl rfl) hk
 obtain ⟨e1,e2,e3,_⟩:=ja (c:=91) (k:=k) (.inl rfl)
 have hrd:=uX (ts:=ah qs) (n:=n) (k:=k) (s:=s)
 unfold eh
 rw [e1,e2,e3]
 have cx_sign:=@iW G 91 (sg k) (bs k) (nm k)
 have cx_ptA : ∀ G,av acs 134 [Ag [S (91 :: sg k),S (bs k),S (nm k)]] G (· = Ag [S (sg k),S (bs k),S (nm k)]):=fun G=>@oS G 91 (sg k) (bs k) (nm k)
 cases hg : bj s with
 | none =>
  rw [hg] at hrd
  have cx_nb:=fN (G:=G) (r:=r) (sc:=sc) (m:=0) (c:=0) (b:=false) (a:=none) (d:=d + 1) hg hs
  refine cm [(0,_),(1,_)] Tryz.func92 kR Tryz.ntmps92 F F tU fun B hok hB hW=>?_
  repeat' (first | refine jM ?_ | (refine jo ?_;first | refine jO fun _=>?_ | refine jL fun _=>?_ | refine ak F ?_ | refine jD F F F ?_ | refine jV (dg F F) ?_))
  rename_i x2 x3 x4
  refine jo ?_
  refine cn (fi:=[]) (ca:=[Pt x2 0]) (az:=[]) F F ?_
  repeat' (first | refine jR ?_ | (refine jo ?_;first | refine jL fun _=>?_ | refine ak F ?_ | refine aV F ?_ | refine jC F F F ?_ | refine jV (am F F) ?_ | refine ab F F F cx_sign F ?_ | (refine ag F F F cx_nb F ?_;rintro _ _ ⟨rfl,rfl⟩;dsimp only [zA,fA])) | refine ac F F ?_ | (refine ad F (by first | rfl | (refine decide_eq_false ?_;(omega))) ?_))
  rename_i x5
  refine aR (ι:=Unit) (fun j=>True) (fun j=>[(2,Pt x2 0),(3,Pt x3 0),(4,Pt x4 0),(5,I 0),(6,Pt x5 0),(7,I 0)]) (fun _=>G) (fun j=>[.blk x5 (.cells (List.toArray [U8 91,S [],I 0,aH]) lJ (0,0)),bD r sc [] true none 0 0 (d + 1),.blk x4 (.cells (List.toArray [U8 (0 : Nat),S [],I 0,aH]) lJ (0,0)),.blk x3 (.cells (List.toArray [S (91 :: sg k),S (bs k),S (nm k)]) qN (0,0)),.blk x2 (.cells (List.toArray [Pt r 0]) fk (0,0))]) (fun j=>0) () ?_ tU F aW (fun j Hj=>?_)
  ·trivial
  repeat' (first | refine jR ?_ | (refine jo ?_;first | refine aV F ?_ | refine jC F F F ?_ | refine aq F ?_) | refine al F F F ?_ | refine ad F F ?_)
  all_goals
   refine da (.inl F) F (cL (x0:=x2) (r:=r) (sc:=sc) (s:=[]) (b:=true) (a:=none) (n:=0) (c:=0) (d:=d + 1) oM) F ?_
   rintro v G' L' ⟨rfl,rfl⟩
   dsimp only [zA,fA]
   exact ⟨[_],[bD r sc [] true none 0 0 (d + 1 - 1)],⟨aF F F F F,trivial⟩,sB,Gh.le.refl _,cK (c:=⟨91,[],0,none,0,0⟩) (bo dC dC) oM (fun _=>⟨F,F,F⟩) ⟨by simp,fun h=>(by cases h),fun _=>.inr hrd⟩⟩
 | some z =>
  obtain ⟨m,q⟩:=z
  obtain ⟨h1,h2,_⟩:=cF hg
  have hl:=bT hg
  rw [hg] at hrd
  dsimp only at hrd
  have cx_nb:=ee (G:=G) (r:=r) (sc:=sc) (m:=0) (c:=0) (b:=false) (a:=none) (d:=d + 1) hg hs
  by_cases h20 : m ≤ 20
  case neg =>
   rw [if_neg h20] at hrd
   refine cm [(0,_),(1,_)] Tryz.func92 kR Tryz.ntmps92 F F tU fun B hok hB hW=>?_
   repeat' (first | refine jM ?_ | (refine jo ?_;first | refine jO fun _=>?_ | refine jL fun _=>?_ | refine ak F ?_ | refine jD F F F ?_ | refine jV (dg F F) ?_))
   rename_i x2 x3 x4
   refine jo ?_
   refine cn (fi:=[]) (ca:=[Pt x2 0]) (az:=[]) F F ?_
   repeat' (first | refine jR ?_ | (refine jo ?_;first | refine jL fun _=>?_ | refine ak F ?_ | refine aV F ?_ | refine jD F F F ?_ | refine jC F F F ?_ | refine jV (am F F) ?_ | refine ab F F F cx_sign F ?_ | (refine ag F F F cx_nb F ?_;rintro _ _ ⟨rfl,rfl⟩;dsimp only [zA,fA])) | (refine ac F (by first | rfl | (refine decide_eq_true ?_;(omega))) ?_) | (refine ad F (by first | rfl | (refine decide_eq_false ?_;(omega))) ?_))
   rename_i x5
   refine aR (ι:=Unit) (fun j=>True) (fun j=>[(2,Pt x2 0),(3,Pt x3 0),(4,Pt x4 0),(5,I m),(6,Pt x5 0),(7,I 0)]) (fun _=>G) (fun j=>[.blk x5 (.cells (List.toArray [U8 91,S [],I 0,aH]) lJ (0,0)),bD r sc q true none 0 0 (d + 1),.blk x4 (.cells (List.toArray [U8 (0 : Nat),S [],I 0,aH]) lJ (0,0)),.blk x3 (.cells (List.toArray [S (91 :: sg k),S (bs k),S (nm k)]) qN (0,0)),.blk x2 (.cells (List.toArray [Pt r 0]) fk (0,0))]) (fun j=>0) () ?_ tU F aW (fun j Hj=>?_)
   ·trivial
   repeat' (first | refine jR ?_ | (refine jo ?_;first | refine ak F ?_ | refine aV F ?_ | refine jC F F F ?_ | refine aE F ?_) | refine aw F F (ar oM) ?_ | refine ad F F ?_)
   all_goals
    refine da (.inl F) F (cL (x0:=x2) (r:=r) (sc:=sc) (s:=q) (b:=true) (a:=none) (n:=0) (c:=0) (d:=d + 1) oM) F ?_
    rintro v G' L' ⟨rfl,rfl⟩
    dsimp only [zA,fA]
    exact ⟨[_],[bD r sc q true none 0 0 (d + 1 - 1)],⟨aF F F F F,trivial⟩,sB,Gh.le.refl _,cK (c:=⟨91,[],0,none,0,0⟩) (bo dC dC) oM (fun _=>⟨F,F,F⟩) ⟨oM,fun h=>(by cases h),fun _=>.inr hrd⟩⟩
  rw [if_pos h20] at hrd
  obtain ⟨m,rfl⟩ : ∃ m' : Nat,m = (m' : Int):=⟨m.toNat,oM⟩
  rw [Int.toNat_natCast] at hrd
  refine cm [(0,_),(1,_)] Tryz.func92 kR Tryz.ntmps92 F F tU fun B hok hB hW=>?_
  repeat' (first | refine jM ?_ | (refine jo ?_;first | refine jO fun _=>?_ | refine jL fun _=>?_ | refine ak F ?_ | refine jD F F F ?_ | refine jV (dg F F) ?_))
  rename_i x2 x3 x4
  refine jo ?_
  refine cn (fi:=[]) (ca:=[Pt x2 0]) (az:=[]) F F ?_
  repeat' (first | refine jR ?_ | (refine jo ?_;first | refine jL fun _=>?_ | refine ak F ?_ | refine aV F ?_ | refine jC F F F ?_ | refine jV (am F F) ?_ | refine ab F F F cx_sign F ?_ | (refine ag F F F cx_nb F ?_;rintro _ _ ⟨rfl,rfl⟩;dsimp only [zA,fA])) | refine ac F F ?_ | (refine ad F (by first | rfl | (refine decide_eq_false ?_;(omega))) ?_))
  rename_i x5
  refine Nx.addNil lJ 4 (Nx.perm (List.Perm.cons _ (List.Perm.swap _ _ _)) ?_)
  refine aR (ι:=List V × List VC × Option Addr × Nat × act × Bool × Gh) (fun y=>(V.reps y.2.2.2.2.2.2 y.1 y.2.1 ∧ Gh.le G y.2.2.2.2.2.2) ∧ (y.2.2.2.2.2.1 = false → bA (rb (ah qs) n k) m q [] = bA (rb (ah qs) n k) (m - y.1.length) y.2.2.2.2.1 y.1) ∧ (y.2.2.2.2.2.1 = true → bA (rb (ah qs) n k) m q [] = none) ∧ (y.1.length ≤ m ∧ y.2.2.2.2.1.length ≤ q.length)) (fun y=>[(2,Pt x2 0),(3,Pt x3 0),(4,Pt x4 0),(5,I (m : Nat)),(6,Pt x5 0),(7,I (y.1.length : Nat))]) (fun y=>y.2.2.2.2.2.2) (fun y=>[.acc (.slice y.2.2.1 y.1.length y.2.2.2.1) lJ 4 y.1.length (aI b7 y.2.1),bD r sc y.2.2.2.2.1 y.2.2.2.2.2.1 none 0 0 (d + 1),.blk x5 (.cells (List.toArray [U8 91,S [],I 0,.slice y.2.2.1 y.1.length y.2.2.2.1]) lJ (0,0)),.blk x4 (.cells (List.toArray [U8 (0 : Nat),S [],I 0,aH]) lJ (0,0)),.blk x3 (.cells (List.toArray [S (91 :: sg k),S (bs k),S (nm k)]) qN (0,0)),.blk x2 (.cells (List.toArray [Pt r 0]) fk (0,0))]) (fun y=>m - y.1.length) ([],[],none,0,q,false,G) ?_ tU F aW (fun y Hy=>?_)
  ·exact ⟨⟨F,Gh.le.refl _⟩,fun _=>rfl,fun h=>(by cases h),Nat.zero_le _,Nat.le_refl _⟩
  obtain ⟨vs,cs,a,cap,t,b,Gq⟩:=y
  dsimp only at Hy ⊢
  obtain ⟨⟨hreps,hgq⟩,hI0,hI1,hlm,htl'⟩:=Hy
  have hcl:=gO hreps
  by_cases hi : b = false ∧ vs.length < m
  case neg =>
   have hres : sn (rb (ah qs) (n + 1) (91 :: k)) s false (.nd 91 [] 0 vs) t b:=by
    refine ⟨oM,fun h=>⟨F,?_⟩,fun h=>.inr ?_⟩
    ·have h2:=hI0 h
     have h9 : ¬ vs.length < m:=fun h3=>hi ⟨h,h3⟩
     have e0 : m - vs.length = 0:=oM
     rw [e0,bA] at h2
     rw [hrd,h2];rfl
    ·rw [hrd,hI1 h];rfl
   cases b with
   | true =>
    repeat' (first | refine jR ?_ | (refine jo ?_;first | refine ak F ?_ | refine aV F ?_ | refine jC F F F ?_ | refine aE F ?_ | refine aq F ?_) | refine dA F F (fun _=>?_) (fun _=>?_) | refine ad F F ?_)
    all_goals
     refine Nx.sealS (v:=.slice a vs.length cap) fun G2 hG2 hsl=>?_
     refine da (.inl F) F (cL (x0:=x2) (r:=r) (sc:=sc) (s:=t) (b:=true) (a:=none) (n:=0) (c:=0) (d:=d + 1) oM) F ?_
     rintro v G' L' ⟨rfl,rfl⟩
     dsimp only [zA,fA]
     exact ⟨[_],[bD r sc t true none 0 0 (d + 1 - 1)],⟨aF F F F F,trivial⟩,sB,(hgq.trans hG2),cK (c:=⟨91,[],0,a,vs.length,cap⟩) (cX dC dC (fun h=>absurd h dC) F (by rw [hcl];exact hsl) (bX hG2 hreps)) oM (fun _=>⟨F,F,F⟩) hres⟩
   | false =>
    have hi2 : ¬ vs.length < m:=fun h=>hi ⟨rfl,h⟩
    repeat' (first | refine jR ?_ | (refine jo ?_;first | refine aV F ?_ | refine jC F F F ?_ | refine aq F ?_) | refine al F F (ay oM) ?_ | refine ad F F ?_)
    all_goals
     refine Nx.sealS (v:=.slice a vs.length cap) fun G2 hG2 hsl=>?_
     refine da (.inl F) F (cL (x0:=x2) (r:=r) (sc:=sc) (s:=t) (b:=false) (a:=none) (n:=0) (c:=0) (d:=d + 1) oM) F ?_
     rintro v G' L' ⟨rfl,rfl⟩
     dsimp only [zA,fA]
     exact ⟨[_],[bD r sc t false none 0 0 (d + 1 - 1)],⟨aF F F F F,trivial⟩,sB,(hgq.trans hG2),cK (c:=⟨91,[],0,a,vs.length,cap⟩) (cX dC dC (fun h=>absurd h dC) F (by rw [hcl];exact hsl) (bX hG2 hreps)) oM (fun _=>⟨F,F,F⟩) hres⟩
  obtain ⟨rfl,hi2⟩:=hi
  have hit:=hI0 rfl
  clear hI0 hI1
  obtain ⟨m',hm'⟩ : ∃ m',m - vs.length = m' + 1:=⟨m - vs.length - 1,oM⟩
  rw [hm'] at hit
  have cx_vl:=we (r:=r) (d:=d + 1) oM oM (hU Gq r k t false (hS.mono hgq) hk2 oM)
  have cx_pt:=cx_ptA Gq
  repeat' (first | refine jR ?_ | (refine jo ?_;first | refine ak F ?_ | refine aE F ?_) | refine aw F F (ar oM) ?_ | refine ac F F ?_)
  (refine aj (an (id:=16) [.blk x3 (.cells (List.toArray [S (91 :: sg k),S (bs k),S (nm k)]) qN (0,0)),.blk x2 (.cells (List.toArray [Pt r 0]) fk (0,0))] (by intro y hy;simp only [List.mem_cons,List.not_mem_nil,or_false] at hy ⊢;rcases hy with hy | hy <;> simp [hy]) ai ?_);refine jW 9 [0] (aa 10 1) ?_;(refine jG (aa 10 5) 2 F (aA F F F) ?_);(refine jG (aa 10 13) 3 F (bJ F F F F) ?_);refine cy [1,4] kR dC ⟨?_,?_,trivial⟩;(focus (refine a9 F F ?_;(refine ak F ?_);refine jK (aa 10 15) ?_;refine jA 4 F ?_;(refine ab F F F cx_pt F ?_);refine jK (aa 10 31) ?_;refine jA 5 F ?_;(refine cU F F F cx_vl F ?_;rintro _ G1 _ hle ⟨u1,c1,t1,b1,rfl,hrep,rfl,hP⟩;dsimp only [zA,fA];skip);refine jK (aa 10 63) ?_;refine jA 6 F ?_;(refine jF fun _=>?_);refine jK (aa 10 127) ?_;refine jA 7 F ?_;((refine cj F F F F F F F F F ?_ fun _ _=>?_;focus omega));refine jK (aa 10 255) ?_;refine jW 1 [8] (aa 10 511) ?_;refine jA 9 F ?_;(refine jD F F F ?_);refine jK (aa 10 1023) ?_;refine jQ ?_));rotate_left 1;(focus (refine a9 F F ?_;(refine ab F F F cx_pt F ?_);refine jK (aa 10 29) ?_;refine cy [1,5] kR dC ⟨?_,?_,trivial⟩;(focus (refine a9 F F ?_;(refine ak F ?_);refine jK (aa 10 31) ?_;refine jA 5 F ?_;(refine cU F F F cx_vl F ?_;rintro _ G1 _ hle ⟨u1,c1,t1,b1,rfl,hrep,rfl,hP⟩;dsimp only [zA,fA];skip);refine jK (aa 10 63) ?_;refine jA 6 F ?_;(refine jF fun _=>?_);refine jK (aa 10 127) ?_;refine jA 7 F ?_;((refine cj F F F F F F F F F ?_ fun _ _=>?_;focus omega));refine jK (aa 10 255) ?_;refine jW 1 [8] (aa 10 511) ?_;refine jA 9 F ?_;(refine jD F F F ?_);refine jK (aa 10 1023) ?_;refine jQ ?_));rotate_left 1;(focus (refine a9 F F ?_;(refine cU F F F cx_vl F ?_;rintro _ G1 _ hle ⟨u1,c1,t1,b1,rfl,hrep,rfl,hP⟩;dsimp only [zA,fA];skip);refine jK (aa 10 61) ?_;refine cy [1,6] kR dC ⟨?_,?_,trivial⟩;(focus (refine a9 F F ?_;(refine ak F ?_);refine jK (aa 10 63) ?_;refine jA 6 F ?_;(refine jF fun _=>?_);refine jK (aa 10 127) ?_;refine jA 7 F ?_;((refine cj F F F F F F F F F ?_ fun _ _=>?_;focus omega));refine jK (aa 10 255) ?_;refine jW 1 [8] (aa 10 511) ?_;refine jA 9 F ?_;(refine jD F F F ?_);refine jK (aa 10 1023) ?_;refine jQ ?_));rotate_left 1;(focus (refine a9 F F ?_;(refine jF fun _=>?_);refine jK (aa 10 125) ?_;refine jA 1 F ?_;(refine ak F ?_);refine jK (aa 10 127) ?_;refine jA 7 F ?_;((refine cj F F F F F F F F F ?_ fun _ _=>?_;focus omega));refine jK (aa 10 255) ?_;refine jW 1 [8] (aa 10 511) ?_;refine jA 9 F ?_;(refine jD F F F ?_);refine jK (aa 10 1023) ?_;refine jQ ?_));rotate_left 1));rotate_left 2));rotate_left 3)
  all_goals
   rename_i y1 yc
   have hrow : aI b7 cs ++ [U8 (c1.what : Nat),S c1.text,I c1.tag,c1.sl] = aI b7 (cs ++ [c1]):=(cl b7 cs c1).symm
   have hr2 : V.reps G1 (vs ++ [u1]) (cs ++ [c1]):=ib hrep (bX hle hreps)
   have hvl : (vs ++ [u1]).length = vs.length + 1:=by simp
   have hgl:=hgq.trans hle
   obtain ⟨hQ1,hQ2,hQ3⟩:=kx hP
   rw [hrow]
   have hm2 : m - (vs ++ [u1]).length = m':=by rw [hvl];omega
   have hno1 : b1 = true → bA (rb (ah qs) n k) m q [] = none:=fun h=>by rw [hit,od (hQ3 h)]
   have hyes1 : b1 = false → bA (rb (ah qs) n k) m q [] = bA (rb (ah qs) n k) (m - (vs ++ [u1]).length) t1 (vs ++ [u1]):=fun h2=>by rw [hit,lV (hQ2 h2).1,hm2]
   repeat' (refine jM ?_)
   refine Nx.re (d:=7) (v':=I ((vs ++ [u1]).length : Nat)) F (congrArg (Value.int .i64) (by rw [hvl];omega)) ?_
   exact aY (vs ++ [u1],cs ++ [c1],some ⟨y1,0,none⟩,yc,t1,b1,G1) ⟨⟨hr2,hgl⟩,hyes1,hno1,by dsimp only;omega,by dsimp only;omega⟩ (by dsimp only;omega) tU rfl (by rw [hvl];repeat (first | exact List.Sublist.refl _ | apply List.Sublist.cons_cons | apply List.Sublist.cons))
end Go.E
