/- Contracts and plain laws that the statement rests on, part 7. Conditions: as each says. -/
import Derived.Test.YtglhncibfmhblabGreatDoorZ6
set_option linter.unusedVariables false
set_option linter.unusedSimpArgs false
namespace Go.E
set_option maxRecDepth 20000
set_option maxHeartbeats 2000000
open Go.Proofs
variable {G : Gh}
theorem mV {s r : abL} {u v : Value} {a b : List Mt} (hu : bh G u 3 a.length (aA c9 a)) (hv : bh G v 3 b.length (aA c9 b)) (hn : a.length ≤ 1048576) :
  am abK 15 [Ag [S s,u],Ag [S r,v]] G (· = Bo (decide (s = r ∧ a = b))):=by
 refine jE [(0,_),(1,_)] Tryz.func15 Tryz.ntmps15 fun B hB=>?_
 repeat' (first | refine jR ?_ | (refine jo ?_;first | refine jO fun _=>?_ | refine aj F ?_ | (refine ab F F F (rV (by (repeat (assumption));done) (by (repeat (assumption));done) ?_) rfl ?_;(focus ((assumption);done)))) | refine cT F (fun _=>?_) (fun _=>?_) | refine kH F (fun _=>?_) (fun _=>?_))
 all_goals refine jY (vs:=[_]) ?_
 all_goals (rw [ar];simp_all)
theorem gN {s : abL} {u : Value} {a : List Mt} {z : Int} (h : (0 ≤ z ∧ z ≤ 1048576) ∧ s.length ≤ 9223372036854775807 ∧ a.length ≤ 9223372036854775807) (hu : bh G u 3 a.length (aA c9 a)) (ha : ∀ x ∈ a,mY x) :
  am abK 11 [Ag [S s,u],I z] G (fun v=>v = I (-1) ∨ ∃ z',v = I z' ∧ ((0 ≤ z' ∧ z' ≤ z) ∧ s.length ≤ 1048576 ∧ a.length ≤ 1048576) ∧ ∀ x ∈ a,mZ x):=by
 refine jE [(0,_),(1,_)] Tryz.func11 Tryz.ntmps11 fun B hB=>?_
 repeat' (first | refine jM ?_ | (refine jo ?_;first | refine jO fun _=>?_ | refine aj F ?_ | (refine cn F F F (rS ?_ (by (repeat (assumption));done) (by (repeat (assumption));done)) rfl ?_;(focus omega);rintro _ (rfl | ⟨z,rfl,hz1,hz2⟩))) | refine ac F F ?_ | refine ad F (aC oM) ?_ | refine cT F (fun _=>?_) (fun _=>?_))
 all_goals refine jY (vs:=[_]) ?_
 all_goals first | exact .inl F | exact .inr ⟨_,F,oM,by assumption⟩
theorem eT {s : abL} {u : Value} {a : List Mt} (hu : bh G u 3 a.length (aA c9 a)) (hn : a.length ≤ 1048576) :
  bA abK 13 [Ag [S s,u]] G (fun v G'=>∃ u',v = Ag [S s,u'] ∧ bh G' u' 3 a.length (aA c9 a)):=by
 refine jB [(0,_)] Tryz.func13 Tryz.ntmps13 fun B hok hB hW=>?_
 repeat' (first | refine jR ?_ | (refine jo ?_;first | refine jO fun _=>?_ | refine jL fun _=>?_ | refine aj F ?_ | refine jD F F F ?_ | (refine aJ F F F (rR (by (repeat (assumption));done) ?_) rfl ?_;(focus ((assumption);done));rintro _ G hle ⟨u,rfl,hsl⟩;skip)))
 obtain ⟨x,c,rfl⟩:=hsl.sl
 repeat' (first | refine jR ?_ | (refine jo ?_;first | refine aG F ?_ | refine jD F F F ?_ | refine jC F F F ?_))
 refine jZ (vs:=[_]) F ⟨aE F F F F,trivial⟩ F ⟨hle,F,?_⟩
 exact ⟨_,F,hsl⟩
def ng (ss : abL) (m : Mt) : Bool:=bV ss m.2.1 && bV ss m.2.2 && b5 m.1
def dk (s : abL) (a : List Mt) (i : Nat) : Bool:=ng s (ae a i) && (i == 0 || Op.bytesLess (ae a (i - 1)).1 (ae a i).1)
def di (s : abL) (a : List Mt) : Bool:=(aN s).isSome && decide (a.length ≤ 6) && (List.range a.length).all (dk s a)
theorem nL {s : abL} {a : List Mt} {i : Nat} (hi : i < a.length) (h : dk s a i = false) : di s a = false:=by
 unfold di
 rw [Bool.and_eq_false_iff];right
 rw [List.all_eq_false]
 exact ⟨i,List.mem_range.2 hi,by rw [h];simp⟩
theorem se {s : abL} {a : List Mt} (hs : (aN s).isSome = true) (h6 : a.length ≤ 6) (h : ∀ k,k < a.length → dk s a k = true) : di s a = true:=by
 unfold di
 rw [hs,decide_eq_true h6]
 simp only [Bool.true_and,List.all_eq_true,List.mem_range]
 exact h
abbrev tSv : TypeId:=33
theorem lZ {s : abL} {u : Value} {a : List Mt} (h : s.length ≤ 1048576) (hu : bh G u 3 a.length (aA c9 a)) (hn : a.length ≤ 1048576) (ha : ∀ x ∈ a,mZ x) :
  am abK 40 [Ag [S s,u]] G (· = Bo (di s a)):=by
 have hs : s.length ≤ 10000000:=oM
 refine jB (Post:=fun v G' L'=>G' = G ∧ L' = [] ∧ _) [(0,_)] Tryz.func40 Tryz.ntmps40 fun B hok hB hW=>?_
 repeat' (first | refine jR ?_ | (refine jo ?_;first | refine jO fun _=>?_ | refine aj F ?_ | refine jV (cY F aS) ?_ | refine aL F ?_ | refine av F ?_ | refine ab F F F (rW ‹_›) F ?_) | refine kG F F (fun _=>?_) (fun _=>?_) | refine ac F F ?_ | refine cT F (fun _=>?_) (fun _=>?_))
 ·rename_i h1
  refine Nx.base hok hB ?_
  refine jY (vs:=[_]) ?_
  have h2 : (aN s).isSome = false:=by simpa using h1
  unfold di;rw [h2];rfl
 ·rename_i h1
  refine Nx.base hok hB ?_
  refine jY (vs:=[_]) ?_
  have h2 : decide (a.length ≤ 6) = false:=by simp;omega
  unfold di;rw [h2];simp
 rename_i x h1 h2
 refine aR (ι:=Nat × Gh) (fun i=>(i.1 ≤ a.length ∧ Gh.le G i.2) ∧ ∀ k,k < i.1 → dk s a k = true) (fun i=>[(1,Pt x 0),(3,I i.1)]) (fun i=>i.2) (fun i=>[.blk x (.cells #[S s,u] tSv (0,0))]) (fun i=>a.length - i.1) (0,G) ?_ tU F aX (fun i Hi=>?_)
 ·exact ⟨⟨Nat.zero_le _,Gh.le.refl _⟩,fun k hk=>absurd hk (by simp)⟩
 obtain ⟨i,G1⟩:=i
 dsimp only at Hi ⊢
 obtain ⟨⟨hi1,hg⟩,hgood⟩:=Hi
 by_cases hi : i < a.length
 ·obtain ⟨ba,oa,ca,rfl,sa⟩:=(hu.mono hg).expl oM
  have hx:=ha _ (bT hi)
  cases e1 : bV s (ae a i).2.1 <;> cases e2 : bV s (ae a i).2.2 <;> cases e3 : b5 (ae a i).1
  all_goals
   have cx_lk1 : ∀ G,bA abK 51 [S s,S (ae a i).2.1] G (fun v _=>∃ u,v = Tu [u,Bo (bV s (ae a i).2.1)]):=fun G=>by
    refine (iV (G:=G) hs oM).mono ?_
    rintro v G' L' ⟨h1,h2,u,vs,rfl,_⟩
    exact ⟨h1,h2,u,F⟩
   have cx_lk2 : ∀ G,bA abK 51 [S s,S (ae a i).2.2] G (fun v _=>∃ u,v = Tu [u,Bo (bV s (ae a i).2.2)]):=fun G=>by
    refine (iV (G:=G) hs oM).mono ?_
    rintro v G' L' ⟨h1,h2,u,vs,rfl,_⟩
    exact ⟨h1,h2,u,F⟩
   have cx_nm2 : ∀ G,am abK 73 [S (ae a i).1] G (· = Bo (b5 (ae a i).1)):=fun G=>eK oM
   rw [e1] at cx_lk1
   rw [e2] at cx_lk2
   rw [e3] at cx_nm2
  case true.true.true =>
   rcases i with _ | j
   ·repeat' (first | refine jM ?_ | (refine jo ?_;first | refine aj F ?_ | (refine jV (cD F F aS ?_) ?_;focus omega) | refine jV (aw F) ?_ | refine jV (ax F F oM) ?_ | refine jL fun _=>?_ | refine jC F F F ?_ | (refine aJ F F F (cx_lk1 _) F ?_;rintro _ G hle ⟨u1,rfl⟩;((try have sa:=bW.mono sa hle);(try have hg:=Gh.le.trans hg hle))) | (refine aJ F F F (cx_lk2 _) F ?_;rintro _ G hle ⟨u2,rfl⟩;((try have sa:=bW.mono sa hle);(try have hg:=Gh.le.trans hg hle)))) | refine ac F (ay oM) ?_ | refine ad F F ?_ | (refine ai (an (id:=9) _ (fun _ h=>h) ah ?_);refine jT 25 [0,1,2] (aa 28 7) ?_;(try (refine Nx.re (d:=49) (v':=Bo false) F (congrArg Value.bool F) ?_));refine jT 23 [3,4] (aa 28 31) ?_;(refine jG (aa 28 63) 5 F (aH F F F) ?_);refine jT 21 [6] (aa 28 127) ?_;(try (refine Nx.re (d:=53) (v':=Bo false) F (congrArg Value.bool F) ?_));refine jT 20 [7] (aa 28 255) ?_;(refine jG (aa 28 511) 8 F (aq F F F) ?_);(refine jA 9 F ?_;(refine ab F F F (cx_nm2 _) F ?_);refine jS (aa 28 1023) ?_);refine jT 17 [10] (aa 28 2047) ?_;(refine jG (aa 28 4095) 11 F (aH F F F) ?_);refine jT 15 [12] (aa 28 8191) ?_;(try (refine Nx.re (d:=59) (v':=Bo false) F (congrArg Value.bool F) ?_));refine jT 12 [13,14,15] (aa 28 65535) ?_;(try (refine Nx.re (d:=62) (v':=Bo false) F (congrArg Value.bool F) ?_));refine jT 8 [16,18,19,23] (aa 28 9306111) ?_;(refine jN (aa 28 9437183) 17 F ?_);(refine jN (aa 28 10485759) 20 F ?_);refine jT 5 [21] (aa 28 12582911) ?_;(refine jN (aa 28 16777215) 22 F ?_);(refine jN (aa 28 33554431) 24 F ?_);refine jT 2 [25] (aa 28 67108863) ?_;(refine jG (aa 28 134217727) 26 F (aH F F F) ?_);(refine jG (aa 28 268435455) 27 F (aH F F F) ?_);refine jQ ?_))
    refine aW (1,G) ⟨⟨by dsimp only;omega,hg⟩,fun k hk=>?_⟩ (by dsimp only;omega) tU rfl sB
    have : k = 0:=by dsimp only at hk;omega
    subst this
    simp [dk,ng,e1,e2,e3]
   ·have ej : ((((j + 1 : Nat) : Int) - 1).toNat) = j:=oM
    cases e5 : Op.bytesLess (ae a j).1 (ae a (j + 1)).1
    ·have hb : dk s a (j + 1) = false:=by simp [dk,e5]
     have e6 : Op.bytesLess (ae a (((j + 1 : Nat) : Int) - 1).toNat).1 (ae a (j + 1)).1 = false:=by rw [ej];exact e5
     repeat' (first | refine jR ?_ | (refine jo ?_;first | refine aj F ?_ | (refine jV (cD F F aS ?_) ?_;focus omega) | refine jV (aw F) ?_ | refine jV (ax F F oM) ?_ | refine jL fun _=>?_ | refine jC F F F ?_ | (refine aJ F F F (cx_lk1 _) F ?_;rintro _ G hle ⟨u1,rfl⟩;((try have sa:=bW.mono sa hle);(try have hg:=Gh.le.trans hg hle))) | (refine aJ F F F (cx_lk2 _) F ?_;rintro _ G hle ⟨u2,rfl⟩;((try have sa:=bW.mono sa hle);(try have hg:=Gh.le.trans hg hle)))) | (refine ac F ?_ ?_;(focus ((first | (refine decide_eq_true ?_;(omega)) | (simp [*];done));done))) | (refine ai (an (id:=9) _ (fun _ h=>h) ah ?_);refine jT 25 [0,1,2] (aa 28 7) ?_;(try (refine Nx.re (d:=49) (v':=Bo false) F (congrArg Value.bool F) ?_));refine jT 23 [3,4] (aa 28 31) ?_;(refine jG (aa 28 63) 5 F (aH F F F) ?_);refine jT 21 [6] (aa 28 127) ?_;(try (refine Nx.re (d:=53) (v':=Bo false) F (congrArg Value.bool F) ?_));refine jT 20 [7] (aa 28 255) ?_;(refine jG (aa 28 511) 8 F (aq F F F) ?_);(refine jA 9 F ?_;(refine ab F F F (cx_nm2 _) F ?_);refine jS (aa 28 1023) ?_);refine jT 17 [10] (aa 28 2047) ?_;(refine jG (aa 28 4095) 11 F (aH F F F) ?_);refine jT 15 [12] (aa 28 8191) ?_;(try (refine Nx.re (d:=59) (v':=Bo false) F (congrArg Value.bool F) ?_));refine jT 12 [13,14,15] (aa 28 65535) ?_;(try ((refine Nx.re (d:=62) (v':=Bo true) F (congrArg Value.bool (ay oM)) ?_)));refine jW 8 [16,18,19,23] (aa 28 9306111) ?_;(refine jG (aa 28 9437183) 17 F (aq F F F) ?_);(refine jG (aa 28 10485759) 20 F (a9 F F oM) ?_);refine jT 5 [21] (aa 28 12582911) ?_;((refine jG (aa 28 16777215) 22 F (bN F F aS ?_ F F) ?_;focus omega));(refine jG (aa 28 33554431) 24 F (aq F F F) ?_);refine jT 2 [25] (aa 28 67108863) ?_;(refine jG (aa 28 134217727) 26 F (aT F F F) ?_);(refine jG (aa 28 268435455) 27 F (aH F F F) ?_);refine jQ ?_))
     all_goals refine Nx.base hok hB ?_
     all_goals refine jY (vs:=[_]) ?_
     all_goals rw [ar,nL hi hb]
    ·have hb : dk s a (j + 1) = true:=by simp [dk,ng,e1,e2,e3,e5]
     have e6 : Op.bytesLess (ae a (((j + 1 : Nat) : Int) - 1).toNat).1 (ae a (j + 1)).1 = true:=by rw [ej];exact e5
     repeat' (first | refine jM ?_ | (refine jo ?_;first | refine aj F ?_ | (refine jV (cD F F aS ?_) ?_;focus omega) | refine jV (aw F) ?_ | refine jV (ax F F oM) ?_ | refine jL fun _=>?_ | refine jC F F F ?_ | (refine aJ F F F (cx_lk1 _) F ?_;rintro _ G hle ⟨u1,rfl⟩;((try have sa:=bW.mono sa hle);(try have hg:=Gh.le.trans hg hle))) | (refine aJ F F F (cx_lk2 _) F ?_;rintro _ G hle ⟨u2,rfl⟩;((try have sa:=bW.mono sa hle);(try have hg:=Gh.le.trans hg hle)))) | refine ac F (ay oM) ?_ | (refine ad F ?_ ?_;(focus ((simp [*];done);done))) | (refine ai (an (id:=9) _ (fun _ h=>h) ah ?_);refine jT 25 [0,1,2] (aa 28 7) ?_;(try (refine Nx.re (d:=49) (v':=Bo false) F (congrArg Value.bool F) ?_));refine jT 23 [3,4] (aa 28 31) ?_;(refine jG (aa 28 63) 5 F (aH F F F) ?_);refine jT 21 [6] (aa 28 127) ?_;(try (refine Nx.re (d:=53) (v':=Bo false) F (congrArg Value.bool F) ?_));refine jT 20 [7] (aa 28 255) ?_;(refine jG (aa 28 511) 8 F (aq F F F) ?_);(refine jA 9 F ?_;(refine ab F F F (cx_nm2 _) F ?_);refine jS (aa 28 1023) ?_);refine jT 17 [10] (aa 28 2047) ?_;(refine jG (aa 28 4095) 11 F (aH F F F) ?_);refine jT 15 [12] (aa 28 8191) ?_;(try (refine Nx.re (d:=59) (v':=Bo false) F (congrArg Value.bool F) ?_));refine jT 12 [13,14,15] (aa 28 65535) ?_;(try ((refine Nx.re (d:=62) (v':=Bo true) F (congrArg Value.bool (ay oM)) ?_)));refine jW 8 [16,18,19,23] (aa 28 9306111) ?_;(refine jG (aa 28 9437183) 17 F (aq F F F) ?_);(refine jG (aa 28 10485759) 20 F (a9 F F oM) ?_);refine jT 5 [21] (aa 28 12582911) ?_;((refine jG (aa 28 16777215) 22 F (bN F F aS ?_ F F) ?_;focus omega));(refine jG (aa 28 33554431) 24 F (aq F F F) ?_);refine jT 2 [25] (aa 28 67108863) ?_;(refine jG (aa 28 134217727) 26 F (aT F F F) ?_);(refine jG (aa 28 268435455) 27 F (aH F F F) ?_);refine jQ ?_))
     all_goals
      refine aW (j + 1 + 1,G) ⟨⟨by dsimp only;omega,hg⟩,fun k hk=>?_⟩ (by dsimp only;omega) tU rfl sB
      rcases Nat.lt_or_ge k (j + 1) with h1 | h1
      ·exact hgood k h1
      ·have : k = j + 1:=by dsimp only at hk;omega
       subst this;exact hb
  all_goals
   have hb : dk s a i = false:=by simp [dk,ng,e1,e2,e3]
   repeat' (first | refine jR ?_ | (refine jo ?_;first | refine aj F ?_ | (refine jV (cD F F aS ?_) ?_;focus omega) | refine jV (aw F) ?_ | refine jV (ax F F oM) ?_ | refine jL fun _=>?_ | refine jC F F F ?_ | (refine aJ F F F (cx_lk1 _) F ?_;rintro _ G hle ⟨u1,rfl⟩;((try have sa:=bW.mono sa hle);(try have hg:=Gh.le.trans hg hle))) | (refine aJ F F F (cx_lk2 _) F ?_;rintro _ G hle ⟨u2,rfl⟩;((try have sa:=bW.mono sa hle);(try have hg:=Gh.le.trans hg hle)))) | (refine ac F (by first | rfl | (refine decide_eq_true ?_;(omega))) ?_) | (refine ai (an (id:=9) _ (fun _ h=>h) ah ?_);refine jT 25 [0,1,2] (aa 28 7) ?_;(try (first | refine Nx.re (d:=49) (v':=Bo true) F (congrArg Value.bool F) ?_ | refine Nx.re (d:=49) (v':=Bo false) F (congrArg Value.bool F) ?_));refine jT 23 [3,4] (aa 28 31) ?_;(first | refine jG (aa 28 63) 5 F (aT F F F) ?_ | refine jG (aa 28 63) 5 F (aH F F F) ?_);refine jT 21 [6] (aa 28 127) ?_;(try (first | refine Nx.re (d:=53) (v':=Bo true) F (congrArg Value.bool F) ?_ | refine Nx.re (d:=53) (v':=Bo false) F (congrArg Value.bool F) ?_));refine jT 20 [7] (aa 28 255) ?_;(first | refine jG (aa 28 511) 8 F (aq F F F) ?_ | refine jN (aa 28 511) 8 F ?_);(first | refine jN (aa 28 1023) 9 F ?_ | (refine jA 9 F ?_;(refine ab F F F (cx_nm2 _) F ?_);refine jS (aa 28 1023) ?_));refine jT 17 [10] (aa 28 2047) ?_;(first | refine jG (aa 28 4095) 11 F (aT F F F) ?_ | refine jG (aa 28 4095) 11 F (aH F F F) ?_);refine jT 15 [12] (aa 28 8191) ?_;(try (refine Nx.re (d:=59) (v':=Bo true) F (congrArg Value.bool F) ?_));refine jT 12 [13,14,15] (aa 28 65535) ?_;(try (fail));refine jT 8 [16,18,19,23] (aa 28 9306111) ?_;(refine jN (aa 28 9437183) 17 F ?_);(refine jN (aa 28 10485759) 20 F ?_);refine jT 5 [21] (aa 28 12582911) ?_;(refine jN (aa 28 16777215) 22 F ?_);(refine jN (aa 28 33554431) 24 F ?_);refine jT 2 [25] (aa 28 67108863) ?_;(refine jN (aa 28 134217727) 26 F ?_);(refine jG (aa 28 268435455) 27 F (aT F F F) ?_);refine jQ ?_))
   refine Nx.base hok hB ?_
   refine jY (vs:=[_]) ?_
   rw [ar,nL hi hb]
 ·repeat' (first | refine jR ?_ | (refine jo ?_;first | refine aj F ?_ | refine jV (cY F aS) ?_) | refine ad F (aC oM) ?_)
  refine Nx.base hok hB ?_
  refine jY (vs:=[_]) ?_
  rw [ar,se (by simpa using h1) oM (fun k hk=>hgood k oM)]
abbrev abn : TypeId:=33
theorem l3 {s : abL} {u : Value} {a : List Mt} (h : s.length ≤ 1048576) (hu : bh G u 3 a.length (aA c9 a)) (hn : a.length ≤ 1048576) (ha : ∀ x ∈ a,mZ x) :
  am abK 43 [Ag [S s,u]] G (· = Bo (di s a)):=by
 have hs : s.length ≤ 10000000:=oM
 refine jB (Post:=fun v G' L'=>G' = G ∧ L' = [] ∧ _) [(0,_)] Tryz.func43 Tryz.ntmps43 fun B hok hB hW=>?_
 repeat' (first | refine jR ?_ | (refine jo ?_;first | refine jO fun _=>?_ | refine aj F ?_ | refine jV (cY F aS) ?_ | refine aL F ?_ | refine av F ?_ | refine ab F F F (rX oM) F ?_) | refine kG F F (fun _=>?_) (fun _=>?_) | refine ac F F ?_ | refine cT F (fun _=>?_) (fun _=>?_))
 ·rename_i h1
  refine Nx.base hok hB ?_
  refine jY (vs:=[_]) ?_
  have h2 : (aN s).isSome = false:=by simpa using h1
  unfold di;rw [h2];rfl
 ·rename_i h1
  refine Nx.base hok hB ?_
  refine jY (vs:=[_]) ?_
  have h2 : decide (a.length ≤ 6) = false:=by simp;omega
  unfold di;rw [h2];simp
 rename_i x h1 h2
 refine aR (ι:=Nat × Gh) (fun i=>(i.1 ≤ a.length ∧ Gh.le G i.2) ∧ ∀ k,k < i.1 → dk s a k = true) (fun i=>[(1,Pt x 0),(22,u),(23,I a.length),(24,I i.1)]) (fun i=>i.2) (fun i=>[.blk x (.cells #[S s,u] abn (0,0))]) (fun i=>a.length - i.1) (0,G) ?_ tU F aX (fun i Hi=>?_)
 ·exact ⟨⟨Nat.zero_le _,Gh.le.refl _⟩,fun k hk=>absurd hk (by simp)⟩
 obtain ⟨i,G1⟩:=i
 dsimp only at Hi ⊢
 obtain ⟨⟨hi1,hg⟩,hgood⟩:=Hi
 by_cases hi : i < a.length
 ·obtain ⟨ba,oa,ca,rfl,sa⟩:=(hu.mono hg).expl oM
  have hx:=ha _ (bT hi)
  cases e1 : bV s (ae a i).2.1 <;> cases e2 : bV s (ae a i).2.2 <;> cases e3 : b5 (ae a i).1
  all_goals
   have cx_bo1 : ∀ G,bA abK 59 [S s,S (ae a i).2.1] G (fun v _=>∃ p a' b c,v = Tu [p,Ag [S a',S b,S c],Bo (bV s (ae a i).2.1)]):=fun G=>by
    refine (iY (G:=G) hs oM).mono ?_
    rintro v G' L' ⟨h1,h2,⟨h3,p,a',b,c,rfl⟩ | ⟨b,qs,rfl,h3,h4,_⟩⟩
    ·exact ⟨h1,h2,p,a',b,c,by rw [h3]⟩
    ·exact ⟨h1,h2,_,_,_,_,by unfold bV;rw [h3];dsimp only;rw [h4];rfl⟩
   have cx_bo2 : ∀ G,bA abK 59 [S s,S (ae a i).2.2] G (fun v _=>∃ p a' b c,v = Tu [p,Ag [S a',S b,S c],Bo (bV s (ae a i).2.2)]):=fun G=>by
    refine (iY (G:=G) hs oM).mono ?_
    rintro v G' L' ⟨h1,h2,⟨h3,p,a',b,c,rfl⟩ | ⟨b,qs,rfl,h3,h4,_⟩⟩
    ·exact ⟨h1,h2,p,a',b,c,by rw [h3]⟩
    ·exact ⟨h1,h2,_,_,_,_,by unfold bV;rw [h3];dsimp only;rw [h4];rfl⟩
   have cx_nm2 : ∀ G,am abK 76 [S (ae a i).1] G (· = Bo (b5 (ae a i).1)):=fun G=>cZ oM
   rw [e1] at cx_bo1
   rw [e2] at cx_bo2
   rw [e3] at cx_nm2
  case true.true.true =>
   rcases i with _ | j
   ·repeat' (first | refine jM ?_ | (refine jo ?_;first | refine aj F ?_ | (refine jV (cD F F aS ?_) ?_;focus omega) | refine jV (ax F F oM) ?_ | refine jL fun _=>?_ | refine jC F F F ?_ | (refine aJ F F F (cx_bo1 _) F ?_;rintro _ G hle ⟨p1,a1,b1,c1,rfl⟩;((try have sa:=bW.mono sa hle);(try have hg:=Gh.le.trans hg hle))) | (refine aJ F F F (cx_bo2 _) F ?_;rintro _ G hle ⟨p2,a2,b2,c2,rfl⟩;((try have sa:=bW.mono sa hle);(try have hg:=Gh.le.trans hg hle)))) | refine ac F (ay oM) ?_ | refine ad F F ?_ | (refine ai (an (id:=8) _ (fun _ h=>h) ah ?_);refine jT 25 [0,1,2] (aa 28 7) ?_;(try (refine Nx.re (d:=49) (v':=Bo false) F (congrArg Value.bool F) ?_));refine jT 23 [3,4] (aa 28 31) ?_;(refine jG (aa 28 63) 5 F (aH F F F) ?_);refine jT 21 [6] (aa 28 127) ?_;(try (refine Nx.re (d:=53) (v':=Bo false) F (congrArg Value.bool F) ?_));refine jT 20 [7] (aa 28 255) ?_;(refine jG (aa 28 511) 8 F (aq F F F) ?_);(refine jA 9 F ?_;(refine ab F F F (cx_nm2 _) F ?_);refine jS (aa 28 1023) ?_);refine jT 17 [10] (aa 28 2047) ?_;(refine jG (aa 28 4095) 11 F (aH F F F) ?_);refine jT 15 [12] (aa 28 8191) ?_;(try (refine Nx.re (d:=59) (v':=Bo false) F (congrArg Value.bool F) ?_));refine jT 12 [13,14,15] (aa 28 65535) ?_;(try (refine Nx.re (d:=62) (v':=Bo false) F (congrArg Value.bool F) ?_));refine jT 8 [16,18,19,23] (aa 28 9306111) ?_;(refine jN (aa 28 9437183) 17 F ?_);(refine jN (aa 28 10485759) 20 F ?_);refine jT 5 [21] (aa 28 12582911) ?_;(refine jN (aa 28 16777215) 22 F ?_);(refine jN (aa 28 33554431) 24 F ?_);refine jT 2 [25] (aa 28 67108863) ?_;(refine jG (aa 28 134217727) 26 F (aH F F F) ?_);(refine jG (aa 28 268435455) 27 F (aH F F F) ?_);refine jQ ?_))
    refine aW (1,G) ⟨⟨by dsimp only;omega,hg⟩,fun k hk=>?_⟩ (by dsimp only;omega) tU rfl sB
    have : k = 0:=by dsimp only at hk;omega
    subst this
    simp [dk,ng,e1,e2,e3]
   ·have ej : ((((j + 1 : Nat) : Int) - 1).toNat) = j:=oM
    cases e5 : Op.bytesLess (ae a j).1 (ae a (j + 1)).1
    ·have hb : dk s a (j + 1) = false:=by simp [dk,e5]
     have e6 : Op.bytesLess (ae a (((j + 1 : Nat) : Int) - 1).toNat).1 (ae a (j + 1)).1 = false:=by rw [ej];exact e5
     repeat' (first | refine jR ?_ | (refine jo ?_;first | refine aj F ?_ | (refine jV (cD F F aS ?_) ?_;focus omega) | refine jV (ax F F oM) ?_ | refine jL fun _=>?_ | refine jC F F F ?_ | (refine aJ F F F (cx_bo1 _) F ?_;rintro _ G hle ⟨p1,a1,b1,c1,rfl⟩;((try have sa:=bW.mono sa hle);(try have hg:=Gh.le.trans hg hle))) | (refine aJ F F F (cx_bo2 _) F ?_;rintro _ G hle ⟨p2,a2,b2,c2,rfl⟩;((try have sa:=bW.mono sa hle);(try have hg:=Gh.le.trans hg hle)))) | (refine ac F ?_ ?_;(focus ((first | (refine decide_eq_true ?_;(omega)) | (simp [*];done));done))) | (refine ai (an (id:=8) _ (fun _ h=>h) ah ?_);refine jT 25 [0,1,2] (aa 28 7) ?_;(try (refine Nx.re (d:=49) (v':=Bo false) F (congrArg Value.bool F) ?_));refine jT 23 [3,4] (aa 28 31) ?_;(refine jG (aa 28 63) 5 F (aH F F F) ?_);refine jT 21 [6] (aa 28 127) ?_;(try (refine Nx.re (d:=53) (v':=Bo false) F (congrArg Value.bool F) ?_));refine jT 20 [7] (aa 28 255) ?_;(refine jG (aa 28 511) 8 F (aq F F F) ?_);(refine jA 9 F ?_;(refine ab F F F (cx_nm2 _) F ?_);refine jS (aa 28 1023) ?_);refine jT 17 [10] (aa 28 2047) ?_;(refine jG (aa 28 4095) 11 F (aH F F F) ?_);refine jT 15 [12] (aa 28 8191) ?_;(try (refine Nx.re (d:=59) (v':=Bo false) F (congrArg Value.bool F) ?_));refine jT 12 [13,14,15] (aa 28 65535) ?_;(try ((refine Nx.re (d:=62) (v':=Bo true) F (congrArg Value.bool (ay oM)) ?_)));refine jW 8 [16,18,19,23] (aa 28 9306111) ?_;(refine jG (aa 28 9437183) 17 F (aq F F F) ?_);(refine jG (aa 28 10485759) 20 F (a9 F F oM) ?_);refine jT 5 [21] (aa 28 12582911) ?_;((refine jG (aa 28 16777215) 22 F (bN F F aS ?_ F F) ?_;focus omega));(refine jG (aa 28 33554431) 24 F (aq F F F) ?_);refine jT 2 [25] (aa 28 67108863) ?_;(refine jG (aa 28 134217727) 26 F (aT F F F) ?_);(refine jG (aa 28 268435455) 27 F (aH F F F) ?_);refine jQ ?_))
     all_goals refine Nx.base hok hB ?_
     all_goals refine jY (vs:=[_]) ?_
     all_goals rw [ar,nL hi hb]
    ·have hb : dk s a (j + 1) = true:=by simp [dk,ng,e1,e2,e3,e5]
     have e6 : Op.bytesLess (ae a (((j + 1 : Nat) : Int) - 1).toNat).1 (ae a (j + 1)).1 = true:=by rw [ej];exact e5
     repeat' (first | refine jM ?_ | (refine jo ?_;first | refine aj F ?_ | (refine jV (cD F F aS ?_) ?_;focus omega) | refine jV (ax F F oM) ?_ | refine jL fun _=>?_ | refine jC F F F ?_ | (refine aJ F F F (cx_bo1 _) F ?_;rintro _ G hle ⟨p1,a1,b1,c1,rfl⟩;((try have sa:=bW.mono sa hle);(try have hg:=Gh.le.trans hg hle))) | (refine aJ F F F (cx_bo2 _) F ?_;rintro _ G hle ⟨p2,a2,b2,c2,rfl⟩;((try have sa:=bW.mono sa hle);(try have hg:=Gh.le.trans hg hle)))) | refine ac F (ay oM) ?_ | (refine ad F ?_ ?_;(focus ((simp [*];done);done))) | (refine ai (an (id:=8) _ (fun _ h=>h) ah ?_);refine jT 25 [0,1,2] (aa 28 7) ?_;(try (refine Nx.re (d:=49) (v':=Bo false) F (congrArg Value.bool F) ?_));refine jT 23 [3,4] (aa 28 31) ?_;(refine jG (aa 28 63) 5 F (aH F F F) ?_);refine jT 21 [6] (aa 28 127) ?_;(try (refine Nx.re (d:=53) (v':=Bo false) F (congrArg Value.bool F) ?_));refine jT 20 [7] (aa 28 255) ?_;(refine jG (aa 28 511) 8 F (aq F F F) ?_);(refine jA 9 F ?_;(refine ab F F F (cx_nm2 _) F ?_);refine jS (aa 28 1023) ?_);refine jT 17 [10] (aa 28 2047) ?_;(refine jG (aa 28 4095) 11 F (aH F F F) ?_);refine jT 15 [12] (aa 28 8191) ?_;(try (refine Nx.re (d:=59) (v':=Bo false) F (congrArg Value.bool F) ?_));refine jT 12 [13,14,15] (aa 28 65535) ?_;(try ((refine Nx.re (d:=62) (v':=Bo true) F (congrArg Value.bool (ay oM)) ?_)));refine jW 8 [16,18,19,23] (aa 28 9306111) ?_;(refine jG (aa 28 9437183) 17 F (aq F F F) ?_);(refine jG (aa 28 10485759) 20 F (a9 F F oM) ?_);refine jT 5 [21] (aa 28 12582911) ?_;((refine jG (aa 28 16777215) 22 F (bN F F aS ?_ F F) ?_;focus omega));(refine jG (aa 28 33554431) 24 F (aq F F F) ?_);refine jT 2 [25] (aa 28 67108863) ?_;(refine jG (aa 28 134217727) 26 F (aT F F F) ?_);(refine jG (aa 28 268435455) 27 F (aH F F F) ?_);refine jQ ?_))
     all_goals
      refine aW (j + 1 + 1,G) ⟨⟨by dsimp only;omega,hg⟩,fun k hk=>?_⟩ (by dsimp only;omega) tU rfl sB
      rcases Nat.lt_or_ge k (j + 1) with h1 | h1
      ·exact hgood k h1
      ·have : k = j + 1:=by dsimp only at hk;omega
       subst this;exact hb
  all_goals
   have hb : dk s a i = false:=by simp [dk,ng,e1,e2,e3]
   repeat' (first | refine jR ?_ | (refine jo ?_;first | refine aj F ?_ | (refine jV (cD F F aS ?_) ?_;focus omega) | refine jV (ax F F oM) ?_ | refine jL fun _=>?_ | refine jC F F F ?_ | (refine aJ F F F (cx_bo1 _) F ?_;rintro _ G hle ⟨p1,a1,b1,c1,rfl⟩;((try have sa:=bW.mono sa hle);(try have hg:=Gh.le.trans hg hle))) | (refine aJ F F F (cx_bo2 _) F ?_;rintro _ G hle ⟨p2,a2,b2,c2,rfl⟩;((try have sa:=bW.mono sa hle);(try have hg:=Gh.le.trans hg hle)))) | (refine ac F (by first | rfl | (refine decide_eq_true ?_;(omega))) ?_) | (refine ai (an (id:=8) _ (fun _ h=>h) ah ?_);refine jT 25 [0,1,2] (aa 28 7) ?_;(try (first | refine Nx.re (d:=49) (v':=Bo true) F (congrArg Value.bool F) ?_ | refine Nx.re (d:=49) (v':=Bo false) F (congrArg Value.bool F) ?_));refine jT 23 [3,4] (aa 28 31) ?_;(first | refine jG (aa 28 63) 5 F (aT F F F) ?_ | refine jG (aa 28 63) 5 F (aH F F F) ?_);refine jT 21 [6] (aa 28 127) ?_;(try (first | refine Nx.re (d:=53) (v':=Bo true) F (congrArg Value.bool F) ?_ | refine Nx.re (d:=53) (v':=Bo false) F (congrArg Value.bool F) ?_));refine jT 20 [7] (aa 28 255) ?_;(first | refine jG (aa 28 511) 8 F (aq F F F) ?_ | refine jN (aa 28 511) 8 F ?_);(first | refine jN (aa 28 1023) 9 F ?_ | (refine jA 9 F ?_;(refine ab F F F (cx_nm2 _) F ?_);refine jS (aa 28 1023) ?_));refine jT 17 [10] (aa 28 2047) ?_;(first | refine jG (aa 28 4095) 11 F (aT F F F) ?_ | refine jG (aa 28 4095) 11 F (aH F F F) ?_);refine jT 15 [12] (aa 28 8191) ?_;(try (refine Nx.re (d:=59) (v':=Bo true) F (congrArg Value.bool F) ?_));refine jT 12 [13,14,15] (aa 28 65535) ?_;(try (fail));refine jT 8 [16,18,19,23] (aa 28 9306111) ?_;(refine jN (aa 28 9437183) 17 F ?_);(refine jN (aa 28 10485759) 20 F ?_);refine jT 5 [21] (aa 28 12582911) ?_;(refine jN (aa 28 16777215) 22 F ?_);(refine jN (aa 28 33554431) 24 F ?_);refine jT 2 [25] (aa 28 67108863) ?_;(refine jN (aa 28 134217727) 26 F ?_);(refine jG (aa 28 268435455) 27 F (aT F F F) ?_);refine jQ ?_))
   refine Nx.base hok hB ?_
   refine jY (vs:=[_]) ?_
   rw [ar,nL hi hb]
 ·repeat' (first | refine jR ?_ | refine ad F (aC oM) ?_)
  refine Nx.base hok hB ?_
  refine jY (vs:=[_]) ?_
  rw [ar,se (by simpa using h1) oM (fun k hk=>hgood k oM)]
def du (a : List Mt) (x : abL) : Option Mt:=a.find? fun m=>decide (m.1 = x)
theorem qI {a : List Mt} {x : abL} {i : Nat} (hi : i < a.length) (hno : ∀ k,k < i → (ae a k).1 ≠ x) (h : (ae a i).1 = x) : du a x = some (ae a i) :=
 pd hi (fun k hk=>by simpa using hno k hk) (by simpa using h)
theorem qH {a : List Mt} {x : abL} (hno : ∀ k,k < a.length → (ae a k).1 ≠ x) : du a x = none:=sG fun k hk=>by simpa using hno k hk
abbrev zM : Mt:=([],[],[])
abbrev abu : TypeId:=67
abbrev abp : TypeId:=33
theorem my {s x : abL} {u : Value} {a : List Mt} (hu : bh G u 3 a.length (aA c9 a)) (hn : a.length ≤ 1048576) :
  am abK 39 [Ag [S s,u],S x] G (· = Tu [Ag (c9 ((du a x).getD zM)),Bo (du a x).isSome]):=by
 refine jE [(0,_),(1,_)] Tryz.func39 Tryz.ntmps39 fun B hB=>?_
 repeat' (first | refine jR ?_ | (refine jo ?_;first | refine jO fun _=>?_ | refine jL fun _=>?_))
 rename_i x2 x4
 refine aR (ι:=Nat) (fun i=>i ≤ a.length ∧ ∀ k,k < i → (ae a k).1 ≠ x) (fun i=>[(1,S x),(2,Pt x2 0),(4,Pt x4 0),(6,I i)]) (fun _=>G) (fun i=>[.blk x4 (.cells (List.toArray [S [],S [],S []]) abu (0,0)),.blk x2 (.cells (List.toArray [S s,u]) abp (0,0))]) (fun i=>a.length - i) 0 ?_ tU F aX (fun i Hi=>?_)
 ·exact ⟨Nat.zero_le _,fun k hk=>absurd hk oM⟩
 by_cases hi : i < a.length
 ·obtain ⟨ba,oa,ca,rfl,sa⟩:=hu.expl oM
  repeat' (first | refine jM ?_ | (refine jo ?_;first | refine aj F ?_ | (refine jV (cD F F aS ?_) ?_;focus omega) | (refine jV (bN F F aS ?_ F F) ?_;focus omega) | refine jV (aw F) ?_ | refine jV (ax F F oM) ?_ | refine jC F F F ?_) | refine ac F (ay oM) ?_ | refine cT F (fun _=>?_) (fun _=>?_))
  ·rename_i he
   refine jZ (vs:=[_,_]) F ⟨aE F F F F,F,trivial⟩ F ⟨F,F,?_⟩
   rw [qI hi Hi.2 he];rfl
  ·rename_i he
   refine aW (i + 1) ⟨oM,fun k hk=>?_⟩ oM tU F aX
   rcases Nat.lt_or_ge k i with h3 | h3
   ·exact Hi.2 k h3
   ·have : k = i:=oM
    subst this;exact he
 ·repeat' (first | refine jR ?_ | (refine jo ?_;first | refine aj F ?_ | refine jV (cY F aS) ?_ | refine jC F F F ?_ | refine jV (ao F F) ?_) | refine ad F (aC oM) ?_)
  refine jZ (vs:=[_,_]) F ⟨aE F F F F,F,trivial⟩ F ⟨F,F,?_⟩
  rw [qH fun k hk=>Hi.2 k oM];rfl
abbrev abv : TypeId:=67
abbrev abq : TypeId:=33
theorem k7 {s x : abL} {u : Value} {a : List Mt} (hu : bh G u 3 a.length (aA c9 a)) (hn : a.length ≤ 1048576) :
  am abK 46 [Ag [S s,u],S x] G (· = Tu [Ag (c9 ((du a x).getD zM)),Bo (du a x).isSome]):=by
 refine jE [(0,_),(1,_)] Tryz.func46 Tryz.ntmps46 fun B hB=>?_
 repeat' (first | refine jR ?_ | (refine jo ?_;first | refine jO fun _=>?_ | refine jL fun _=>?_ | refine aj F ?_ | refine jV (cY F aS) ?_))
 rename_i x2 x4
 refine aR (ι:=Nat) (fun i=>i ≤ a.length ∧ ∀ k,k < i → (ae a k).1 ≠ x) (fun i=>[(1,S x),(2,Pt x2 0),(4,Pt x4 0),(9,u),(10,I a.length),(11,I i)]) (fun _=>G) (fun i=>[.blk x4 (.cells (List.toArray [S [],S [],S []]) abv (0,0)),.blk x2 (.cells (List.toArray [S s,u]) abq (0,0))]) (fun i=>a.length - i) 0 ?_ tU F aX (fun i Hi=>?_)
 ·exact ⟨Nat.zero_le _,fun k hk=>absurd hk oM⟩
 by_cases hi : i < a.length
 ·obtain ⟨ba,oa,ca,rfl,sa⟩:=hu.expl oM
  repeat' (first | refine jM ?_ | (refine jo ?_;first | refine jL fun _=>?_ | refine aj F ?_ | (refine jV (cD F F aS ?_) ?_;focus omega) | refine aG F ?_ | refine jV (ax F F oM) ?_ | refine jC F F F ?_) | refine ac F (ay oM) ?_ | refine cT F (fun _=>?_) (fun _=>?_))
  ·rename_i he
   refine jZ (vs:=[_,_]) F ⟨aE F F F F,F,trivial⟩ F ⟨F,F,?_⟩
   rw [qI hi Hi.2 he];rfl
  ·rename_i he
   refine aW (i + 1) ⟨oM,fun k hk=>?_⟩ oM tU F sB
   rcases Nat.lt_or_ge k i with h3 | h3
   ·exact Hi.2 k h3
   ·have : k = i:=oM
    subst this;exact he
 ·repeat' (first | refine jR ?_ | (refine jo ?_;first | refine jC F F F ?_ | refine jV (ao F F) ?_) | refine ad F (aC oM) ?_)
  refine jZ (vs:=[_,_]) F ⟨aE F F F F,F,trivial⟩ F ⟨F,F,?_⟩
  rw [qH fun k hk=>Hi.2 k oM];rfl
theorem kE {n : Int} {b : Bool} (h : decide (0 ≤ n ∧ n ≤ 999) = b) : (decide (0 ≤ n) && decide (n ≤ 999)) = b:=by
 rw [← h];simp
def cI (x : abL) : Option (Int × abL):=match dX x with
 | some body=>(match bc body with
  | some (n,r)=>if n ≤ 999 then some (n,r) else none
  | none=>none)
 | none=>none
def gl (s : abL) (a : List Mt) (x : abL) : Option (Int × abL × V):=match cI x with
 | some (n,r)=>(match bL r with
  | some (nm,b)=>(match du a nm with
   | some m=>if di s a = true then (cB s m.2.1 b).map fun v=>(n,nm,v) else none
   | none=>none)
  | none=>none)
 | none=>none
def oD (o : Option (Int × abL × V)) : Value:=match o with
 | some (n,nm,v)=>Tu [I n,S nm,S v.out,Bo true]
 | none=>Tu [I 0,S [],S [],Bo false]
def ma (s : abL) (a : List Mt) (nm x : abL) : Option (Int × Option V):=match cI x with
 | some (n,r)=>(match du a nm with
  | some m=>if di s a = true then (match bM r with
   | some (true,q)=>if q = [] then some (n,none) else none
   | some (false,q)=>(cB s m.2.2 q).map fun v=>(n,some v)
   | none=>none) else none
  | none=>none)
 | none=>none
def rI (o : Option (Int × Option V)) : Value:=match o with
 | some (n,some v)=>Tu [I n,S v.out,Bo true,Bo true]
 | some (n,none)=>Tu [I n,S [],Bo false,Bo true]
 | none=>Tu [I 0,S [],Bo false,Bo false]
theorem lH {x r : abL} {n : Int} (h : cI x = some (n,r)) : ∃ body,dX x = some body ∧ bc body = some (n,r) ∧ 0 ≤ n ∧ n ≤ 999 ∧ r.length < body.length ∧ body.length ≤ 100:=by
 unfold cI at h
 split at h
 ·rename_i body hj
  split at h
  ·rename_i n' r' hg
   split at h
   ·cases h
    exact ⟨body,hj,hg,(cm hg).1,by assumption,bx hg,kI hj⟩
   ·cases h
  ·cases h
 ·cases h
theorem oL {x r : abL} {n : Int} (h : cI x = some (n,r)) : am abK 37 [S x] G (· = Tu [I n,S r,Bo true]):=by
 obtain ⟨body,hj,hg,h0,h1,h2,h3⟩:=lH h
 have cx_FramesGet:=vy (G:=G) hj
 have cx_ng0:=dR (G:=G) (s:=body) oM
 rw [hg] at cx_ng0
 have cx_ng : am abK 71 [S body] G (· = Tu [I n,S r,Bo true]):=cx_ng0
 refine jE [(0,_)] Tryz.func37 Tryz.ntmps37 fun B hB=>?_
 repeat' (first | refine jR ?_ | (refine jo ?_;first | refine aL F ?_ | refine av F ?_ | refine jV (aw F) ?_ | refine jV (a9 F F oM) ?_ | refine jV (fL F F F) ?_ | (refine dl F F F cx_FramesGet F ?_;rintro _ _ ⟨b,cap,rfl,rfl⟩;dsimp only [zA,fA]) | refine ab F F F cx_ng F ?_) | refine aD F F F ?_ | refine al F F F ?_ | refine ad F F ?_)
 all_goals refine jY (vs:=[_,_,_]) ?_
 all_goals exact (aB _ _ _).trans (by rw [decide_eq_true h1])
theorem oN {x : abL} (hx : x.length ≤ 1048576) (h : cI x = none) : am abK 37 [S x] G (fun v=>∃ n r,v = Tu [I n,S r,Bo false] ∧ r.length ≤ 100):=by
 cases hj : dX x with
 | none =>
  have hFG:=zX (G:=G) (s:=x) hx hj
  refine jE [(0,_)] Tryz.func37 Tryz.ntmps37 fun B hB=>?_
  repeat' (refine jR ?_)
  refine jo ?_
  refine dl F F F hFG F ?_
  rintro _ _ ⟨ub,j1,t1,xs1,ok1,rfl,rfl,hbad⟩
  dsimp only [zA,fA]
  rcases hbad with rfl | h | h | h
  all_goals repeat' (first | refine jR ?_ | (refine jo ?_;first | refine aL F ?_ | refine av F ?_ | refine jV (wN F) ?_) | (refine aD F F (by first | rfl | (refine decide_eq_true ?_;first | assumption | omega)) ?_) | refine d5 F F (fun _=>?_) (fun _=>?_) | refine kG F F (fun _=>?_) (fun _=>?_) | (refine ac F (by first | rfl | (refine decide_eq_true ?_;(omega))) ?_))
  all_goals refine jY (vs:=[_,_,_]) ?_
  all_goals exact ⟨_,_,F,by simp⟩
 | some body =>
  have hbl:=kI hj
  have cx_FramesGet:=vy (G:=G) hj
  have cx_ng0:=dR (G:=G) (s:=body) oM
  cases hg : bc body with
  | none =>
   rw [hg] at cx_ng0
   have cx_ng : am abK 71 [S body] G (· = Tu [I 0,S [],Bo false]):=cx_ng0
   refine jE [(0,_)] Tryz.func37 Tryz.ntmps37 fun B hB=>?_
   repeat' (first | refine jR ?_ | (refine jo ?_;first | refine av F ?_ | refine jV (aw F) ?_ | refine jV (a9 F F oM) ?_ | refine jV (fL F F F) ?_ | (refine dl F F F cx_FramesGet F ?_;rintro _ _ ⟨b,cap,rfl,rfl⟩;dsimp only [zA,fA]) | refine ab F F F cx_ng F ?_) | refine al F F F ?_ | refine ad F F ?_)
   all_goals refine jY (vs:=[_,_,_]) ?_
   all_goals exact ⟨_,_,F,by simp⟩
  | some z =>
   obtain ⟨n,r⟩:=z
   have hl:=bx hg
   rw [hg] at cx_ng0
   have cx_ng : am abK 71 [S body] G (· = Tu [I n,S r,Bo true]):=cx_ng0
   have hn : ¬ n ≤ 999:=fun hn=>by unfold cI at h;rw [hj] at h;dsimp only at h;rw [hg] at h;dsimp only at h;rw [if_pos hn] at h;cases h
   refine jE [(0,_)] Tryz.func37 Tryz.ntmps37 fun B hB=>?_
   repeat' (first | refine jR ?_ | (refine jo ?_;first | refine aL F ?_ | refine av F ?_ | refine jV (aw F) ?_ | refine jV (a9 F F oM) ?_ | refine jV (fL F F F) ?_ | (refine dl F F F cx_FramesGet F ?_;rintro _ _ ⟨b,cap,rfl,rfl⟩;dsimp only [zA,fA]) | refine ab F F F cx_ng F ?_) | refine aD F F F ?_ | refine al F F F ?_ | refine ad F F ?_)
   all_goals refine jY (vs:=[_,_,_]) ?_
   all_goals exact ⟨n,r,(aB _ _ _).trans (by rw [decide_eq_false hn]),oM⟩
theorem oK {s k b : abL} {u : Value} (hu : u.oneCell' = true) (h : s.length ≤ 1048576 ∧ k.length ≤ 1048576 ∧ b.length ≤ 1048576) : am abK 41 [Ag [S s,u],S k,S b] G (· = i5 ((cB s k b).map V.out)):=by
 have cx_bc1:=qb (G:=G) h
 have cx_bg1:=r5 (G:=G) h
 cases hc : cB s k b with
 | none =>
  rw [hc] at cx_bc1
  dsimp only [Option.isSome] at cx_bc1
  clear cx_bg1
  refine jE [(0,_),(1,_),(2,_)] Tryz.func41 Tryz.ntmps41 fun B hB=>?_
  repeat' (first | refine jR ?_ | (refine jo ?_;first | refine jO fun _=>?_ | refine aj F ?_ | refine ab F F F cx_bc1 F ?_) | refine ac F F ?_)
  all_goals refine jY (vs:=[_,_]) ?_
  all_goals rfl
 | some v =>
  rw [hc] at cx_bc1
  rw [tO hc] at cx_bg1
  unfold i5 at cx_bg1 ⊢
  dsimp only [Option.map,Option.getD,Option.isSome] at cx_bc1 cx_bg1 ⊢
  clear hc
  generalize v.out = vo at *
  refine jE [(0,_),(1,_),(2,_)] Tryz.func41 Tryz.ntmps41 fun B hB=>?_
  repeat' (first | refine jR ?_ | (refine jo ?_;first | refine jO fun _=>?_ | refine aj F ?_ | refine ab F F F cx_bc1 F ?_ | refine ab F F F cx_bg1 F ?_) | refine ad F F ?_)
  all_goals refine jY (vs:=[_,_]) ?_
  all_goals rfl
theorem uY {r : abL} (h : r.length ≤ 1000000) : am abK 38 [S r] G (fun v=>∃ p q b,v = Tu [S p,S q,Bo b]):=by
 have h2:=iU (G:=G) h
 cases ht : bL r with
 | none=>rw [ht] at h2;exact h2.mono fun v G' L' h=>⟨h.1,h.2.1,_,_,_,h.2.2⟩
 | some z=>rw [ht] at h2;exact h2.mono fun v G' L' h=>⟨h.1,h.2.1,_,_,_,h.2.2⟩
theorem p5 {s x : abL} {u : Value} {a : List Mt} (hu : bh G u 3 a.length (aA c9 a)) (hn : a.length ≤ 1048576) : am abK 39 [Ag [S s,u],S x] G (fun v=>∃ m1 m2 m3 b,v = Tu [Ag [S m1,S m2,S m3],Bo b]):=by
 have h2:=my (s:=s) (x:=x) hu hn
 cases hf : du a x with
 | none=>rw [hf] at h2;exact h2.mono fun v G' L' h=>⟨h.1,h.2.1,_,_,_,_,h.2.2⟩
 | some m=>rw [hf] at h2;exact h2.mono fun v G' L' h=>⟨h.1,h.2.1,_,_,_,_,h.2.2⟩
theorem t4 {s x : abL} {u : Value} {a : List Mt} (h : s.length ≤ 1048576 ∧ x.length ≤ 1048576) (hu : bh G u 3 a.length (aA c9 a)) (hn : a.length ≤ 1048576) (ha : ∀ x ∈ a,mZ x) :
  am abK 12 [Ag [S s,u],S x] G (· = oD (gl s a x)):=by
 have hu1:=hu.one
 unfold gl
 cases ho : cI x with
 | none =>
  have hop:=oN (G:=G) h.2 ho
  refine jE [(0,_),(1,_)] Tryz.func12 Tryz.ntmps12 fun B hB=>?_
  repeat' (first | refine jR ?_ | (refine jo ?_;refine jO fun _=>?_))
  refine jo ?_
  refine cn F F F hop F ?_
  rintro _ ⟨n1,r1,rfl,hr1⟩
  repeat' (refine jR ?_)
  refine jo ?_
  refine cn F F F (uY oM) F ?_
  rintro _ ⟨p1,q1,b1,rfl⟩
  repeat' (first | refine jR ?_ | (refine jo ?_;refine aG F ?_))
  refine jo ?_
  refine cn F F F (p5 hu hn) F ?_
  rintro _ ⟨m1,m2,m3,b2,rfl⟩
  repeat' (first | refine jR ?_ | (refine jo ?_;first | refine jL fun _=>?_ | refine jC F F F ?_ | refine aL F ?_) | refine aD F F F ?_ | refine ac F F ?_)
  all_goals refine jY (vs:=[_,_,_,_]) ?_
  all_goals rfl
 | some z =>
  obtain ⟨n,r⟩:=z
  obtain ⟨body,hj,hg,h0,h1,h2,h3⟩:=lH ho
  have cx_op:=oL (G:=G) ho
  have cx_tk0:=iU (G:=G) (s:=r) oM
  dsimp only
  cases ht : bL r with
  | none =>
   rw [ht] at cx_tk0
   have cx_tk : am abK 38 [S r] G (· = Tu [S [],S [],Bo false]):=cx_tk0
   clear cx_tk0
   refine jE [(0,_),(1,_)] Tryz.func12 Tryz.ntmps12 fun B hB=>?_
   repeat' (first | refine jR ?_ | (refine jo ?_;first | refine jO fun _=>?_ | refine aG F ?_ | refine ab F F F cx_op F ?_ | refine ab F F F cx_tk F ?_))
   refine jo ?_
   refine cn F F F (p5 hu hn) F ?_
   rintro _ ⟨m1,m2,m3,b2,rfl⟩
   repeat' (first | refine jR ?_ | (refine jo ?_;first | refine jL fun _=>?_ | refine jC F F F ?_ | refine aL F ?_ | refine av F ?_) | refine aD F F F ?_ | refine al F F F ?_ | refine ac F F ?_)
   all_goals refine jY (vs:=[_,_,_,_]) ?_
   all_goals rfl
  | some z =>
   obtain ⟨nm,b⟩:=z
   have hl2:=dz ht
   rw [ht] at cx_tk0
   have cx_tk : am abK 38 [S r] G (· = Tu [S nm,S b,Bo true]):=cx_tk0
   clear cx_tk0
   have cx_f0:=my (s:=s) (x:=nm) hu hn
   dsimp only
   cases hf : du a nm with
   | none =>
    rw [hf] at cx_f0
    have cx_find : am abK 39 [Ag [S s,u],S nm] G (· = Tu [Ag [S [],S [],S []],Bo false]):=cx_f0
    clear cx_f0
    refine jE [(0,_),(1,_)] Tryz.func12 Tryz.ntmps12 fun B hB=>?_
    repeat' (first | refine jR ?_ | (refine jo ?_;first | refine jO fun _=>?_ | refine aG F ?_ | refine jL fun _=>?_ | refine jC F F F ?_ | refine aL F ?_ | refine av F ?_ | refine ab F F F cx_op F ?_ | refine ab F F F cx_tk F ?_ | refine ab F F F cx_find F ?_) | refine aD F F F ?_ | refine al F F F ?_ | refine ac F F ?_)
    all_goals refine jY (vs:=[_,_,_,_]) ?_
    all_goals rfl
   | some m =>
    rw [hf] at cx_f0
    have cx_find : am abK 39 [Ag [S s,u],S nm] G (· = Tu [Ag [S m.1,S m.2.1,S m.2.2],Bo true]):=cx_f0
    clear cx_f0
    have hxm:=ha _ (List.mem_of_find?_eq_some hf)
    have cx_so:=lZ h.1 hu hn ha
    dsimp only
    cases e1 : di s a with
    | false =>
     have cx_so1 : am abK 40 [Ag [S s,u]] G (· = Bo false):=by rw [← e1];exact cx_so
     clear cx_so
     rw [if_neg (by simp)]
     refine jE [(0,_),(1,_)] Tryz.func12 Tryz.ntmps12 fun B hB=>?_
     repeat' (first | refine jR ?_ | (refine jo ?_;first | refine jO fun _=>?_ | refine aG F ?_ | refine jL fun _=>?_ | refine jC F F F ?_ | refine av F ?_ | refine ab F F F cx_op F ?_ | refine ab F F F cx_tk F ?_ | refine ab F F F cx_find F ?_ | refine ab F F F cx_so1 F ?_) | refine al F F F ?_ | refine ac F F ?_)
     all_goals refine jY (vs:=[_,_,_,_]) ?_
     all_goals rfl
    | true =>
     have cx_so1 : am abK 40 [Ag [S s,u]] G (· = Bo true):=by rw [← e1];exact cx_so
     clear cx_so
     rw [if_pos rfl]
     have cx_lv:=oK (G:=G) (s:=s) (k:=m.2.1) (b:=b) hu1 ⟨h.1,oM,oM⟩
     unfold i5 at cx_lv
     cases hc : cB s m.2.1 b with
     | none =>
      rw [hc] at cx_lv
      dsimp only [Option.map,Option.getD,Option.isSome] at cx_lv ⊢
      clear ho hj hg hf ht hc
      refine jE [(0,_),(1,_)] Tryz.func12 Tryz.ntmps12 fun B hB=>?_
      repeat' (first | refine jR ?_ | (refine jo ?_;first | refine jO fun _=>?_ | refine aj F ?_ | refine aG F ?_ | refine jL fun _=>?_ | refine jC F F F ?_ | refine av F ?_ | refine ab F F F cx_op F ?_ | refine ab F F F cx_tk F ?_ | refine ab F F F cx_find F ?_ | refine ab F F F cx_so1 F ?_ | refine ab F F F cx_lv F ?_) | refine al F F F ?_ | refine ac F F ?_ | refine ad F F ?_)
      all_goals refine jY (vs:=[_,_,_,_]) ?_
      all_goals rfl
     | some v =>
      rw [hc] at cx_lv
      dsimp only [Option.map,Option.getD,Option.isSome,oD] at cx_lv ⊢
      clear ho hj hg hf ht hc
      generalize v.out = vo at *
      refine jE [(0,_),(1,_)] Tryz.func12 Tryz.ntmps12 fun B hB=>?_
      repeat' (first | refine jR ?_ | (refine jo ?_;first | refine jO fun _=>?_ | refine aj F ?_ | refine aG F ?_ | refine jL fun _=>?_ | refine jC F F F ?_ | refine av F ?_ | refine ab F F F cx_op F ?_ | refine ab F F F cx_tk F ?_ | refine ab F F F cx_find F ?_ | refine ab F F F cx_so1 F ?_ | refine ab F F F cx_lv F ?_) | refine al F F F ?_ | refine ad F F ?_)
      all_goals refine jY (vs:=[_,_,_,_]) ?_
      all_goals rfl
theorem vd {s x : abL} {u : Value} {a : List Mt} (hu : bh G u 3 a.length (aA c9 a)) (hn : a.length ≤ 1048576) : am abK 46 [Ag [S s,u],S x] G (fun v=>∃ m1 m2 m3 b,v = Tu [Ag [S m1,S m2,S m3],Bo b]):=by
 have h2:=k7 (s:=s) (x:=x) hu hn
 cases hf : du a x with
 | none=>rw [hf] at h2;exact h2.mono fun v G' L' h=>⟨h.1,h.2.1,_,_,_,_,h.2.2⟩
 | some m=>rw [hf] at h2;exact h2.mono fun v G' L' h=>⟨h.1,h.2.1,_,_,_,_,h.2.2⟩
theorem iv {s x : abL} {a : List Mt} (h : cI x = none ∨ (∃ n r,cI x = some (n,r) ∧ bL r = none) ∨ di s a = false) : gl s a x = none:=by
 unfold gl
 rcases h with h | ⟨n,r,h1,h2⟩ | h
 ·rw [h]
 ·rw [h1];dsimp only;rw [h2]
 ·cases cI x with
  | none=>rfl
  | some z =>
   obtain ⟨n,r⟩:=z
   dsimp only
   cases bL r with
   | none=>rfl
   | some y =>
    obtain ⟨nm,b⟩:=y
    dsimp only
    cases du a nm with
    | none=>rfl
    | some m=>dsimp only;rw [if_neg (by rw [h];simp)]
theorem t5 {s x : abL} {u : Value} {a : List Mt} (h : s.length ≤ 1048576 ∧ x.length ≤ 1048576) (hu : bh G u 3 a.length (aA c9 a)) (hn : a.length ≤ 1048576) (ha : ∀ x ∈ a,mZ x) :
  am abK 14 [Ag [S s,u],S x] G (· = oD (gl s a x)):=by
 have hu1:=hu.one
 have cx_jf:=mU (G:=G) (s:=x) h.2
 unfold i5 at cx_jf
 have cx_so:=l3 h.1 hu hn ha
 cases hj : dX x with
 | none =>
  rw [hj] at cx_jf
  dsimp only [Option.getD,Option.isSome] at cx_jf
  rw [iv (.inl (by unfold cI;rw [hj]))]
  cases e1 : di s a with
  | false =>
   have cx_so1 : am abK 43 [Ag [S s,u]] G (· = Bo false):=by rw [← e1];exact cx_so
   clear cx_so
   refine jE [(0,_),(1,_)] Tryz.func14 Tryz.ntmps14 fun B hB=>?_
   repeat' (first | refine jR ?_ | (refine jo ?_;first | refine jO fun _=>?_ | refine aL F ?_ | refine ab F F F cx_jf F ?_) | refine aD F F F ?_ | refine ac F F ?_)
   all_goals refine jY (vs:=[_,_,_,_]) ?_
   all_goals rfl
  | true =>
   have cx_so1 : am abK 43 [Ag [S s,u]] G (· = Bo true):=by rw [← e1];exact cx_so
   clear cx_so
   refine jE [(0,_),(1,_)] Tryz.func14 Tryz.ntmps14 fun B hB=>?_
   repeat' (first | refine jR ?_ | (refine jo ?_;first | refine jO fun _=>?_ | refine aL F ?_ | refine ab F F F cx_jf F ?_) | refine aD F F F ?_ | refine ac F F ?_)
   all_goals refine jY (vs:=[_,_,_,_]) ?_
   all_goals rfl
 | some body =>
  have hbl:=kI hj
  rw [hj] at cx_jf
  dsimp only [Option.getD,Option.isSome] at cx_jf
  cases e1 : di s a with
  | false =>
   have cx_so1 : am abK 43 [Ag [S s,u]] G (· = Bo false):=by rw [← e1];exact cx_so
   clear cx_so
   rw [iv (.inr (.inr e1))]
   refine jE [(0,_),(1,_)] Tryz.func14 Tryz.ntmps14 fun B hB=>?_
   repeat' (first | refine jR ?_ | (refine jo ?_;first | refine jO fun _=>?_ | refine aG F ?_ | refine av F ?_ | refine ab F F F cx_jf F ?_ | refine ab F F F cx_so1 F ?_) | refine al F F F ?_ | refine ac F F ?_)
   all_goals refine jY (vs:=[_,_,_,_]) ?_
   all_goals rfl
  | true =>
   have cx_so1 : am abK 43 [Ag [S s,u]] G (· = Bo true):=by rw [← e1];exact cx_so
   clear cx_so
   have hma:=fun x=>vd (G:=G) (s:=s) (x:=x) hu hn
   cases hg : bc body with
   | none =>
    rw [iv (.inl (by unfold cI;rw [hj];dsimp only;rw [hg]))]
    have hnb : ∀ y,bQ abK 44 [Pt y 0] G [cP y body false none 0 0 0] (fun v L'=>v = I 0 ∧ L' = [cP y [] true none 0 0 0]):=fun y=>mw hg oM
    have hnb2 : ∀ y,bQ abK 44 [Pt y 0] G [cP y [] true none 0 0 0] (fun v L'=>v = I 0 ∧ L' = [cP y [] true none 0 0 0]):=fun y=>mw rfl (by simp)
    have htk : ∀ y,bQ abK 45 [Pt y 0,I 0] G [cP y [] true none 0 0 0] (fun v L'=>v = S [] ∧ L' = [cP y [] true none 0 0 0]):=fun y=>k2 (m:=0) (.inl rfl) ⟨by simp,oM⟩
    refine jE [(0,_),(1,_)] Tryz.func14 Tryz.ntmps14 fun B hB=>?_
    repeat' (first | refine jR ?_ | (refine jo ?_;first | refine jO fun _=>?_ | refine aG F ?_ | refine av F ?_ | refine jV (ao F F) ?_ | refine ab F F F cx_jf F ?_ | refine ab F F F cx_so1 F ?_) | refine al F F F ?_ | refine ad F F ?_)
    rename_i xs y
    have cx_nb:=hnb y
    have cx_nb2:=hnb2 y
    have cx_tkb:=htk y
    repeat' (first | refine jR ?_ | (refine jo ?_;first | refine aG F ?_ | (refine af F F F cx_nb F ?_;rintro _ _ ⟨rfl,rfl⟩;dsimp only [zA,fA]) | (refine af F F F cx_nb2 F ?_;rintro _ _ ⟨rfl,rfl⟩;dsimp only [zA,fA]) | (refine af F F F cx_tkb F ?_;rintro _ _ ⟨rfl,rfl⟩;dsimp only [zA,fA])))
    refine jo ?_
    refine cn F F F (hma _) F ?_
    rintro _ ⟨m1,m2,m3,b2,rfl⟩
    cases b2
    all_goals repeat' (first | refine jR ?_ | (refine jo ?_;first | refine jL fun _=>?_ | refine jC F F F ?_) | refine ac F F ?_ | (refine ai (an (id:=8) _ (fun _ h=>h) ah ?_);refine jT 22 [0,1,2] (aa 25 7) ?_;(try (first | refine Nx.re (d:=45) (v':=Bo true) F (congrArg Value.bool F) ?_ | refine Nx.re (d:=45) (v':=Bo false) F (congrArg Value.bool F) ?_));refine jT 19 [3,4,5] (aa 25 63) ?_;(first | refine jG (aa 25 127) 6 F (aq F F F) ?_ | refine jN (aa 25 127) 6 F ?_);(first | refine jG (aa 25 255) 7 F (aT F F F) ?_ | refine jG (aa 25 255) 7 F (aH F F F) ?_);refine jT 16 [8] (aa 25 511) ?_;(try (refine Nx.re (d:=51) (v':=Bo true) F (congrArg Value.bool F) ?_));refine jT 15 [9] (aa 25 1023) ?_;(refine jN (aa 25 2047) 10 F ?_);refine jT 13 [11] (aa 25 4095) ?_;(refine jG (aa 25 8191) 12 F (aT F F F) ?_);refine jT 11 [13] (aa 25 16383) ?_;(try (refine Nx.re (d:=56) (v':=Bo true) F (congrArg Value.bool F) ?_));refine jT 6 [14,16,18,19,20] (aa 25 1933311) ?_;(refine jN (aa 25 1966079) 15 F ?_);(refine jN (aa 25 2097151) 17 F ?_);(refine jN (aa 25 4194303) 21 F ?_);(refine jN (aa 25 8388607) 22 F ?_);refine jT 1 [23] (aa 25 16777215) ?_;(refine jG (aa 25 33554431) 24 F (aT F F F) ?_);refine jQ ?_))
    all_goals refine jY (vs:=[_,_,_,_]) ?_
    all_goals rfl
   | some z =>
    obtain ⟨m,q⟩:=z
    obtain ⟨hm0,hm1,_⟩:=cm hg
    have hql:=bx hg
    have hbad : bL q = none → gl s a x = none:=fun ht=>by
     by_cases hm9 : m ≤ 999
     ·exact iv (.inr (.inl ⟨m,q,by unfold cI;rw [hj];dsimp only;rw [hg];dsimp only;rw [if_pos hm9],ht⟩))
     ·exact iv (.inl (by unfold cI;rw [hj];dsimp only;rw [hg];dsimp only;rw [if_neg hm9]))
    rcases e7 (s:=q) with ⟨hg2,ht⟩ | ⟨m3,q2,hg2,hm3,⟨hl3,ht⟩ | ⟨hl3,ht⟩⟩
    ·rw [hbad ht]
     have hnb : ∀ y,bQ abK 44 [Pt y 0] G [cP y body false none 0 0 0] (fun v L'=>v = I m ∧ L' = [cP y q false none 0 0 0]):=fun y=>ix hg oM
     have hnb2 : ∀ y,bQ abK 44 [Pt y 0] G [cP y q false none 0 0 0] (fun v L'=>v = I 0 ∧ L' = [cP y [] true none 0 0 0]):=fun y=>mw hg2 oM
     have htk : ∀ y,bQ abK 45 [Pt y 0,I 0] G [cP y [] true none 0 0 0] (fun v L'=>v = S [] ∧ L' = [cP y [] true none 0 0 0]):=fun y=>k2 (m:=0) (.inl rfl) ⟨by simp,oM⟩
     refine jE [(0,_),(1,_)] Tryz.func14 Tryz.ntmps14 fun B hB=>?_
     repeat' (first | refine jR ?_ | (refine jo ?_;first | refine jO fun _=>?_ | refine aG F ?_ | refine av F ?_ | refine jV (ao F F) ?_ | refine ab F F F cx_jf F ?_ | refine ab F F F cx_so1 F ?_) | refine al F F F ?_ | refine ad F F ?_)
     rename_i xs y
     have cx_nb:=hnb y
     have cx_nb2:=hnb2 y
     have cx_tkb:=htk y
     repeat' (first | refine jR ?_ | (refine jo ?_;first | refine aG F ?_ | (refine af F F F cx_nb F ?_;rintro _ _ ⟨rfl,rfl⟩;dsimp only [zA,fA]) | (refine af F F F cx_nb2 F ?_;rintro _ _ ⟨rfl,rfl⟩;dsimp only [zA,fA]) | (refine af F F F cx_tkb F ?_;rintro _ _ ⟨rfl,rfl⟩;dsimp only [zA,fA])))
     refine jo ?_
     refine cn F F F (hma _) F ?_
     rintro _ ⟨m1,m2,m3,b2,rfl⟩
     cases b2
     all_goals repeat' (first | refine jR ?_ | (refine jo ?_;first | refine jL fun _=>?_ | refine jC F F F ?_) | refine ac F F ?_ | (refine ai (an (id:=8) _ (fun _ h=>h) ah ?_);refine jT 22 [0,1,2] (aa 25 7) ?_;(try (first | refine Nx.re (d:=45) (v':=Bo true) F (congrArg Value.bool F) ?_ | refine Nx.re (d:=45) (v':=Bo false) F (congrArg Value.bool F) ?_));refine jT 19 [3,4,5] (aa 25 63) ?_;(first | refine jG (aa 25 127) 6 F (aq F F F) ?_ | refine jN (aa 25 127) 6 F ?_);(first | refine jG (aa 25 255) 7 F (aT F F F) ?_ | refine jG (aa 25 255) 7 F (aH F F F) ?_);refine jT 16 [8] (aa 25 511) ?_;(try (refine Nx.re (d:=51) (v':=Bo true) F (congrArg Value.bool F) ?_));refine jT 15 [9] (aa 25 1023) ?_;(refine jN (aa 25 2047) 10 F ?_);refine jT 13 [11] (aa 25 4095) ?_;(refine jG (aa 25 8191) 12 F (aT F F F) ?_);refine jT 11 [13] (aa 25 16383) ?_;(try (refine Nx.re (d:=56) (v':=Bo true) F (congrArg Value.bool F) ?_));refine jT 6 [14,16,18,19,20] (aa 25 1933311) ?_;(refine jN (aa 25 1966079) 15 F ?_);(refine jN (aa 25 2097151) 17 F ?_);(refine jN (aa 25 4194303) 21 F ?_);(refine jN (aa 25 8388607) 22 F ?_);refine jT 1 [23] (aa 25 16777215) ?_;(refine jG (aa 25 33554431) 24 F (aT F F F) ?_);refine jQ ?_))
     all_goals refine jY (vs:=[_,_,_,_]) ?_
     all_goals rfl
    ·rw [hbad ht]
     have hql2:=bx hg2
     have hnb : ∀ y,bQ abK 44 [Pt y 0] G [cP y body false none 0 0 0] (fun v L'=>v = I m ∧ L' = [cP y q false none 0 0 0]):=fun y=>ix hg oM
     have hnb2 : ∀ y,bQ abK 44 [Pt y 0] G [cP y q false none 0 0 0] (fun v L'=>v = I (m3 : Nat) ∧ L' = [cP y q2 false none 0 0 0]):=fun y=>ix hg2 oM
     have htk : ∀ y,bQ abK 45 [Pt y 0,I (m3 : Nat)] G [cP y q2 false none 0 0 0] (fun v L'=>v = S [] ∧ L' = [cP y q2 true none 0 0 0]):=fun y=>k2 (m:=m3) (.inr hl3) ⟨oM,oM⟩
     refine jE [(0,_),(1,_)] Tryz.func14 Tryz.ntmps14 fun B hB=>?_
     repeat' (first | refine jR ?_ | (refine jo ?_;first | refine jO fun _=>?_ | refine aG F ?_ | refine av F ?_ | refine jV (ao F F) ?_ | refine ab F F F cx_jf F ?_ | refine ab F F F cx_so1 F ?_) | refine al F F F ?_ | refine ad F F ?_)
     rename_i xs y
     have cx_nb:=hnb y
     have cx_nb2:=hnb2 y
     have cx_tkb:=htk y
     repeat' (first | refine jR ?_ | (refine jo ?_;first | refine aG F ?_ | (refine af F F F cx_nb F ?_;rintro _ _ ⟨rfl,rfl⟩;dsimp only [zA,fA]) | (refine af F F F cx_nb2 F ?_;rintro _ _ ⟨rfl,rfl⟩;dsimp only [zA,fA]) | (refine af F F F cx_tkb F ?_;rintro _ _ ⟨rfl,rfl⟩;dsimp only [zA,fA])))
     refine jo ?_
     refine cn F F F (hma _) F ?_
     rintro _ ⟨m1,m2,m3,b2,rfl⟩
     cases b2
     all_goals repeat' (first | refine jR ?_ | (refine jo ?_;first | refine jL fun _=>?_ | refine jC F F F ?_) | refine ac F F ?_ | (refine ai (an (id:=8) _ (fun _ h=>h) ah ?_);refine jT 22 [0,1,2] (aa 25 7) ?_;(try (first | refine Nx.re (d:=45) (v':=Bo true) F (congrArg Value.bool F) ?_ | refine Nx.re (d:=45) (v':=Bo false) F (congrArg Value.bool F) ?_));refine jT 19 [3,4,5] (aa 25 63) ?_;(first | refine jG (aa 25 127) 6 F (aq F F F) ?_ | refine jN (aa 25 127) 6 F ?_);(first | refine jG (aa 25 255) 7 F (aT F F F) ?_ | refine jG (aa 25 255) 7 F (aH F F F) ?_);refine jT 16 [8] (aa 25 511) ?_;(try (refine Nx.re (d:=51) (v':=Bo true) F (congrArg Value.bool F) ?_));refine jT 15 [9] (aa 25 1023) ?_;(refine jN (aa 25 2047) 10 F ?_);refine jT 13 [11] (aa 25 4095) ?_;(refine jG (aa 25 8191) 12 F (aT F F F) ?_);refine jT 11 [13] (aa 25 16383) ?_;(try (refine Nx.re (d:=56) (v':=Bo true) F (congrArg Value.bool F) ?_));refine jT 6 [14,16,18,19,20] (aa 25 1933311) ?_;(refine jN (aa 25 1966079) 15 F ?_);(refine jN (aa 25 2097151) 17 F ?_);(refine jN (aa 25 4194303) 21 F ?_);(refine jN (aa 25 8388607) 22 F ?_);refine jT 1 [23] (aa 25 16777215) ?_;(refine jG (aa 25 33554431) 24 F (aT F F F) ?_);refine jQ ?_))
     all_goals refine jY (vs:=[_,_,_,_]) ?_
     all_goals rfl
    have hql2:=bx hg2
    have htl : (q2.take m3).length ≤ 100:=by rw [List.length_take];omega
    have hdl : (q2.drop m3).length ≤ 100:=by rw [List.length_drop];omega
    have hnb : ∀ y,bQ abK 44 [Pt y 0] G [cP y body false none 0 0 0] (fun v L'=>v = I m ∧ L' = [cP y q false none 0 0 0]):=fun y=>ix hg oM
    have hnb2 : ∀ y,bQ abK 44 [Pt y 0] G [cP y q false none 0 0 0] (fun v L'=>v = I (m3 : Nat) ∧ L' = [cP y q2 false none 0 0 0]):=fun y=>ix hg2 oM
    have htk : ∀ y,bQ abK 45 [Pt y 0,I (m3 : Nat)] G [cP y q2 false none 0 0 0] (fun v L'=>v = S (q2.take m3) ∧ L' = [cP y (q2.drop m3) false none 0 0 0]):=fun y=>nB (m:=m3) ⟨hl3,oM⟩
    have cx_f0:=k7 (s:=s) (x:=q2.take m3) hu hn
    have ho : m ≤ 999 → cI x = some (m,q):=fun hm9=>by unfold cI;rw [hj];dsimp only;rw [hg];dsimp only;rw [if_pos hm9]
    have ho2 : ¬ m ≤ 999 → gl s a x = none:=fun hm9=>iv (.inl (by unfold cI;rw [hj];dsimp only;rw [hg];dsimp only;rw [if_neg hm9]))
    have hco : m ≤ 999 → gl s a x = match du a (q2.take m3) with
     | some mt=>(cB s mt.2.1 (q2.drop m3)).map fun v=>(m,q2.take m3,v)
     | none=>none:=fun hm9=>by
      unfold gl
      rw [ho hm9];dsimp only;rw [ht];dsimp only
      cases du a (q2.take m3) with
      | none=>rfl
      | some mt=>dsimp only;rw [if_pos e1]
    clear ho hbad hg hg2 ht hj
    cases hf : du a (q2.take m3) with
    | none =>
     rw [hf] at cx_f0
     have cx_find : am abK 46 [Ag [S s,u],S (q2.take m3)] G (· = Tu [Ag [S [],S [],S []],Bo false]):=cx_f0
     clear cx_f0
     have hres : gl s a x = none:=by
      by_cases hm9 : m ≤ 999
      ·rw [hco hm9,hf]
      ·exact ho2 hm9
     rw [hres]
     clear hco ho2 hf hres
     refine jE [(0,_),(1,_)] Tryz.func14 Tryz.ntmps14 fun B hB=>?_
     repeat' (first | refine jR ?_ | (refine jo ?_;first | refine jO fun _=>?_ | refine aG F ?_ | refine av F ?_ | refine jV (ao F F) ?_ | refine ab F F F cx_jf F ?_ | refine ab F F F cx_so1 F ?_) | refine al F F F ?_ | refine ad F F ?_)
     rename_i xs y
     have cx_nb:=hnb y
     have cx_nb2:=hnb2 y
     have cx_tkb:=htk y
     repeat' (first | refine jR ?_ | (refine jo ?_;first | refine aG F ?_ | refine jL fun _=>?_ | refine jC F F F ?_ | (refine af F F F cx_nb F ?_;rintro _ _ ⟨rfl,rfl⟩;dsimp only [zA,fA]) | (refine af F F F cx_nb2 F ?_;rintro _ _ ⟨rfl,rfl⟩;dsimp only [zA,fA]) | (refine af F F F cx_tkb F ?_;rintro _ _ ⟨rfl,rfl⟩;dsimp only [zA,fA]) | refine ab F F F cx_find F ?_) | refine ac F F ?_ | (refine ai (an (id:=8) _ (fun _ h=>h) ah ?_);refine jT 22 [0,1,2] (aa 25 7) ?_;(try (refine Nx.re (d:=45) (v':=Bo true) F (congrArg Value.bool F) ?_));refine jT 19 [3,4,5] (aa 25 63) ?_;(refine jN (aa 25 127) 6 F ?_);(refine jG (aa 25 255) 7 F (aT F F F) ?_);refine jT 16 [8] (aa 25 511) ?_;(try (refine Nx.re (d:=51) (v':=Bo true) F (congrArg Value.bool F) ?_));refine jT 15 [9] (aa 25 1023) ?_;(refine jN (aa 25 2047) 10 F ?_);refine jT 13 [11] (aa 25 4095) ?_;(refine jG (aa 25 8191) 12 F (aT F F F) ?_);refine jT 11 [13] (aa 25 16383) ?_;(try (refine Nx.re (d:=56) (v':=Bo true) F (congrArg Value.bool F) ?_));refine jT 6 [14,16,18,19,20] (aa 25 1933311) ?_;(refine jN (aa 25 1966079) 15 F ?_);(refine jN (aa 25 2097151) 17 F ?_);(refine jN (aa 25 4194303) 21 F ?_);(refine jN (aa 25 8388607) 22 F ?_);refine jT 1 [23] (aa 25 16777215) ?_;(refine jG (aa 25 33554431) 24 F (aT F F F) ?_);refine jQ ?_))
     all_goals refine jY (vs:=[_,_,_,_]) ?_
     all_goals rfl
    | some mt =>
     rw [hf] at cx_f0
     have cx_find : am abK 46 [Ag [S s,u],S (q2.take m3)] G (· = Tu [Ag [S mt.1,S mt.2.1,S mt.2.2],Bo true]):=cx_f0
     clear cx_f0
     have hxm:=ha _ (List.mem_of_find?_eq_some hf)
     have cx_bc1:=lm (G:=G) (s:=s) (k:=mt.2.1) (b:=q2.drop m3) ⟨h.1,oM,oM⟩
     have cx_bg1:=j0 (G:=G) (s:=s) (k:=mt.2.1) (b:=q2.drop m3) ⟨h.1,oM,oM⟩
     by_cases hm9 : m ≤ 999
     case neg =>
      have cx_nok : am abK 47 [I m] G (· = Bo false):=by
       rw [← kE (n:=m) (b:=false) (decide_eq_false fun h=>hm9 h.2)];exact ij
      rw [ho2 hm9]
      clear hco ho2 hf
      generalize (cB s mt.2.1 (q2.drop m3)).isSome = cb at *
      refine jE [(0,_),(1,_)] Tryz.func14 Tryz.ntmps14 fun B hB=>?_
      repeat' (first | refine jR ?_ | (refine jo ?_;first | refine jO fun _=>?_ | refine aG F ?_ | refine av F ?_ | refine jV (ao F F) ?_ | refine ab F F F cx_jf F ?_ | refine ab F F F cx_so1 F ?_) | refine al F F F ?_ | refine ad F F ?_)
      rename_i xs y
      have cx_nb:=hnb y
      have cx_nb2:=hnb2 y
      have cx_tkb:=htk y
      repeat' (first | refine jR ?_ | (refine jo ?_;first | refine aG F ?_ | refine jL fun _=>?_ | refine jC F F F ?_ | (refine af F F F cx_nb F ?_;rintro _ _ ⟨rfl,rfl⟩;dsimp only [zA,fA]) | (refine af F F F cx_nb2 F ?_;rintro _ _ ⟨rfl,rfl⟩;dsimp only [zA,fA]) | (refine af F F F cx_tkb F ?_;rintro _ _ ⟨rfl,rfl⟩;dsimp only [zA,fA]) | refine ab F F F cx_find F ?_) | refine ac F F ?_ | (refine ai (an (id:=8) _ (fun _ h=>h) ah ?_);refine jT 22 [0,1,2] (aa 25 7) ?_;(try (refine Nx.re (d:=45) (v':=Bo false) F (congrArg Value.bool F) ?_));refine jT 19 [3,4,5] (aa 25 63) ?_;(refine jG (aa 25 127) 6 F (aq F F F) ?_);(refine jG (aa 25 255) 7 F (aH F F F) ?_);refine jT 16 [8] (aa 25 511) ?_;(try (refine Nx.re (d:=51) (v':=Bo false) F (congrArg Value.bool F) ?_));refine jT 15 [9] (aa 25 1023) ?_;(refine jA 10 F ?_;(refine ab F F F cx_nok F ?_);refine jS (aa 25 2047) ?_);refine jT 13 [11] (aa 25 4095) ?_;(refine jG (aa 25 8191) 12 F (aH F F F) ?_);refine jT 11 [13] (aa 25 16383) ?_;(try (refine Nx.re (d:=56) (v':=Bo true) F (congrArg Value.bool F) ?_));refine jT 6 [14,16,18,19,20] (aa 25 1933311) ?_;(refine jN (aa 25 1966079) 15 F ?_);(refine jN (aa 25 2097151) 17 F ?_);(refine jN (aa 25 4194303) 21 F ?_);(refine jN (aa 25 8388607) 22 F ?_);refine jT 1 [23] (aa 25 16777215) ?_;(refine jG (aa 25 33554431) 24 F (aT F F F) ?_);refine jQ ?_))
      all_goals refine jY (vs:=[_,_,_,_]) ?_
      all_goals rfl
     have cx_nok : am abK 47 [I m] G (· = Bo true):=by
      rw [← kE (n:=m) (b:=true) (decide_eq_true ⟨hm0,hm9⟩)];exact ij
     rw [hco hm9,hf]
     dsimp only
     cases hc : cB s mt.2.1 (q2.drop m3) with
     | none =>
      rw [hc] at cx_bc1
      dsimp only [Option.isSome] at cx_bc1
      clear hco ho2 hf hc cx_bg1
      refine jE [(0,_),(1,_)] Tryz.func14 Tryz.ntmps14 fun B hB=>?_
      repeat' (first | refine jR ?_ | (refine jo ?_;first | refine jO fun _=>?_ | refine aG F ?_ | refine av F ?_ | refine jV (ao F F) ?_ | refine ab F F F cx_jf F ?_ | refine ab F F F cx_so1 F ?_) | refine al F F F ?_ | refine ad F F ?_)
      rename_i xs y
      have cx_nb:=hnb y
      have cx_nb2:=hnb2 y
      have cx_tkb:=htk y
      repeat' (first | refine jR ?_ | (refine jo ?_;first | refine aG F ?_ | refine jL fun _=>?_ | refine jC F F F ?_ | (refine af F F F cx_nb F ?_;rintro _ _ ⟨rfl,rfl⟩;dsimp only [zA,fA]) | (refine af F F F cx_nb2 F ?_;rintro _ _ ⟨rfl,rfl⟩;dsimp only [zA,fA]) | (refine af F F F cx_tkb F ?_;rintro _ _ ⟨rfl,rfl⟩;dsimp only [zA,fA]) | refine ab F F F cx_find F ?_) | refine ac F F ?_ | (refine ai (an (id:=8) _ (fun _ h=>h) ah ?_);refine jT 22 [0,1,2] (aa 25 7) ?_;(try (refine Nx.re (d:=45) (v':=Bo false) F (congrArg Value.bool F) ?_));refine jT 19 [3,4,5] (aa 25 63) ?_;(refine jG (aa 25 127) 6 F (aq F F F) ?_);(refine jG (aa 25 255) 7 F (aH F F F) ?_);refine jT 16 [8] (aa 25 511) ?_;(try (refine Nx.re (d:=51) (v':=Bo false) F (congrArg Value.bool F) ?_));refine jT 15 [9] (aa 25 1023) ?_;(refine jA 10 F ?_;(refine ab F F F cx_nok F ?_);refine jS (aa 25 2047) ?_);refine jT 13 [11] (aa 25 4095) ?_;(refine jG (aa 25 8191) 12 F (aH F F F) ?_);refine jT 11 [13] (aa 25 16383) ?_;(try (refine Nx.re (d:=56) (v':=Bo false) F (congrArg Value.bool F) ?_));refine jT 6 [14,16,18,19,20] (aa 25 1933311) ?_;(refine jG (aa 25 1966079) 15 F (aq F F F) ?_);(refine jG (aa 25 2097151) 17 F (aq F F F) ?_);(refine jG (aa 25 4194303) 21 F (aq F F F) ?_);(refine jA 22 F ?_;(refine ab F F F cx_bc1 F ?_);refine jS (aa 25 8388607) ?_);refine jT 1 [23] (aa 25 16777215) ?_;(refine jG (aa 25 33554431) 24 F (aH F F F) ?_);refine jQ ?_))
      all_goals refine jY (vs:=[_,_,_,_]) ?_
      all_goals rfl
     | some v =>
      rw [hc] at cx_bc1
      rw [kY hc] at cx_bg1
      unfold i5 at cx_bg1
      dsimp only [Option.map,Option.getD,Option.isSome,oD] at cx_bc1 cx_bg1 ⊢
      clear hco ho2 hf hc
      generalize v.out = vo at *
      refine jE [(0,_),(1,_)] Tryz.func14 Tryz.ntmps14 fun B hB=>?_
      repeat' (first | refine jR ?_ | (refine jo ?_;first | refine jO fun _=>?_ | refine aG F ?_ | refine av F ?_ | refine jV (ao F F) ?_ | refine ab F F F cx_jf F ?_ | refine ab F F F cx_so1 F ?_) | refine al F F F ?_ | refine ad F F ?_)
      rename_i xs y
      have cx_nb:=hnb y
      have cx_nb2:=hnb2 y
      have cx_tkb:=htk y
      repeat' (first | refine jR ?_ | (refine jo ?_;first | refine aG F ?_ | refine jL fun _=>?_ | refine jC F F F ?_ | (refine af F F F cx_nb F ?_;rintro _ _ ⟨rfl,rfl⟩;dsimp only [zA,fA]) | (refine af F F F cx_nb2 F ?_;rintro _ _ ⟨rfl,rfl⟩;dsimp only [zA,fA]) | (refine af F F F cx_tkb F ?_;rintro _ _ ⟨rfl,rfl⟩;dsimp only [zA,fA]) | refine ab F F F cx_find F ?_) | refine ad F F ?_ | (refine ai (an (id:=8) _ (fun _ h=>h) ah ?_);refine jT 22 [0,1,2] (aa 25 7) ?_;(try (refine Nx.re (d:=45) (v':=Bo false) F (congrArg Value.bool F) ?_));refine jT 19 [3,4,5] (aa 25 63) ?_;(refine jG (aa 25 127) 6 F (aq F F F) ?_);(refine jG (aa 25 255) 7 F (aH F F F) ?_);refine jT 16 [8] (aa 25 511) ?_;(try (refine Nx.re (d:=51) (v':=Bo false) F (congrArg Value.bool F) ?_));refine jT 15 [9] (aa 25 1023) ?_;(refine jA 10 F ?_;(refine ab F F F cx_nok F ?_);refine jS (aa 25 2047) ?_);refine jT 13 [11] (aa 25 4095) ?_;(refine jG (aa 25 8191) 12 F (aH F F F) ?_);refine jT 11 [13] (aa 25 16383) ?_;(try (refine Nx.re (d:=56) (v':=Bo false) F (congrArg Value.bool F) ?_));refine jT 6 [14,16,18,19,20] (aa 25 1933311) ?_;(refine jG (aa 25 1966079) 15 F (aq F F F) ?_);(refine jG (aa 25 2097151) 17 F (aq F F F) ?_);(refine jG (aa 25 4194303) 21 F (aq F F F) ?_);(refine jA 22 F ?_;(refine ab F F F cx_bc1 F ?_);refine jS (aa 25 8388607) ?_);refine jT 1 [23] (aa 25 16777215) ?_;(refine jG (aa 25 33554431) 24 F (aH F F F) ?_);refine jQ ?_) | (refine ai (an (id:=10) _ (fun _ h=>h) ah ?_);refine jT 9 [0,2,4,5,6] (aa 14 117) ?_;(refine jG (aa 14 119) 1 F (aq F F F) ?_);(refine jG (aa 14 127) 3 F (aq F F F) ?_);(refine jG (aa 14 255) 7 F (aq F F F) ?_);refine jA 8 F ?_;(refine ab F F F cx_bg1 F ?_);refine jS (aa 14 511) ?_;refine jT 0 [9,10,11,12,13] (aa 14 16383) ?_;refine jQ ?_))
      all_goals refine jY (vs:=[_,_,_,_]) ?_
      all_goals rfl
theorem tP (o : Option (Int × abL × V)) : ∃ n s1 s2 b,oD o = Tu [I n,S s1,S s2,Bo b]:=by
 cases o with
 | none=>exact ⟨_,_,_,_,F⟩
 | some z=>obtain ⟨n,nm,v⟩:=z;exact ⟨_,_,_,_,F⟩
theorem nE {s x : abL} {u : Value} {a : List Mt} (hu : bh G u 3 a.length (aA c9 a)) (h : s.length ≤ 9223372036854775807 ∧ a.length ≤ 9223372036854775807) (ha : ∀ x ∈ a,mY x) (hx : x.length ≤ 9223372036854775807) :
  am abK 5 [Ag [S s,u],S x] G (· = Bo true):=by
 have hsz:=gN (G:=G) (z:=1048576) ⟨⟨oM,oM⟩,h.1,h.2⟩ hu ha
 refine jB (Post:=fun v G' L'=>G' = G ∧ L' = [] ∧ _) [(0,_),(1,_)] Tryz.func5 Tryz.ntmps5 fun B hok hB hW=>?_
 repeat' (first | refine jR ?_ | (refine jo ?_;first | refine jO fun _=>?_ | refine aG F ?_ | (refine cn F F F (gN ?_ (by (repeat (assumption));done) (by (repeat (assumption));done)) rfl ?_;(focus omega);rintro _ (rfl | ⟨z,rfl,hz1,hz2⟩)) | (refine aJ F F F (eT (by (repeat (assumption));done) oM) rfl ?_;rintro _ G hle ⟨u,rfl,hsl⟩;(try obtain ⟨_,_,rfl⟩:=hsl.sl))) | refine ac F F ?_ | refine ad F (aC oM) ?_ | refine cT F (fun _=>?_) (fun _=>?_))
 ·refine Nx.base hok hB ?_
  refine jY (vs:=[_]) ?_
  rfl
 ·refine Nx.base hok hB ?_
  refine jY (vs:=[_]) ?_
  rfl
 have hall : s.length ≤ 1048576 ∧ a.length ≤ 1048576:=⟨oM,oM⟩
 obtain ⟨n1,r1,r2,b4,hcr⟩:=tP (gl s a x)
 have cg2 : ∀ G u,bh G u 3 a.length (aA c9 a) → am abK 12 [Ag [S s,u],S x] G (· = Tu [I n1,S r1,S r2,Bo b4]):=fun G u hsl=>by rw [← hcr];exact t4 ⟨hall.1,oM⟩ hsl hall.2 hz2
 have cg1 : ∀ G u,bh G u 3 a.length (aA c9 a) → am abK 14 [Ag [S s,u],S x] G (· = Tu [I n1,S r1,S r2,Bo b4]):=fun G u hsl=>by rw [← hcr];exact t5 ⟨hall.1,oM⟩ hsl hall.2 hz2
 refine jo ?_
 refine ab F F F (cg2 _ _ hsl) F ?_
 repeat' (first | refine jR ?_ | (refine jo ?_;first | refine aG F ?_ | refine jL fun _=>?_ | refine jC F F F ?_ | (refine aJ F F F (eT (by (repeat (first | assumption | refine bh.mono ?_ aS));done) oM) rfl ?_;rintro _ G hle ⟨u,rfl,hsl⟩;(try obtain ⟨_,_,rfl⟩:=hsl.sl))))
 refine jo ?_
 refine ab F F F (cg1 _ _ hsl) F ?_
 repeat' (first | refine jR ?_ | (refine jo ?_;refine av F ?_) | (refine al F F ?_ ?_;(focus ((first | (refine decide_eq_false ?_;(omega)) | (simp [*];done));done))) | (refine ad F ?_ ?_;(focus ((simp [*];done);done))) | (refine ai (an (id:=12) _ (fun _ h=>h) ah ?_);(refine jG (aa 5 1) 0 F (bq F F F F) ?_);(refine jG (aa 5 3) 1 F (bq F F F F) ?_);refine jA 2 F ?_;((refine aJ F F F (eT (by (repeat (first | assumption | refine bh.mono ?_ aS));done) oM) rfl ?_;rintro _ G hle ⟨u,rfl,hsl⟩;(try obtain ⟨_,_,rfl⟩:=hsl.sl)));refine jS (aa 5 7) ?_;refine jA 3 F ?_;((refine ab F F F (mV (by (repeat (first | assumption | refine bh.mono ?_ aS));done) (by (repeat (assumption));done) oM) rfl ?_));refine jS (aa 5 15) ?_;refine jT 0 [4] (aa 5 31) ?_;refine jQ ?_))
 all_goals refine Nx.base hok hB ?_
 all_goals refine jY (vs:=[_]) ?_
 all_goals rfl
open Go.ChangeShapes Go.WideShapes Go.ChangeAt Go.RowKit
theorem rQ {P : Program} {w : World} {base : Nat} {T t e : TypeId} {fs : Array Field} {cs : Array Value} {ts : List TypeId} {i : Nat} {v : Value} (hT : P.underlying T = some (.struct fs)) (hok : Value.okWide P w .any base T (.agg cs)) (hts : P.cellTypes P.depth T = some ts) (hn : cs.size = ts.length) (hi : cs[i]? = some v) (ht : ts[i]? = some t) (hs : P.underlying t = some (.slice e)) : Value.okWide P w .any base t v:=by
 simp only [Value.okWide,hT] at hok
 obtain ⟨cs',he,_,ts',h2,_,h3⟩:=hok
 have he2 : cs = cs':=by simpa using he
 subst he2
 have h4 : ts = ts':=Option.some.inj (hts.symm.trans h2)
 subst h4
 obtain ⟨u,hu,hc⟩:=h3 i v hi
 have hlt : i < ts.length:=by rw [← hn];exact (Array.getElem?_eq_some_iff.1 hi).1
 rw [Nat.mod_eq_of_lt hlt,ht] at hu
 obtain rfl:=Option.some.inj hu
 simp only [Value.okWide,hs]
 exact hc
theorem uU {P : Program} {H : Type} {enc : TypeId × Value → H} {w : World} {base : Nat} {spare : Nat → Bool} {held : Bool} {fs : Array Field} {T : TypeId} {cs : List Value} {n : Nat} {x : DataW H × List MemPlace} (hT : P.underlying T = some (.struct fs)) (h : DataW.trod enc P w base spare held n T cs = some x)
  (k ft e off : Nat) (hf : (fs[k]?).map (fun fd=>(fd.type,fd.offset)) = some (ft,off)) (hs : P.underlying ft = some (.slice e)) (hc : P.cellsOf ft = 1) (hl : off < cs.length) : ∃ v d ps,cs[off]? = some v ∧ DataW.Trod enc P w base spare held ft v d ps:=by
 obtain ⟨xs,m,_,_,_,hxs,hi⟩:=DataW.trod_struct hT h
 cases hfd : fs[k]? with
 | none=>simp [hfd] at hf
 | some fd =>
  simp only [hfd,Option.map_some,Option.some.injEq,Prod.mk.injEq] at hf
  obtain ⟨rfl,rfl⟩:=hf
  have h1:=hi k fd hfd
  have hk : k < xs.length:=by rw [hxs];exact (Array.getElem?_eq_some_iff.1 hfd).1
  rw [List.getElem?_eq_getElem hk,hc] at h1
  have h2 : (cs.drop fd.offset).take 1 = [cs[fd.offset]]:=by rw [List.drop_eq_getElem_cons hl];rfl
  rw [h2] at h1
  refine ⟨cs[fd.offset],xs[k].1,xs[k].2,List.getElem?_eq_getElem hl,m,?_⟩
  rcases DataW.trod_slice hs h1 with ⟨h3,_⟩ | ⟨a,l,c,_,_,_,_,h3,_⟩
  ·have h4 : cs[fd.offset] = .slice none 0 0:=by simpa using h3
   rw [h4] at h1 ⊢;simpa [Value.cells] using h1
  ·have h4 : cs[fd.offset] = .slice (some a) l c:=by simpa using h3
   rw [h4] at h1 ⊢;simpa [Value.cells] using h1
abbrev oX : TypeId:=25
abbrev oW : TypeId:=116
abbrev nJ : TypeId:=9
abbrev fJ : TypeId:=27
set_option maxRecDepth 100000 in
theorem vT {H : Type} {enc : TypeId × Value → H} {w : World} {base base' : Nat} {spare : Nat → Bool} {held : Bool} {v : Value} {d : DataW H} {ps : List MemPlace}
  (hd : DataW.Trod enc abK w base spare held oX v d ps) (hok : Value.okWide abK w .any base' oX v) :
  ∃ cl : List Mt,bh (GA w) v 3 cl.length (aA c9 cl) ∧ (∀ c ∈ cl,mY c) ∧ cl.length ≤ 9223372036854775807:=by
 refine uw c9 dC mY (T:=oX) (e:=oW) kR kR (fun n cs x hl h=>?_) hd hok
 obtain ⟨l0,h0,b0⟩:=mo (fs:=bH abK oW) kR h 0 nJ 0 kR kR kR oM
 obtain ⟨l1,h1,b1⟩:=mo (fs:=bH abK oW) kR h 1 nJ 1 kR kR kR oM
 obtain ⟨l2,h2,b2⟩:=mo (fs:=bH abK oW) kR h 2 nJ 2 kR kR kR oM
 refine ⟨(l0,l1,l2),?_,b0,b1,b2⟩
 match cs,hl with
 | [a,b,c],_=>simp at h0 h1 h2;simp [c9,h0,h1,h2]
set_option maxRecDepth 100000 in
theorem qC {H : Type} {enc : TypeId × Value → H} {w : World} {base base' : Nat} {spare : Nat → Bool} {held : Bool} {v : Value} {d : DataW H} {ps : List MemPlace}
  (hd : DataW.Trod enc abK w base spare held fJ v d ps) (hok : Value.okWide abK w .any base' fJ v) :
  ∃ (s : abL) (u : Value) (a : List Mt),v = Ag [S s,u] ∧ bh (GA w) u 3 a.length (aA c9 a) ∧ (s.length ≤ 9223372036854775807 ∧ a.length ≤ 9223372036854775807) ∧ ∀ x ∈ a,mY x:=by
 have hT : abK.underlying fJ = some (.struct (bH abK fJ)):=by kernel_rfl
 obtain ⟨cs,rfl,hsz⟩:=okWide_struct hT hok
 have h2 : abK.cellsOf fJ = 2:=by kernel_rfl
 rw [h2] at hsz
 obtain ⟨n,hf⟩:=hd
 have hf : DataW.trod enc abK w base spare held n fJ cs.toList = some (d,ps):=hf
 obtain ⟨s,e0,b0⟩:=mo hT hf 0 nJ 0 kR kR kR (by simp;omega)
 obtain ⟨u,d1,ps1,e1,h1⟩:=uU hT hf 1 oX oW 1 kR kR kR (by simp;omega)
 have ok1:=rQ (ts:=[nJ,oX]) (t:=oX) (e:=oW) (i:=1) hT hok kR hsz (by simpa using e1) rfl kR
 obtain ⟨a,ha,hm,hn⟩:=vT h1 ok1
 refine ⟨s,u,a,?_,ha,⟨b0,hn⟩,hm⟩
 obtain ⟨l⟩:=cs
 match l,hsz with
 | [x,y],_=>simp at e0 e1;rw [e0,e1]
theorem fH {s nm x : abL} {a : List Mt} (h : cI x = none ∨ du a nm = none ∨ di s a = false ∨ ∃ n r,cI x = some (n,r) ∧ bM r = none) : ma s a nm x = none:=by
 unfold ma
 cases ho : cI x with
 | none=>rfl
 | some z =>
  obtain ⟨n,r⟩:=z
  dsimp only
  cases hf : du a nm with
  | none=>rfl
  | some m =>
   dsimp only
   by_cases hs : di s a = true
   ·rw [if_pos hs]
    rcases h with h | h | h | ⟨n',r',h1,h2⟩
    ·rw [ho] at h;cases h
    ·rw [hf] at h;cases h
    ·rw [h] at hs;cases hs
    ·rw [ho] at h1;cases h1;rw [h2]
   ·rw [if_neg hs]
theorem s9 {s nm x r : abL} {a : List Mt} {n : Int} {m : Mt} (ho : cI x = some (n, r)) (hf : du a nm = some m) (hs : di s a = true) : ma s a nm x = match bM r with
      | some (true,q)=>if q = [] then some (n,none) else none
      | some (false,q)=>(cB s m.2.2 q).map fun v=>(n,some v)
      | none=>none:=by
  unfold ma
  rw [ho];dsimp only;rw [hf];dsimp only;rw [if_pos hs]
  all_goals (rcases bM r with _ | ⟨b,q⟩)
  all_goals (try cases b)
  all_goals rfl
theorem tX {s x : abL} {u : Value} {a : List Mt} (hu : bh G u 3 a.length (aA c9 a)) (hn : a.length ≤ 1048576) : am abK 39 [Ag [S s,u],S x] G (fun v=>∃ m1 m2 m3 b,v = Tu [Ag [S m1,S m2,S m3],Bo b]):=by
 have h2:=my (s:=s) (x:=x) hu hn
 cases hf : du a x with
 | none=>rw [hf] at h2;exact h2.mono fun v G' L' h=>⟨h.1,h.2.1,_,_,_,_,h.2.2⟩
 | some m=>rw [hf] at h2;exact h2.mono fun v G' L' h=>⟨h.1,h.2.1,_,_,_,_,h.2.2⟩
theorem rE {s nm x : abL} {u : Value} {a : List Mt} (h : s.length ≤ 1048576 ∧ x.length ≤ 1048576) (hu : bh G u 3 a.length (aA c9 a)) (hn : a.length ≤ 1048576) (ha : ∀ x ∈ a,mZ x) :
  am abK 16 [Ag [S s,u],S nm,S x] G (· = rI (ma s a nm x)):=by
 have hu1:=hu.one
 cases ho : cI x with
 | none =>
  have hop:=oN (G:=G) h.2 ho
  rw [fH (.inl ho)]
  clear ho
  refine jE [(0,_),(1,_),(2,_)] Tryz.func16 Tryz.ntmps16 fun B hB=>?_
  repeat' (first | refine jR ?_ | (refine jo ?_;refine jO fun _=>?_))
  refine jo ?_
  refine cn F F F hop F ?_
  rintro _ ⟨n1,r1,rfl,hr1⟩
  repeat' (first | refine jR ?_ | (refine jo ?_;refine aG F ?_))
  refine jo ?_
  refine cn F F F (tX hu hn) F ?_
  rintro _ ⟨m1,m2,m3,b2,rfl⟩
  repeat' (first | refine jR ?_ | (refine jo ?_;first | refine jL fun _=>?_ | refine jC F F F ?_ | refine aL F ?_) | refine aD F F F ?_ | refine ac F F ?_)
  all_goals refine jY (vs:=[_,_,_,_]) ?_
  all_goals rfl
 | some z =>
  obtain ⟨n,r⟩:=z
  obtain ⟨body,hj,hg,h0,h1,h2,h3⟩:=lH ho
  have cx_op:=oL (G:=G) ho
  have cx_f0:=my (s:=s) (x:=nm) hu hn
  clear hj hg
  cases hf : du a nm with
  | none =>
   rw [hf] at cx_f0
   have cx_find : am abK 39 [Ag [S s,u],S nm] G (· = Tu [Ag [S [],S [],S []],Bo false]):=cx_f0
   rw [fH (.inr (.inl hf))]
   clear cx_f0 ho hf
   refine jE [(0,_),(1,_),(2,_)] Tryz.func16 Tryz.ntmps16 fun B hB=>?_
   repeat' (first | refine jR ?_ | (refine jo ?_;first | refine jO fun _=>?_ | refine aG F ?_ | refine jL fun _=>?_ | refine jC F F F ?_ | refine aL F ?_ | refine av F ?_ | refine ab F F F cx_op F ?_ | refine ab F F F cx_find F ?_) | refine aD F F F ?_ | refine al F F F ?_ | refine ac F F ?_)
   all_goals refine jY (vs:=[_,_,_,_]) ?_
   all_goals rfl
  | some m =>
   rw [hf] at cx_f0
   have cx_find : am abK 39 [Ag [S s,u],S nm] G (· = Tu [Ag [S m.1,S m.2.1,S m.2.2],Bo true]):=cx_f0
   clear cx_f0
   have hxm:=ha _ (List.mem_of_find?_eq_some hf)
   have cx_so:=lZ h.1 hu hn ha
   cases e1 : di s a with
   | false =>
    have cx_so1 : am abK 40 [Ag [S s,u]] G (· = Bo false):=by rw [← e1];exact cx_so
    rw [fH (.inr (.inr (.inl e1)))]
    clear cx_so ho hf
    refine jE [(0,_),(1,_),(2,_)] Tryz.func16 Tryz.ntmps16 fun B hB=>?_
    repeat' (first | refine jR ?_ | (refine jo ?_;first | refine jO fun _=>?_ | refine aG F ?_ | refine jL fun _=>?_ | refine jC F F F ?_ | refine aL F ?_ | refine av F ?_ | refine ab F F F cx_op F ?_ | refine ab F F F cx_find F ?_ | refine ab F F F cx_so1 F ?_) | refine aD F F F ?_ | refine al F F F ?_ | refine ac F F ?_)
    all_goals refine jY (vs:=[_,_,_,_]) ?_
    all_goals rfl
   | true =>
    have cx_so1 : am abK 40 [Ag [S s,u]] G (· = Bo true):=by rw [← e1];exact cx_so
    rw [s9 ho hf e1]
    clear cx_so ho hf
    cases r with
    | nil =>
     refine jE [(0,_),(1,_),(2,_)] Tryz.func16 Tryz.ntmps16 fun B hB=>?_
     repeat' (first | refine jR ?_ | (refine jo ?_;first | refine jO fun _=>?_ | refine aG F ?_ | refine jL fun _=>?_ | refine jC F F F ?_ | refine aL F ?_ | refine av F ?_ | refine ab F F F cx_op F ?_ | refine ab F F F cx_find F ?_ | refine ab F F F cx_so1 F ?_) | refine aD F F F ?_ | refine al F F F ?_ | refine ac F F ?_)
     all_goals refine jY (vs:=[_,_,_,_]) ?_
     all_goals rfl
    | cons e q =>
     have hel : (e :: q).length = q.length + 1:=rfl
     have he0 : bt (e :: q) (Int.toNat 0) = e.toNat:=be e q
     by_cases e0 : e.toNat = 0
     ·obtain rfl : e = 0:=bo e0 dC
      rw [qx]
      dsimp only
      have he0 : bt (0 :: q) (Int.toNat 0) = 0:=he0
      have cx_lv:=oK (G:=G) (s:=s) (k:=m.2.2) (b:=q) hu1 ⟨h.1,oM,oM⟩
      unfold i5 at cx_lv
      cases hc : cB s m.2.2 q with
      | none =>
       rw [hc] at cx_lv
       dsimp only [Option.map,Option.getD,Option.isSome] at cx_lv ⊢
       clear hc
       refine jE [(0,_),(1,_),(2,_)] Tryz.func16 Tryz.ntmps16 fun B hB=>?_
       repeat' (first | refine jM ?_ | (refine jo ?_;first | refine jO fun _=>?_ | refine aG F ?_ | refine jL fun _=>?_ | refine jC F F F ?_ | refine av F ?_ | refine ab F F F cx_op F ?_ | refine ab F F F cx_find F ?_ | refine ab F F F cx_so1 F ?_) | refine al F F F ?_ | refine ac F F ?_ | refine ad F F ?_ | (refine ai (an (id:=9) _ (fun _ h=>h) ah ?_);refine jW 8 [1,3,4] (aa 11 26) ?_;(refine jG (aa 11 27) 0 F (bq F F F F) ?_);(refine jG (aa 11 31) 2 F (aq F F F) ?_);refine jA 5 F ?_;(refine ab F F F cx_lv F ?_);refine jS (aa 11 63) ?_;refine jT 0 [6,7,8,9,10] (aa 11 2047) ?_;refine jQ ?_))
       all_goals refine jY (vs:=[_,_,_,_]) ?_
       all_goals rfl
      | some v =>
       rw [hc] at cx_lv
       dsimp only [Option.map,Option.getD,Option.isSome,rI] at cx_lv ⊢
       clear hc
       generalize v.out = vo at *
       refine jE [(0,_),(1,_),(2,_)] Tryz.func16 Tryz.ntmps16 fun B hB=>?_
       repeat' (first | refine jM ?_ | (refine jo ?_;first | refine jO fun _=>?_ | refine aG F ?_ | refine jL fun _=>?_ | refine jC F F F ?_ | refine av F ?_ | refine ab F F F cx_op F ?_ | refine ab F F F cx_find F ?_ | refine ab F F F cx_so1 F ?_) | refine al F F F ?_ | refine ad F F ?_ | (refine ai (an (id:=9) _ (fun _ h=>h) ah ?_);refine jW 8 [1,3,4] (aa 11 26) ?_;(refine jG (aa 11 27) 0 F (bq F F F F) ?_);(refine jG (aa 11 31) 2 F (aq F F F) ?_);refine jA 5 F ?_;(refine ab F F F cx_lv F ?_);refine jS (aa 11 63) ?_;refine jT 0 [6,7,8,9,10] (aa 11 2047) ?_;refine jQ ?_))
       all_goals refine jY (vs:=[_,_,_,_]) ?_
       all_goals rfl
     by_cases e2 : e.toNat = 1
     ·obtain rfl : e = 1:=bo e2 dC
      rw [qv]
      dsimp only
      have he0 : bt (1 :: q) (Int.toNat 0) = 1:=he0
      by_cases hq : q = []
      ·subst hq
       rw [if_pos rfl]
       refine jE [(0,_),(1,_),(2,_)] Tryz.func16 Tryz.ntmps16 fun B hB=>?_
       repeat' (first | refine jM ?_ | (refine jo ?_;first | refine jO fun _=>?_ | refine aG F ?_ | refine jL fun _=>?_ | refine jC F F F ?_ | refine av F ?_ | refine ab F F F cx_op F ?_ | refine ab F F F cx_find F ?_ | refine ab F F F cx_so1 F ?_) | refine al F F F ?_ | refine ac F F ?_ | refine ad F F ?_)
       all_goals refine jY (vs:=[_,_,_,_]) ?_
       all_goals rfl
      ·rw [if_neg hq]
       have hql:=List.length_pos_iff.2 hq
       refine jE [(0,_),(1,_),(2,_)] Tryz.func16 Tryz.ntmps16 fun B hB=>?_
       repeat' (first | refine jM ?_ | (refine jo ?_;first | refine jO fun _=>?_ | refine aG F ?_ | refine jL fun _=>?_ | refine jC F F F ?_ | refine av F ?_ | refine ab F F F cx_op F ?_ | refine ab F F F cx_find F ?_ | refine ab F F F cx_so1 F ?_) | refine al F F F ?_ | (refine ac F (by first | rfl | (refine decide_eq_true ?_;(omega))) ?_) | refine ad F F ?_)
       all_goals refine jY (vs:=[_,_,_,_]) ?_
       all_goals rfl
     ·rw [lG e0 e2]
      refine jE [(0,_),(1,_),(2,_)] Tryz.func16 Tryz.ntmps16 fun B hB=>?_
      repeat' (first | refine jM ?_ | (refine jo ?_;first | refine jO fun _=>?_ | refine aG F ?_ | refine jL fun _=>?_ | refine jC F F F ?_ | refine av F ?_ | refine ab F F F cx_op F ?_ | refine ab F F F cx_find F ?_ | refine ab F F F cx_so1 F ?_) | refine al F F F ?_ | refine ac F (ay oM) ?_)
      all_goals refine jY (vs:=[_,_,_,_]) ?_
      all_goals rfl
theorem u9 {b : Bool} : am abK 50 [Bo b] G (· = I (if b = true then 1 else 0)):=by
 cases b
 all_goals
  refine jE [(0,_)] Tryz.func50 Tryz.ntmps50 fun B hB=>?_
  repeat' (first | refine jR ?_ | refine ac F F ?_ | refine ad F F ?_)
 all_goals refine jY (vs:=[_]) ?_
 all_goals rfl
theorem tS {s x : abL} {u : Value} {a : List Mt} (hu : bh G u 3 a.length (aA c9 a)) (hn : a.length ≤ 1048576) : am abK 46 [Ag [S s,u],S x] G (fun v=>∃ m1 m2 m3 b,v = Tu [Ag [S m1,S m2,S m3],Bo b]):=by
 have h2:=k7 (s:=s) (x:=x) hu hn
 cases hf : du a x with
 | none=>rw [hf] at h2;exact h2.mono fun v G' L' h=>⟨h.1,h.2.1,_,_,_,_,h.2.2⟩
 | some m=>rw [hf] at h2;exact h2.mono fun v G' L' h=>⟨h.1,h.2.1,_,_,_,_,h.2.2⟩
theorem rG {s nm x : abL} {u : Value} {a : List Mt} (h : s.length ≤ 1048576 ∧ x.length ≤ 1048576) (hu : bh G u 3 a.length (aA c9 a)) (hn : a.length ≤ 1048576) (ha : ∀ x ∈ a,mZ x) :
  am abK 17 [Ag [S s,u],S nm,S x] G (· = rI (ma s a nm x)):=by
 have hu1:=hu.one
 have cx_jf:=mU (G:=G) (s:=x) h.2
 unfold i5 at cx_jf
 have cx_so:=l3 h.1 hu hn ha
 cases hj : dX x with
 | none =>
  rw [hj] at cx_jf
  dsimp only [Option.getD,Option.isSome] at cx_jf
  rw [fH (.inl (by unfold cI;rw [hj]))]
  generalize di s a = sb at cx_so
  have cx_so1:=cx_so
  clear cx_so
  have hma:=tS (G:=G) (s:=s) (x:=nm) hu hn
  refine jE [(0,_),(1,_),(2,_)] Tryz.func17 Tryz.ntmps17 fun B hB=>?_
  repeat' (first | refine jR ?_ | (refine jo ?_;first | refine jO fun _=>?_ | refine aG F ?_ | refine ab F F F cx_jf F ?_))
  refine jo ?_
  refine cn F F F hma F ?_
  rintro _ ⟨m1,m2,m3,b2,rfl⟩
  repeat' (first | refine jR ?_ | (refine jo ?_;first | refine jL fun _=>?_ | refine jC F F F ?_ | refine aL F ?_) | refine aD F F F ?_ | refine ac F F ?_)
  all_goals refine jY (vs:=[_,_,_,_]) ?_
  all_goals rfl
 | some body =>
  have hbl:=kI hj
  rw [hj] at cx_jf
  dsimp only [Option.getD,Option.isSome] at cx_jf
  have cx_f0:=k7 (s:=s) (x:=nm) hu hn
  cases hf : du a nm with
  | none =>
   rw [hf] at cx_f0
   have cx_find : am abK 46 [Ag [S s,u],S nm] G (· = Tu [Ag [S [],S [],S []],Bo false]):=cx_f0
   rw [fH (.inr (.inl hf))]
   generalize di s a = sb at cx_so
   have cx_so1:=cx_so
   clear cx_f0 hf hj cx_so
   refine jE [(0,_),(1,_),(2,_)] Tryz.func17 Tryz.ntmps17 fun B hB=>?_
   repeat' (first | refine jR ?_ | (refine jo ?_;first | refine jO fun _=>?_ | refine aG F ?_ | refine jL fun _=>?_ | refine jC F F F ?_ | refine aL F ?_ | refine av F ?_ | refine ab F F F cx_jf F ?_ | refine ab F F F cx_find F ?_) | refine aD F F F ?_ | refine al F F F ?_ | refine ac F F ?_)
   all_goals refine jY (vs:=[_,_,_,_]) ?_
   all_goals rfl
  | some m =>
   rw [hf] at cx_f0
   have cx_find : am abK 46 [Ag [S s,u],S nm] G (· = Tu [Ag [S m.1,S m.2.1,S m.2.2],Bo true]):=cx_f0
   clear cx_f0
   have hxm:=ha _ (List.mem_of_find?_eq_some hf)
   cases e1 : di s a with
   | false =>
    have cx_so1 : am abK 43 [Ag [S s,u]] G (· = Bo false):=by rw [← e1];exact cx_so
    rw [fH (.inr (.inr (.inl e1)))]
    clear cx_so hj hf
    refine jE [(0,_),(1,_),(2,_)] Tryz.func17 Tryz.ntmps17 fun B hB=>?_
    repeat' (first | refine jR ?_ | (refine jo ?_;first | refine jO fun _=>?_ | refine aG F ?_ | refine jL fun _=>?_ | refine jC F F F ?_ | refine av F ?_ | refine ab F F F cx_jf F ?_ | refine ab F F F cx_find F ?_ | refine ab F F F cx_so1 F ?_) | refine al F F F ?_ | refine ac F F ?_)
    all_goals refine jY (vs:=[_,_,_,_]) ?_
    all_goals rfl
   | true =>
    have cx_so1 : am abK 43 [Ag [S s,u]] G (· = Bo true):=by rw [← e1];exact cx_so
    clear cx_so
    cases hg : bc body with
    | none =>
     rw [fH (.inl (by unfold cI;rw [hj];dsimp only;rw [hg]))]
     have hnb : ∀ y,bQ abK 44 [Pt y 0] G [cP y body false none 0 0 0] (fun v L'=>v = I 0 ∧ L' = [cP y [] true none 0 0 0]):=fun y=>mw hg oM
     have hfl:=fun y=>ro (G:=G) (r:=y) (n:=0) (c:=0) (s:=[]) (b:=true) (a:=none) (d:=0) (.inl rfl) (by simp)
     clear hj hf
     refine jE [(0,_),(1,_),(2,_)] Tryz.func17 Tryz.ntmps17 fun B hB=>?_
     repeat' (first | refine jR ?_ | (refine jo ?_;first | refine jO fun _=>?_ | refine aG F ?_ | refine jL fun _=>?_ | refine jC F F F ?_ | refine av F ?_ | refine jV (ao F F) ?_ | refine ab F F F cx_jf F ?_ | refine ab F F F cx_find F ?_ | refine ab F F F cx_so1 F ?_) | refine al F F F ?_ | refine ad F F ?_)
     rename_i xs xm y
     have cx_nb:=hnb y
     have cx_fl:=hfl y
     repeat' (first | refine jR ?_ | (refine jo ?_;first | refine aj F ?_ | refine aL F ?_ | (refine af F F F cx_nb F ?_;rintro _ _ ⟨rfl,rfl⟩;dsimp only [zA,fA]) | (refine af F F F cx_fl F ?_;rintro _ _ ⟨q1,⟨rfl,hql⟩,rfl⟩;dsimp only [zA,fA])) | refine aD F F F ?_ | refine ac F F ?_)
     all_goals refine jY (vs:=[_,_,_,_]) ?_
     all_goals rfl
    | some z =>
     obtain ⟨n,q⟩:=z
     obtain ⟨hm0,hm1,_⟩:=cm hg
     have hql:=bx hg
     have hnb : ∀ y,bQ abK 44 [Pt y 0] G [cP y body false none 0 0 0] (fun v L'=>v = I n ∧ L' = [cP y q false none 0 0 0]):=fun y=>ix hg oM
     cases hfb : bM q with
     | none =>
      have hres : ma s a nm x = none:=by
       by_cases hm9 : n ≤ 999
       ·exact fH (.inr (.inr (.inr ⟨n,q,by unfold cI;rw [hj];dsimp only;rw [hg];dsimp only;rw [if_pos hm9],hfb⟩)))
       ·exact fH (.inl (by unfold cI;rw [hj];dsimp only;rw [hg];dsimp only;rw [if_neg hm9]))
      rw [hres]
      have hfl:=fun y=>ro (G:=G) (r:=y) (n:=0) (c:=0) (s:=q) (b:=false) (a:=none) (d:=0) (.inr hfb) oM
      clear hj hf hres hg hfb
      refine jE [(0,_),(1,_),(2,_)] Tryz.func17 Tryz.ntmps17 fun B hB=>?_
      repeat' (first | refine jR ?_ | (refine jo ?_;first | refine jO fun _=>?_ | refine aG F ?_ | refine jL fun _=>?_ | refine jC F F F ?_ | refine av F ?_ | refine jV (ao F F) ?_ | refine ab F F F cx_jf F ?_ | refine ab F F F cx_find F ?_ | refine ab F F F cx_so1 F ?_) | refine al F F F ?_ | refine ad F F ?_)
      rename_i xs xm y
      have cx_nb:=hnb y
      have cx_fl:=hfl y
      repeat' (first | refine jR ?_ | (refine jo ?_;first | refine aj F ?_ | refine aL F ?_ | (refine af F F F cx_nb F ?_;rintro _ _ ⟨rfl,rfl⟩;dsimp only [zA,fA]) | (refine af F F F cx_fl F ?_;rintro _ _ ⟨q1,⟨rfl,hql⟩,rfl⟩;dsimp only [zA,fA])) | refine aD F F F ?_ | refine ac F F ?_)
      all_goals refine jY (vs:=[_,_,_,_]) ?_
      all_goals rfl
     | some w =>
      obtain ⟨fb,q2⟩:=w
      have hql2 : q.length = q2.length + 1:=by rw [dO hfb];rfl
      have hfl:=fun y=>wo (G:=G) (r:=y) (n:=0) (c:=0) (s:=q) (q:=q2) (x:=fb) (a:=none) (d:=0) hfb oM
      have cx_bc1:=lm (G:=G) (s:=s) (k:=m.2.2) (b:=q2) ⟨h.1,oM,oM⟩
      have cx_bg1:=j0 (G:=G) (s:=s) (k:=m.2.2) (b:=q2) ⟨h.1,oM,oM⟩
      by_cases hm9 : n ≤ 999
      case neg =>
       have cx_nok : am abK 47 [I n] G (· = Bo false):=by
        rw [← kE (n:=n) (b:=false) (decide_eq_false fun h=>hm9 h.2)];exact ij
       rw [fH (.inl (by unfold cI;rw [hj];dsimp only;rw [hg];dsimp only;rw [if_neg hm9]))]
       clear hj hf hg hfb
       refine jE [(0,_),(1,_),(2,_)] Tryz.func17 Tryz.ntmps17 fun B hB=>?_
       repeat' (first | refine jR ?_ | (refine jo ?_;first | refine jO fun _=>?_ | refine aG F ?_ | refine jL fun _=>?_ | refine jC F F F ?_ | refine av F ?_ | refine jV (ao F F) ?_ | refine ab F F F cx_jf F ?_ | refine ab F F F cx_find F ?_ | refine ab F F F cx_so1 F ?_) | refine al F F F ?_ | refine ad F F ?_)
       rename_i xs xm y
       have cx_nb:=hnb y
       have cx_fl:=hfl y
       repeat' (first | refine jR ?_ | (refine jo ?_;first | refine aj F ?_ | refine av F ?_ | (refine af F F F cx_nb F ?_;rintro _ _ ⟨rfl,rfl⟩;dsimp only [zA,fA]) | (refine af F F F cx_fl F ?_;rintro _ _ ⟨rfl,rfl⟩;dsimp only [zA,fA]) | refine ab F F F cx_nok F ?_) | refine al F F F ?_ | refine ac F F ?_)
       all_goals refine jY (vs:=[_,_,_,_]) ?_
       all_goals rfl
      have cx_nok : am abK 47 [I n] G (· = Bo true):=by
       rw [← kE (n:=n) (b:=true) (decide_eq_true ⟨hm0,hm9⟩)];exact ij
      have ho : cI x = some (n,q):=by unfold cI;rw [hj];dsimp only;rw [hg];dsimp only;rw [if_pos hm9]
      rw [s9 ho hf e1,hfb]
      clear hj hf hg ho hfb
      cases fb with
      | true =>
       dsimp only
       by_cases hq : q2 = []
       ·subst hq
        rw [if_pos rfl]
        have cx_sz : am abK 50 [Bo (decide (([] : abL) = []))] G (· = I 1):=u9 (b:=true)
        clear cx_bc1 cx_bg1
        refine jE [(0,_),(1,_),(2,_)] Tryz.func17 Tryz.ntmps17 fun B hB=>?_
        repeat' (first | refine jR ?_ | (refine jo ?_;first | refine jO fun _=>?_ | refine aG F ?_ | refine jL fun _=>?_ | refine jC F F F ?_ | refine av F ?_ | refine jV (ao F F) ?_ | refine ab F F F cx_jf F ?_ | refine ab F F F cx_find F ?_ | refine ab F F F cx_so1 F ?_) | refine al F F F ?_ | refine ad F F ?_)
        rename_i xs xm y
        have cx_nb:=hnb y
        have cx_fl:=hfl y
        repeat' (first | refine jR ?_ | (refine jo ?_;first | refine aj F ?_ | refine av F ?_ | (refine af F F F cx_nb F ?_;rintro _ _ ⟨rfl,rfl⟩;dsimp only [zA,fA]) | (refine af F F F cx_fl F ?_;rintro _ _ ⟨rfl,rfl⟩;dsimp only [zA,fA]) | refine ab F F F cx_nok F ?_) | refine al F F F ?_ | refine ac F F ?_ | refine ad F F ?_ | (refine ai (an (id:=11) _ (fun _ h=>h) ah ?_);refine jT 10 [0,1,2,3,8,9,10] (aa 17 1807) ?_;(refine jG (aa 17 1823) 4 F (aq F F F) ?_);refine jT 8 [5] (aa 17 1855) ?_;(refine jG (aa 17 3903) 11 F (aq F F F) ?_);refine jT 6 [12] (aa 17 7999) ?_;refine jA 6 F ?_;(refine ab F F F cx_sz F ?_);refine jS (aa 17 8063) ?_;refine jW 0 [7,13,14,15,16] (aa 17 131071) ?_;refine jQ ?_))
        all_goals refine jY (vs:=[_,_,_,_]) ?_
        all_goals exact (show Tu [I (n * 1),S [],Bo false,Bo true] = Tu [I n,S [],Bo false,Bo true] by rw [Int.mul_one])
       ·rw [if_neg hq]
        have cx_sz : am abK 50 [Bo (decide (q2 = []))] G (· = I 0):=by rw [decide_eq_false hq];exact u9 (b:=false)
        clear cx_bc1 cx_bg1
        refine jE [(0,_),(1,_),(2,_)] Tryz.func17 Tryz.ntmps17 fun B hB=>?_
        repeat' (first | refine jR ?_ | (refine jo ?_;first | refine jO fun _=>?_ | refine aG F ?_ | refine jL fun _=>?_ | refine jC F F F ?_ | refine av F ?_ | refine jV (ao F F) ?_ | refine ab F F F cx_jf F ?_ | refine ab F F F cx_find F ?_ | refine ab F F F cx_so1 F ?_) | refine al F F F ?_ | refine ad F F ?_)
        rename_i xs xm y
        have cx_nb:=hnb y
        have cx_fl:=hfl y
        repeat' (first | refine jR ?_ | (refine jo ?_;first | refine aj F ?_ | refine av F ?_ | (refine af F F F cx_nb F ?_;rintro _ _ ⟨rfl,rfl⟩;dsimp only [zA,fA]) | (refine af F F F cx_fl F ?_;rintro _ _ ⟨rfl,rfl⟩;dsimp only [zA,fA]) | refine ab F F F cx_nok F ?_) | refine al F F F ?_ | refine ac F F ?_ | refine ad F F ?_ | (refine ai (an (id:=11) _ (fun _ h=>h) ah ?_);refine jT 10 [0,1,2,3,8,9,10] (aa 17 1807) ?_;(refine jG (aa 17 1823) 4 F (aq F F F) ?_);refine jT 8 [5] (aa 17 1855) ?_;(refine jG (aa 17 3903) 11 F (aq F F F) ?_);refine jT 6 [12] (aa 17 7999) ?_;refine jA 6 F ?_;(refine ab F F F cx_sz F ?_);refine jS (aa 17 8063) ?_;refine jW 0 [7,13,14,15,16] (aa 17 131071) ?_;refine jQ ?_))
        all_goals refine jY (vs:=[_,_,_,_]) ?_
        all_goals exact (show Tu [I (n * 0),S [],Bo false,Bo (decide (q2 = []))] = Tu [I 0,S [],Bo false,Bo false] by rw [Int.mul_zero,decide_eq_false hq])
      | false =>
       dsimp only
       cases hc : cB s m.2.2 q2 with
       | none =>
        rw [hc] at cx_bc1
        dsimp only [Option.isSome] at cx_bc1
        clear hc cx_bg1
        refine jE [(0,_),(1,_),(2,_)] Tryz.func17 Tryz.ntmps17 fun B hB=>?_
        repeat' (first | refine jR ?_ | (refine jo ?_;first | refine jO fun _=>?_ | refine aG F ?_ | refine jL fun _=>?_ | refine jC F F F ?_ | refine av F ?_ | refine jV (ao F F) ?_ | refine ab F F F cx_jf F ?_ | refine ab F F F cx_find F ?_ | refine ab F F F cx_so1 F ?_) | refine al F F F ?_ | refine ad F F ?_)
        rename_i xs xm y
        have cx_nb:=hnb y
        have cx_fl:=hfl y
        repeat' (first | refine jR ?_ | (refine jo ?_;first | refine aj F ?_ | refine av F ?_ | (refine af F F F cx_nb F ?_;rintro _ _ ⟨rfl,rfl⟩;dsimp only [zA,fA]) | (refine af F F F cx_fl F ?_;rintro _ _ ⟨rfl,rfl⟩;dsimp only [zA,fA]) | refine ab F F F cx_nok F ?_) | refine al F F F ?_ | refine ac F F ?_ | refine ad F F ?_ | (refine ai (an (id:=12) _ (fun _ h=>h) ah ?_);refine jT 6 [0,2,4,5,6] (aa 11 117) ?_;(refine jG (aa 11 119) 1 F (aq F F F) ?_);(refine jG (aa 11 127) 3 F (aq F F F) ?_);(refine jG (aa 11 255) 7 F (aq F F F) ?_);refine jA 8 F ?_;(refine ab F F F cx_bc1 F ?_);refine jS (aa 11 511) ?_;refine jT 0 [9,10] (aa 11 2047) ?_;refine jQ ?_))
        all_goals refine jY (vs:=[_,_,_,_]) ?_
        all_goals rfl
       | some v =>
        rw [hc] at cx_bc1
        rw [kY hc] at cx_bg1
        unfold i5 at cx_bg1
        dsimp only [Option.map,Option.getD,Option.isSome,rI] at cx_bc1 cx_bg1 ⊢
        clear hc
        generalize v.out = vo at *
        refine jE [(0,_),(1,_),(2,_)] Tryz.func17 Tryz.ntmps17 fun B hB=>?_
        repeat' (first | refine jR ?_ | (refine jo ?_;first | refine jO fun _=>?_ | refine aG F ?_ | refine jL fun _=>?_ | refine jC F F F ?_ | refine av F ?_ | refine jV (ao F F) ?_ | refine ab F F F cx_jf F ?_ | refine ab F F F cx_find F ?_ | refine ab F F F cx_so1 F ?_) | refine al F F F ?_ | refine ad F F ?_)
        rename_i xs xm y
        have cx_nb:=hnb y
        have cx_fl:=hfl y
        repeat' (first | refine jR ?_ | (refine jo ?_;first | refine aj F ?_ | refine av F ?_ | (refine af F F F cx_nb F ?_;rintro _ _ ⟨rfl,rfl⟩;dsimp only [zA,fA]) | (refine af F F F cx_fl F ?_;rintro _ _ ⟨rfl,rfl⟩;dsimp only [zA,fA]) | refine ab F F F cx_nok F ?_) | refine al F F F ?_ | refine ad F F ?_ | (refine ai (an (id:=12) _ (fun _ h=>h) ah ?_);refine jT 6 [0,2,4,5,6] (aa 11 117) ?_;(refine jG (aa 11 119) 1 F (aq F F F) ?_);(refine jG (aa 11 127) 3 F (aq F F F) ?_);(refine jG (aa 11 255) 7 F (aq F F F) ?_);refine jA 8 F ?_;(refine ab F F F cx_bc1 F ?_);refine jS (aa 11 511) ?_;refine jT 0 [9,10] (aa 11 2047) ?_;refine jQ ?_) | (refine ai (an (id:=14) _ (fun _ h=>h) ah ?_);refine jT 9 [0,2,4,5,6] (aa 14 117) ?_;(refine jG (aa 14 119) 1 F (aq F F F) ?_);(refine jG (aa 14 127) 3 F (aq F F F) ?_);(refine jG (aa 14 255) 7 F (aq F F F) ?_);refine jA 8 F ?_;(refine ab F F F cx_bg1 F ?_);refine jS (aa 14 511) ?_;refine jT 0 [9,10,11,12,13] (aa 14 16383) ?_;refine jQ ?_))
        all_goals refine jY (vs:=[_,_,_,_]) ?_
        all_goals rfl
theorem vB (o : Option (Int × Option V)) : ∃ n s1 b1 b2,rI o = Tu [I n,S s1,Bo b1,Bo b2]:=by
 cases o with
 | none=>exact ⟨_,_,_,_,F⟩
 | some z =>
  obtain ⟨n,v⟩:=z
  cases v with
  | none=>exact ⟨_,_,_,_,F⟩
  | some v=>exact ⟨_,_,_,_,F⟩
theorem l6 {s nm x : abL} {u : Value} {a : List Mt} (hu : bh G u 3 a.length (aA c9 a)) (h : s.length ≤ 9223372036854775807 ∧ a.length ≤ 9223372036854775807) (ha : ∀ x ∈ a,mY x) (hx : nm.length ≤ 9223372036854775807 ∧ x.length ≤ 9223372036854775807) :
  am abK 6 [Ag [S s,u],S nm,S x] G (· = Bo true):=by
 have hsz:=gN (G:=G) (z:=1048576) ⟨⟨oM,oM⟩,h.1,h.2⟩ hu ha
 refine jB (Post:=fun v G' L'=>G' = G ∧ L' = [] ∧ _) [(0,_),(1,_),(2,_)] Tryz.func6 Tryz.ntmps6 fun B hok hB hW=>?_
 repeat' (first | refine jR ?_ | (refine jo ?_;first | refine jO fun _=>?_ | refine aG F ?_ | (refine cn F F F (gN ?_ (by (repeat (assumption));done) (by (repeat (assumption));done)) rfl ?_;(focus omega);rintro _ (rfl | ⟨z,rfl,hz1,hz2⟩)) | (refine aJ F F F (eT (by (repeat (assumption));done) oM) rfl ?_;rintro _ G hle ⟨u,rfl,hsl⟩;(try obtain ⟨_,_,rfl⟩:=hsl.sl))) | refine ac F F ?_ | refine ad F (aC oM) ?_ | refine cT F (fun _=>?_) (fun _=>?_))
 ·refine Nx.base hok hB ?_
  refine jY (vs:=[_]) ?_
  rfl
 ·refine Nx.base hok hB ?_
  refine jY (vs:=[_]) ?_
  rfl
 ·refine Nx.base hok hB ?_
  refine jY (vs:=[_]) ?_
  rfl
 have hall : s.length ≤ 1048576 ∧ a.length ≤ 1048576:=⟨oM,oM⟩
 obtain ⟨n1,r1,b3,b4,hcr⟩:=vB (ma s a nm x)
 have cg2 : ∀ G u,bh G u 3 a.length (aA c9 a) → am abK 16 [Ag [S s,u],S nm,S x] G (· = Tu [I n1,S r1,Bo b3,Bo b4]):=fun G u hsl=>by rw [← hcr];exact rE ⟨hall.1,oM⟩ hsl hall.2 hz2
 have cg1 : ∀ G u,bh G u 3 a.length (aA c9 a) → am abK 17 [Ag [S s,u],S nm,S x] G (· = Tu [I n1,S r1,Bo b3,Bo b4]):=fun G u hsl=>by rw [← hcr];exact rG ⟨hall.1,oM⟩ hsl hall.2 hz2
 refine jo ?_
 refine ab F F F (cg2 _ _ hsl) F ?_
 repeat' (first | refine jR ?_ | (refine jo ?_;first | refine aG F ?_ | refine jL fun _=>?_ | refine jC F F F ?_ | (refine aJ F F F (eT (by (repeat (first | assumption | refine bh.mono ?_ aS));done) oM) rfl ?_;rintro _ G hle ⟨u,rfl,hsl⟩;(try obtain ⟨_,_,rfl⟩:=hsl.sl))))
 refine jo ?_
 refine ab F F F (cg1 _ _ hsl) F ?_
 repeat' (first | refine jR ?_ | (refine jo ?_;refine av F ?_) | (refine al F F ?_ ?_;(focus ((first | (refine decide_eq_false ?_;(omega)) | (simp [*];done));done))) | (refine ad F ?_ ?_;(focus ((simp [*];done);done))) | (refine ai (an (id:=14) _ (fun _ h=>h) ah ?_);(refine jG (aa 5 1) 0 F (bq F F F F) ?_);(refine jG (aa 5 3) 1 F (bq F F F F) ?_);refine jA 2 F ?_;((refine aJ F F F (eT (by (repeat (first | assumption | refine bh.mono ?_ aS));done) oM) rfl ?_;rintro _ G hle ⟨u,rfl,hsl⟩;(try obtain ⟨_,_,rfl⟩:=hsl.sl)));refine jS (aa 5 7) ?_;refine jA 3 F ?_;((refine ab F F F (mV (by (repeat (first | assumption | refine bh.mono ?_ aS));done) (by (repeat (assumption));done) oM) rfl ?_));refine jS (aa 5 15) ?_;refine jT 0 [4] (aa 5 31) ?_;refine jQ ?_))
 all_goals refine Nx.base hok hB ?_
 all_goals refine jY (vs:=[_]) ?_
 all_goals rfl
end Go.E
