/- Contracts and plain laws that the statement rests on, part 3. Conditions: as each says. -/
import Derived.Test.YtglhncibfmhblaaGreatDoorQ2
set_option linter.unusedVariables false
set_option linter.unusedSimpArgs false
namespace Go.E
set_option maxRecDepth 20000
set_option maxHeartbeats 2000000
open Go.Proofs
variable {G : Gh}
def qf (s : adB) (k : Nat) (v : Value) (_ : Gh) : Prop:=∃ f ok,v = Tu [Ag (gx f),Bo ok] ∧ cB s k = if ok = true then some f else none
theorem mh {s : adB} {xs : List adB} {k : Nat} {c : UInt8} (n : Nat) (h : s.length ≤ 100000000) (hc : c.toNat = k) (e : a9 k s = xs) (hn : xs.length = n) (h0 : 0 < n) :
  bG adA 118 [S s,S [c]] G (fun v G'=>∃ b o cap,v = .slice (some ⟨b,o,none⟩) n cap ∧ bT G' b o (ah c9 xs)):=by
 subst hn;subst e;subst hc
 refine (vg (G:=G) (s:=s) (c:=c) h).mono ?_
 rintro v G' L' ⟨h1,h2,h3⟩
 obtain ⟨b,o,cap,rfl,hs⟩:=h3.expl h0
 exact ⟨h1,h2,b,o,cap,F,hs⟩
theorem u9 {s : adB} (h : s.length ≤ 2000000) (e : bZ s = true) : aZ adA 88 [S s] G (· = Tu [Ag (cR s),Bo true]):=by
 refine (mj (G:=G) h).mono ?_
 rintro v G' L' ⟨h1,h2,a,b,c,rfl,h3⟩
 obtain ⟨rfl,rfl,rfl⟩:=h3 e
 exact ⟨h1,h2,by rw [e];rfl⟩
theorem u5 {s : adB} {top m : Int} (h : s.length ≤ 100000000) (e : aN s top = some m) : aZ adA 119 [S s,I top] G (· = Tu [I m,Bo true]):=by
 refine (eL (G:=G) (top:=top) h).mono ?_
 rintro v G' L' ⟨h1,h2,n,rfl,h3⟩
 exact ⟨h1,h2,by rw [e,h3 m e];rfl⟩
theorem u6 {s : adB} {top : Int} (h : s.length ≤ 100000000) (e : aN s top = none) : aZ adA 119 [S s,I top] G (fun v=>∃ n,v = Tu [I n,Bo false]):=by
 refine (eL (G:=G) (top:=top) h).mono ?_
 rintro v G' L' ⟨h1,h2,n,rfl,h3⟩
 exact ⟨h1,h2,n,by rw [e];rfl⟩
theorem np {s : adB} {k : Nat} (h : s.length ≤ 1000) (e : (a9 58 (aH 61 s).1).length ≠ if k = 69 then 2 else 3) : bG adA 167 [S s,U8 k] G (qf s k):=by
 have hcl:=kx (k:=61) (s:=s)
 have cx_cut : aZ adA 130 [S s,S [61]] G (· = Tu [S (aH 61 s).1,S (aH 61 s).2.1,Bo (aH 61 s).2.2]):=qc (c:=61) oM
 have cx_split:=mh (G:=G) (c:=58) (k:=58) _ (s:=(aH 61 s).1) oM rfl rfl rfl eB
 have hno : cB s k = none:=by
  rw [← qC]
  unfold m9
  split
  ·rename_i e2
   rw [e2] at e
   split
   ·rename_i hk;simp [hk.1] at e
   ·rfl
  ·rename_i e2
   rw [e2] at e
   split
   ·rfl
   ·rename_i hk;simp [hk] at e
  ·rfl
 have hpos:=eB (k:=58) (s:=(aH 61 s).1)
 generalize hn : (a9 58 (aH 61 s).1).length = n at *
 by_cases hk : k = 69
 ·rw [if_pos hk] at e
  refine jB [(0,_),(1,_)] Tryz.func167 Tryz.ntmps167 fun B hok hB hW=>?_
  repeat' (first | refine jR ?_ | (refine jo ?_;first | refine jL fun _=>?_ | refine jV (af F) ?_ | refine jV (ay F F) ?_ | refine jC F F F ?_ | refine ae F F F cx_cut F ?_ | (refine ar F F F cx_split F ?_;rintro _ G hle ⟨b1,o1,cap1,rfl,hseg⟩;skip)) | refine ac F (ax oM) ?_)
  all_goals refine jZ (vs:=[_,_]) F ⟨aJ F F F F,F,trivial⟩ F ⟨hle,F,?_⟩
  all_goals exact ⟨default,false,F,by rw [hno];rfl⟩
 ·rw [if_neg hk] at e
  refine jB [(0,_),(1,_)] Tryz.func167 Tryz.ntmps167 fun B hok hB hW=>?_
  repeat' (first | refine jR ?_ | (refine jo ?_;first | refine jL fun _=>?_ | refine jV (af F) ?_ | refine jV (ay F F) ?_ | refine jC F F F ?_ | refine ae F F F cx_cut F ?_ | (refine ar F F F cx_split F ?_;rintro _ G hle ⟨b1,o1,cap1,rfl,hseg⟩;skip)) | refine ac F (ax oM) ?_ | refine ad F (aF oM) ?_)
  all_goals refine jZ (vs:=[_,_]) F ⟨aJ F F F F,F,trivial⟩ F ⟨hle,F,?_⟩
  all_goals exact ⟨default,false,F,by rw [hno];rfl⟩
theorem tK {s a b : adB} (h : s.length ≤ 1000) (e : a9 58 (aH 61 s).1 = [a,b]) : bG adA 167 [S s,U8 (69 : Nat)] G (qf s 69):=by
  have hcl:=kx (k:=61) (s:=s)
  have cx_cut : aZ adA 130 [S s,S [61]] G (· = Tu [S (aH 61 s).1,S (aH 61 s).2.1,Bo (aH 61 s).2.2]):=qc (c:=61) oM
  have cx_split:=mh (G:=G) (c:=58) (k:=58) 2 (s:=(aH 61 s).1) oM rfl e rfl oM
  have ha : a.length ≤ 1000:=by have:=dz (k:=58) (s:=(aH 61 s).1) (x:=a) (by rw [e];simp);omega
  have hb : b.length ≤ 1000:=by have:=dz (k:=58) (s:=(aH 61 s).1) (x:=b) (by rw [e];simp);omega
  have hall : cB s 69 = if (aH 61 s).2.2 = false then match aN a 200 with
      | some n=>if 1 ≤ n ∧ cT b = true then some ⟨n,b,[],[]⟩ else none
      | none=>none else none:=by
    rw [← qC];unfold m9;rw [e];simp <;> rfl
  generalize hto : (aH 61 s).2.2 = told at *
  generalize hva : (aH 61 s).2.1 = val at *
  rcases hm : aN a 200 with _ | m
  · have hno : cB s 69 = none:=by rw [hall,hm];simp
    have cx_pn : ∀ G,aZ adA 119 [S a,I 200] G (fun v=>∃ n,v = Tu [I n,Bo false]):=fun G=>u6 oM hm
    refine jB [(0,_),(1,_)] Tryz.func167 Tryz.ntmps167 fun B hok hB hW=>?_
    repeat' (first | refine jR ?_ | (refine jo ?_;first | refine jL fun _=>?_ | refine jV (af F) ?_ | refine jV (ay F F) ?_ | refine jC F F F ?_ | refine jV (aQ F F oM) ?_ | refine jV (aj F F aS F F) ?_ | refine aP F ?_ | refine ae F F F cx_cut F ?_ | (refine ar F F F cx_split F ?_;rintro _ G hle ⟨b1,o1,cap1,rfl,hseg⟩;skip) | (refine ep F F F (cx_pn _) F ?_;rintro _ ⟨n,rfl⟩)) | refine aG F F F ?_ | refine ac F F ?_ | refine ad F F ?_)
    all_goals refine jZ (vs:=[_,_]) F ⟨aJ F F F F,F,trivial⟩ F ⟨hle,F,?_⟩
    all_goals exact ⟨default,false,F,by rw [hno];rfl⟩
  have cx_pq : ∀ G,aZ adA 119 [S a,I 200] G (· = Tu [I m,Bo true]):=fun G=>u5 oM hm
  rw [hm] at hall
  dsimp only at hall
  by_cases hg : 1 ≤ m ∧ cT b = true
  · rw [if_pos hg] at hall
    have hg1:=hg.1
    have hg2 : (!cT b) = false:=by rw [hg.2];rfl
    cases told with
    | true =>
      refine jB [(0,_),(1,_)] Tryz.func167 Tryz.ntmps167 fun B hok hB hW=>?_
      repeat' (first | refine jR ?_ | (refine jo ?_;first | refine jL fun _=>?_ | refine jV (af F) ?_ | refine jV (ay F F) ?_ | refine jC F F F ?_ | refine jV (aQ F F oM) ?_ | refine aB F ?_ | refine jV (aj F F aS F F) ?_ | refine aP F ?_ | refine aE F ?_ | refine ae F F F cx_cut F ?_ | (refine ar F F F cx_split F ?_;rintro _ G hle ⟨b1,o1,cap1,rfl,hseg⟩;skip) | refine ae F F F (cx_pq _) F ?_ | refine ae F F F (dT oM) F ?_) | refine aG F F F ?_ | (refine aw F F (by first | rfl | (refine decide_eq_false ?_;(omega))) ?_) | refine ac F F ?_ | (refine ad F (by first | rfl | assumption) ?_))
      all_goals refine jZ (vs:=[_,_]) F ⟨aJ F F F F,F,trivial⟩ F ⟨hle,F,?_⟩
      all_goals exact ⟨default,false,F,by rw [hall];rfl⟩
    | false =>
      have hv : val = []:=by have:=fS hto;rw [this] at hva;exact hva.symm
      refine jB [(0,_),(1,_)] Tryz.func167 Tryz.ntmps167 fun B hok hB hW=>?_
      repeat' (first | refine jR ?_ | (refine jo ?_;first | refine jL fun _=>?_ | refine jV (af F) ?_ | refine jV (ay F F) ?_ | refine jC F F F ?_ | refine jV (aQ F F oM) ?_ | refine aB F ?_ | refine bM F ?_ | refine jV (aj F F aS F F) ?_ | refine aE F ?_ | refine ae F F F cx_cut F ?_ | (refine ar F F F cx_split F ?_;rintro _ G hle ⟨b1,o1,cap1,rfl,hseg⟩;skip) | refine ae F F F (cx_pq _) F ?_ | refine ae F F F (dT oM) F ?_) | (refine aw F F (by first | rfl | (refine decide_eq_false ?_;(omega))) ?_) | refine ac F F ?_ | (refine ad F (by first | rfl | assumption) ?_))
      all_goals refine jZ (vs:=[_,_]) F ⟨aJ F F F F,F,trivial⟩ F ⟨hle,F,?_⟩
      all_goals exact ⟨⟨m,b,[],[]⟩,true,by rw [hv];rfl,by rw [hall];rfl⟩
  · rw [if_neg hg] at hall
    have hno : cB s 69 = none:=by rw [hall];simp
    by_cases h1 : m < 1
    case' neg => have hg2 : (!cT b) = true := by
                  cases hb2 : cT b with
                  | false=>rfl
                  | true=>exact absurd ⟨oM,hb2⟩ hg
    all_goals refine jB [(0,_),(1,_)] Tryz.func167 Tryz.ntmps167 fun B hok hB hW=>?_
    all_goals repeat' (first | refine jR ?_ | (refine jo ?_;first | refine jL fun _=>?_ | refine jV (af F) ?_ | refine jV (ay F F) ?_ | refine jC F F F ?_ | refine jV (aQ F F oM) ?_ | refine aB F ?_ | refine jV (aj F F aS F F) ?_ | refine aP F ?_ | refine aE F ?_ | refine ae F F F cx_cut F ?_ | (refine ar F F F cx_split F ?_;rintro _ G hle ⟨b1,o1,cap1,rfl,hseg⟩;skip) | refine ae F F F (cx_pq _) F ?_ | refine ae F F F (dT oM) F ?_) | refine aG F F (ax ‹_›) ?_ | (refine aw F F (by first | rfl | (refine decide_eq_false ?_;(assumption))) ?_) | (refine ac F (by first | rfl | assumption) ?_) | refine ad F F ?_)
    all_goals refine jZ (vs:=[_,_]) F ⟨aJ F F F F,F,trivial⟩ F ⟨hle,F,?_⟩
    all_goals exact ⟨default,false,F,by rw [hno];rfl⟩
theorem tJ {s a b c : adB} {k : Nat} (h : s.length ≤ 1000) (hk : ¬ k = 69) (e : a9 58 (aH 61 s).1 = [a,b,c]) : bG adA 167 [S s,U8 k] G (qf s k):=by
  have hcl:=kx (k:=61) (s:=s)
  have cx_cut : aZ adA 130 [S s,S [61]] G (· = Tu [S (aH 61 s).1,S (aH 61 s).2.1,Bo (aH 61 s).2.2]):=qc (c:=61) oM
  have cx_split:=mh (G:=G) (c:=58) (k:=58) 3 (s:=(aH 61 s).1) oM rfl e rfl oM
  have ha : a.length ≤ 1000:=by have:=dz (k:=58) (s:=(aH 61 s).1) (x:=a) (by rw [e];simp);omega
  have hb : b.length ≤ 1000:=by have:=dz (k:=58) (s:=(aH 61 s).1) (x:=b) (by rw [e];simp);omega
  have hc : c.length ≤ 1000:=by have:=dz (k:=58) (s:=(aH 61 s).1) (x:=c) (by rw [e];simp);omega
  have hall : cB s k = match aN a 200 with
      | some n=>if (1 ≤ n ∧ cT b = true) ∧ bZ c = true ∧ ((aH 61 s).2.2 = true → k = 82 ∧ b9 c (aH 61 s).2.1 = true) then some ⟨n,b,c,(aH 61 s).2.1⟩ else none
      | none=>none:=by
    rw [← qC];unfold m9;rw [e];simp [hk] <;> rfl
  generalize hto : (aH 61 s).2.2 = told at *
  generalize hva : (aH 61 s).2.1 = val at *
  rcases hm : aN a 200 with _ | m
  · have hno : cB s k = none:=by rw [hall,hm]
    have cx_pn : ∀ G,aZ adA 119 [S a,I 200] G (fun v=>∃ n,v = Tu [I n,Bo false]):=fun G=>u6 oM hm
    refine jB [(0,_),(1,_)] Tryz.func167 Tryz.ntmps167 fun B hok hB hW=>?_
    repeat' (first | refine jR ?_ | (refine jo ?_;first | refine jL fun _=>?_ | refine jV (af F) ?_ | refine jV (ay F F) ?_ | refine jC F F F ?_ | refine jV (aQ F F oM) ?_ | refine jV (aj F F aS F F) ?_ | refine aP F ?_ | refine ae F F F cx_cut F ?_ | (refine ar F F F cx_split F ?_;rintro _ G hle ⟨b1,o1,cap1,rfl,hseg⟩;skip) | (refine ep F F F (cx_pn _) F ?_;rintro _ ⟨n,rfl⟩)) | refine aG F F F ?_ | refine ac F F ?_ | (refine ad F (by first | rfl | (refine decide_eq_false ?_;(omega))) ?_))
    all_goals refine jZ (vs:=[_,_]) F ⟨aJ F F F F,F,trivial⟩ F ⟨hle,F,?_⟩
    all_goals exact ⟨default,false,F,by rw [hno];rfl⟩
  have cx_pq : ∀ G,aZ adA 119 [S a,I 200] G (· = Tu [I m,Bo true]):=fun G=>u5 oM hm
  rw [hm] at hall
  dsimp only at hall
  by_cases hg : 1 ≤ m ∧ cT b = true
  case neg =>
    have hno : cB s k = none:=by rw [hall,if_neg fun h=>hg h.1]
    by_cases h1 : m < 1
    case' neg => have hg2 : (!cT b) = true := by
                  cases hb2 : cT b with
                  | false=>rfl
                  | true=>exact absurd ⟨oM,hb2⟩ hg
    all_goals refine jB [(0,_),(1,_)] Tryz.func167 Tryz.ntmps167 fun B hok hB hW=>?_
    all_goals repeat' (first | refine jR ?_ | (refine jo ?_;first | refine jL fun _=>?_ | refine jV (af F) ?_ | refine jV (ay F F) ?_ | refine jC F F F ?_ | refine jV (aQ F F oM) ?_ | refine aB F ?_ | refine jV (aj F F aS F F) ?_ | refine aP F ?_ | refine aE F ?_ | refine ae F F F cx_cut F ?_ | (refine ar F F F cx_split F ?_;rintro _ G hle ⟨b1,o1,cap1,rfl,hseg⟩;skip) | refine ae F F F (cx_pq _) F ?_ | refine ae F F F (dT oM) F ?_) | refine aG F F (ax ‹_›) ?_ | (refine aw F F (by first | rfl | (refine decide_eq_false ?_;(assumption))) ?_) | (refine ac F (by first | rfl | assumption) ?_) | (refine ad F (by first | rfl | (refine decide_eq_false ?_;(omega))) ?_))
    all_goals refine jZ (vs:=[_,_]) F ⟨aJ F F F F,F,trivial⟩ F ⟨hle,F,?_⟩
    all_goals exact ⟨default,false,F,by rw [hno];rfl⟩
  have hg1:=hg.1
  have hg2 : (!cT b) = false:=by rw [hg.2];rfl
  by_cases hkc : bZ c = true
  case neg =>
    have hkc2 : bZ c = false:=by simpa using hkc
    have hno : cB s k = none:=by rw [hall,if_neg fun h=>hkc h.2.1]
    have cx_kn : ∀ G,aZ adA 88 [S c] G (fun v=>∃ x y z,v = Tu [Ag [S x,S y,S z],Bo false]):=fun G=>by
      refine (mj (G:=G) (s:=c) oM).mono ?_
      rintro v G' L' ⟨h1,h2,x,y,z,rfl,_⟩
      exact ⟨h1,h2,x,y,z,by rw [hkc2]⟩
    refine jB [(0,_),(1,_)] Tryz.func167 Tryz.ntmps167 fun B hok hB hW=>?_
    repeat' (first | refine jR ?_ | (refine jo ?_;first | refine jL fun _=>?_ | refine jV (af F) ?_ | refine jV (ay F F) ?_ | refine jC F F F ?_ | refine jV (aQ F F oM) ?_ | refine aB F ?_ | refine jV (aj F F aS F F) ?_ | refine aE F ?_ | refine ae F F F cx_cut F ?_ | (refine ar F F F cx_split F ?_;rintro _ G hle ⟨b1,o1,cap1,rfl,hseg⟩;skip) | refine ae F F F (cx_pq _) F ?_ | refine ae F F F (dT oM) F ?_ | (refine ep F F F (cx_kn _) F ?_;rintro _ ⟨x,y,z,rfl⟩)) | (refine aw F F (by first | rfl | (refine decide_eq_false ?_;(omega))) ?_) | (refine ac F (by first | rfl | (refine decide_eq_true ?_;(omega))) ?_) | (refine ad F (by first | rfl | assumption | (refine decide_eq_false ?_;(omega))) ?_))
    all_goals refine jZ (vs:=[_,_]) F ⟨aJ F F F F,F,trivial⟩ F ⟨hle,F,?_⟩
    all_goals exact ⟨default,false,F,by rw [hno];rfl⟩
  have cx_kq : ∀ G,aZ adA 88 [S c] G (· = Tu [Ag [S (sg c),S (bs c),S (nm c)],Bo true]):=fun G=>u9 oM hkc
  cases told with
  | false =>
    have hv : val = []:=by have:=fS hto;rw [this] at hva;exact hva.symm
    have hyes : cB s k = some ⟨m,b,c,val⟩:=by rw [hall,if_pos ⟨hg,hkc,fun h=>by cases h⟩]
    refine jB [(0,_),(1,_)] Tryz.func167 Tryz.ntmps167 fun B hok hB hW=>?_
    repeat' (first | refine jR ?_ | (refine jo ?_;first | refine jL fun _=>?_ | refine jV (af F) ?_ | refine jV (ay F F) ?_ | refine jC F F F ?_ | refine jV (aQ F F oM) ?_ | refine aB F ?_ | refine bM F ?_ | refine jV (aj F F aS F F) ?_ | refine aE F ?_ | refine ae F F F cx_cut F ?_ | (refine ar F F F cx_split F ?_;rintro _ G hle ⟨b1,o1,cap1,rfl,hseg⟩;skip) | refine ae F F F (cx_pq _) F ?_ | refine ae F F F (dT oM) F ?_ | refine ae F F F (cx_kq _) F ?_) | (refine aw F F (by first | rfl | (refine decide_eq_false ?_;(omega))) ?_) | refine ac F (ax oM) ?_ | (refine ad F (by first | rfl | assumption | (refine decide_eq_false ?_;(omega))) ?_))
    all_goals refine jZ (vs:=[_,_]) F ⟨aJ F F F F,F,trivial⟩ F ⟨hle,F,?_⟩
    all_goals exact ⟨⟨m,b,c,val⟩,true,F,by rw [hyes];rfl⟩
  | true =>
    have hst:=xv (v:=val) hkc
    by_cases h82 : k = 82
    case neg =>
      have hno : cB s k = none:=by rw [hall,if_neg fun h=>h82 (h.2.2 rfl).1]
      have h83 : ¬ (k : Int) = 82:=oM
      refine jB [(0,_),(1,_)] Tryz.func167 Tryz.ntmps167 fun B hok hB hW=>?_
      repeat' (first | refine jR ?_ | (refine jo ?_;first | refine jL fun _=>?_ | refine jV (af F) ?_ | refine jV (ay F F) ?_ | refine jC F F F ?_ | refine jV (aQ F F oM) ?_ | refine aB F ?_ | refine jV (aj F F aS F F) ?_ | refine aP F ?_ | refine aE F ?_ | refine ae F F F cx_cut F ?_ | (refine ar F F F cx_split F ?_;rintro _ G hle ⟨b1,o1,cap1,rfl,hseg⟩;skip) | refine ae F F F (cx_pq _) F ?_ | refine ae F F F (dT oM) F ?_ | refine ae F F F (cx_kq _) F ?_) | (refine aG F F (by first | rfl | (refine decide_eq_true ?_;(assumption))) ?_) | (refine aw F F (by first | rfl | (refine decide_eq_false ?_;(omega))) ?_) | (refine ac F (by first | rfl | (refine decide_eq_true ?_;(omega))) ?_) | (refine ad F (by first | rfl | assumption | (refine decide_eq_false ?_;(omega))) ?_))
      all_goals refine jZ (vs:=[_,_]) F ⟨aJ F F F F,F,trivial⟩ F ⟨hle,F,?_⟩
      all_goals exact ⟨default,false,F,by rw [hno];rfl⟩
    subst h82
    by_cases hsg : sg c = []
    · rw [decide_eq_true hsg,Bool.true_and] at hst
      by_cases hso : b9 c val = true
      · have hyes : cB s 82 = some ⟨m,b,c,val⟩:=by rw [hall,if_pos ⟨hg,hkc,fun _=>⟨rfl,hso⟩⟩]
        have hso2 : (!b9 (bs c) val) = false:=by rw [hst,hso];rfl
        refine jB [(0,_),(1,_)] Tryz.func167 Tryz.ntmps167 fun B hok hB hW=>?_
        repeat' (first | refine jR ?_ | (refine jo ?_;first | refine jL fun _=>?_ | refine jV (af F) ?_ | refine jV (ay F F) ?_ | refine jC F F F ?_ | refine jV (aQ F F oM) ?_ | refine aB F ?_ | refine bM F ?_ | refine jV (aj F F aS F F) ?_ | refine aP F ?_ | refine aE F ?_ | refine ae F F F cx_cut F ?_ | (refine ar F F F cx_split F ?_;rintro _ G hle ⟨b1,o1,cap1,rfl,hseg⟩;skip) | refine ae F F F (cx_pq _) F ?_ | refine ae F F F (dT oM) F ?_ | refine ae F F F (cx_kq _) F ?_ | refine ae F F F (pW oM) F ?_) | refine aG F F F ?_ | (refine aw F F ?_ ?_;(focus ((first | rfl | (refine decide_eq_false ?_;(omega)) | (simp [*];done));done))) | refine ac F F ?_ | (refine ad F (by first | rfl | assumption) ?_))
        all_goals refine jZ (vs:=[_,_]) F ⟨aJ F F F F,F,trivial⟩ F ⟨hle,F,?_⟩
        all_goals exact ⟨⟨m,b,c,val⟩,true,F,by rw [hyes];rfl⟩
      · have hno : cB s 82 = none:=by rw [hall,if_neg fun h=>hso (h.2.2 rfl).2]
        have hso2 : (!b9 (bs c) val) = true:=by rw [hst];simpa using hso
        refine jB [(0,_),(1,_)] Tryz.func167 Tryz.ntmps167 fun B hok hB hW=>?_
        repeat' (first | refine jR ?_ | (refine jo ?_;first | refine jL fun _=>?_ | refine jV (af F) ?_ | refine jV (ay F F) ?_ | refine jC F F F ?_ | refine jV (aQ F F oM) ?_ | refine aB F ?_ | refine jV (aj F F aS F F) ?_ | refine aP F ?_ | refine aE F ?_ | refine ae F F F cx_cut F ?_ | (refine ar F F F cx_split F ?_;rintro _ G hle ⟨b1,o1,cap1,rfl,hseg⟩;skip) | refine ae F F F (cx_pq _) F ?_ | refine ae F F F (dT oM) F ?_ | refine ae F F F (cx_kq _) F ?_ | refine ae F F F (pW oM) F ?_) | refine aG F F F ?_ | (refine aw F F ?_ ?_;(focus ((first | rfl | (refine decide_eq_false ?_;(omega)) | (simp [*];done));done))) | (refine ac F (by first | rfl | assumption) ?_) | (refine ad F (by first | rfl | assumption) ?_))
        all_goals refine jZ (vs:=[_,_]) F ⟨aJ F F F F,F,trivial⟩ F ⟨hle,F,?_⟩
        all_goals exact ⟨default,false,F,by rw [hno];rfl⟩
    · rw [decide_eq_false hsg,Bool.false_and] at hst
      have hno : cB s 82 = none:=by rw [hall,if_neg fun h=>by rw [(h.2.2 rfl).2] at hst;cases hst]
      refine jB [(0,_),(1,_)] Tryz.func167 Tryz.ntmps167 fun B hok hB hW=>?_
      repeat' (first | refine jR ?_ | (refine jo ?_;first | refine jL fun _=>?_ | refine jV (af F) ?_ | refine jV (ay F F) ?_ | refine jC F F F ?_ | refine jV (aQ F F oM) ?_ | refine aB F ?_ | refine jV (aj F F aS F F) ?_ | refine aP F ?_ | refine aE F ?_ | refine ae F F F cx_cut F ?_ | (refine ar F F F cx_split F ?_;rintro _ G hle ⟨b1,o1,cap1,rfl,hseg⟩;skip) | refine ae F F F (cx_pq _) F ?_ | refine ae F F F (dT oM) F ?_ | refine ae F F F (cx_kq _) F ?_) | (refine aG F F (by first | rfl | (refine decide_eq_true ?_;(assumption))) ?_) | (refine aw F F (by first | rfl | (refine decide_eq_false ?_;(omega))) ?_) | refine ac F F ?_ | (refine ad F (by first | rfl | assumption) ?_))
      all_goals refine jZ (vs:=[_,_]) F ⟨aJ F F F F,F,trivial⟩ F ⟨hle,F,?_⟩
      all_goals exact ⟨default,false,F,by rw [hno];rfl⟩
theorem uj {s : adB} {k : Nat} (h : s.length ≤ 1000) : bG adA 167 [S s,U8 k] G (qf s k):=by
 by_cases hk : k = 69
 ·subst hk
  by_cases h2 : (a9 58 (aH 61 s).1).length = 2
  ·match e : a9 58 (aH 61 s).1,h2 with
   | [a,b],_=>exact tK h e
  ·exact np h (by simpa using h2)
 ·by_cases h3 : (a9 58 (aH 61 s).1).length = 3
  ·match e : a9 58 (aH 61 s).1,h3 with
   | [a,b,c],_=>exact tJ h hk e
  ·exact np h (by simpa [hk] using h3)
theorem kC {s : adB} {xs : List adB} {k : Nat} (n : Nat) (h : s.length ≤ 100000000) (e : a9 k s = xs) (hn : xs.length = n) (h0 : 0 < n) :
  dO adA 56 [S s,U8 k] G [] (fun v L'=>∃ b cap,v = .slice (some ⟨b,0,none⟩) n cap ∧ L' = [.acc (.slice (some ⟨b,0,none⟩) n cap) vp 1 n (qp xs)]):=by
 subst hn;subst e
 refine (u7 (G:=G) (k:=k) h).mono ?_
 rintro v G' L' ⟨h1,h2,h3⟩
 obtain ⟨b,cap,rfl⟩:=h3.pos oM
 exact ⟨h1,b,cap,F,h2⟩
theorem tL {s : adB} {top m : Int} (h : s.length ≤ 100000000) (e : aN s top = some m) : aZ adA 57 [S s,I top] G (· = Tu [I m,Bo true]):=by
 refine (ik (G:=G) (top:=top) h).mono ?_
 rintro v G' L' ⟨h1,h2,n,rfl,h3⟩
 exact ⟨h1,h2,by rw [e,h3 m e];rfl⟩
abbrev lz (s : adB) (k : Nat) (v : Value) : Prop:=∃ f ok,v = Tu [Ag (hO f),Bo ok] ∧ cB s k = if ok then some f else none
theorem xY {s : adB} {k : Nat} (h : (a9 58 s).length ≠ 2) (h' : (a9 58 s).length ≠ 3) : cB s k = none:=by
 unfold cB
 split
 ·rename_i e;rw [e] at h;simp at h
 ·rename_i e;rw [e] at h';simp at h'
 ·rfl
theorem qP {s : adB} {k : Nat} (h : s.length ≤ 1000) (e : (a9 58 s).length ≠ 2) (e' : (a9 58 s).length ≠ 3) : aZ adA 154 [S s,U8 k] G (lz s k):=by
 have e0 : 0 < (a9 58 s).length:=eB
 generalize hn : (a9 58 s).length = n at *
 have cx_cut1:=kC (G:=G) (k:=58) n oM rfl hn e0
 have hno : cB s k = none:=xY oM oM
 refine jE [(0,_),(1,_)] Tryz.func154 Tryz.ntmps154 fun B hB=>?_
 repeat' (first | refine jR ?_ | (refine jo ?_;first | refine jL fun _=>?_ | refine jV (af F) ?_ | refine aP F ?_ | refine aE F ?_ | refine jV (ay F F) ?_ | refine jC F F F ?_ | (refine fL F F F cx_cut1 F ?_;rintro _ _ ⟨b1,cap1,rfl,rfl⟩;dsimp only [zA,fA])) | refine aG F F (ax oM) ?_ | refine fu F F (fun _=>?_) (fun _=>?_) | (refine ac F (by first | rfl | (refine decide_eq_true ?_;(omega))) ?_))
 all_goals refine jZ (vs:=[_,_]) F ⟨aJ F F F F,F,trivial⟩ F ⟨F,F,?_⟩
 all_goals exact ⟨default,false,F,by rw [hno];rfl⟩
theorem qO {s a b : adB} {k : Nat} (h : s.length ≤ 1000) (e : a9 58 s = [a,b]) : aZ adA 154 [S s,U8 k] G (lz s k):=by
 have ha : a.length ≤ 1000:=Nat.le_trans (dz (k:=58) (s:=s) (by rw [e];simp)) h
 have hb : b.length ≤ 1000:=Nat.le_trans (dz (k:=58) (s:=s) (by rw [e];simp)) h
 have cx_cut1:=kC (G:=G) (k:=58) 2 oM e rfl oM
 by_cases hk : k = 69
 case neg =>
  have hno : cB s k = none:=by unfold cB;rw [e];simp [hk]
  refine jE [(0,_),(1,_)] Tryz.func154 Tryz.ntmps154 fun B hB=>?_
  repeat' (first | refine jR ?_ | (refine jo ?_;first | refine jL fun _=>?_ | refine jV (af F) ?_ | refine aP F ?_ | refine jV (ay F F) ?_ | refine jC F F F ?_ | (refine fL F F F cx_cut1 F ?_;rintro _ _ ⟨b1,cap1,rfl,rfl⟩;dsimp only [zA,fA])) | (refine aG F F (by first | rfl | (refine decide_eq_true ?_;(omega))) ?_) | refine ac F F ?_)
  all_goals refine jZ (vs:=[_,_]) F ⟨aJ F F F F,F,trivial⟩ F ⟨F,F,?_⟩
  all_goals exact ⟨default,false,F,by rw [hno];rfl⟩
 subst hk
 rcases hm : aN a 200 with _ | m
 ·have hno : cB s 69 = none:=by unfold cB;rw [e];simp [hm]
  refine jE [(0,_),(1,_)] Tryz.func154 Tryz.ntmps154 fun B hB=>?_
  repeat' (first | refine jR ?_ | (refine jo ?_;first | refine jL fun _=>?_ | refine jV (af F) ?_ | refine aP F ?_ | refine aE F ?_ | refine jV (ay F F) ?_ | refine jC F F F ?_ | refine jV (aQ F F oM) ?_ | refine jV (kO F F F) ?_ | refine bM F ?_ | (refine fL F F F cx_cut1 F ?_;rintro _ _ ⟨b1,cap1,rfl,rfl⟩;dsimp only [zA,fA]) | (refine ep F F F (ik oM) F ?_;rintro _ ⟨n,rfl,hnum⟩)) | (refine aG F F ?_ ?_;(focus ((first | rfl | (simp [*];done));done))) | refine aw F F F ?_ | refine ac F F ?_ | refine ad F F ?_)
  all_goals refine jZ (vs:=[_,_]) F ⟨aJ F F F F,F,trivial⟩ F ⟨F,F,?_⟩
  all_goals exact ⟨⟨_,_,_,_⟩,false,F,by rw [hno];rfl⟩
 have cx_num:=tL (G:=G) oM hm
 have hyes : cB s 69 = if 1 ≤ m ∧ cT b = true then some ⟨m,b,[],[]⟩ else none:=by unfold cB;rw [e];simp [hm]
 refine jE [(0,_),(1,_)] Tryz.func154 Tryz.ntmps154 fun B hB=>?_
 repeat' (first | refine jR ?_ | (refine jo ?_;first | refine jL fun _=>?_ | refine jV (af F) ?_ | refine aP F ?_ | refine aE F ?_ | refine jV (ay F F) ?_ | refine jC F F F ?_ | refine jV (aQ F F oM) ?_ | refine aB F ?_ | refine jV (kO F F F) ?_ | refine bM F ?_ | (refine fL F F F cx_cut1 F ?_;rintro _ _ ⟨b1,cap1,rfl,rfl⟩;dsimp only [zA,fA]) | refine ae F F F cx_num F ?_ | refine ae F F F (gD oM) F ?_) | refine aG F F F ?_ | refine aw F F F ?_ | refine fu F F (fun _=>?_) (fun _=>?_) | refine ac F F ?_ | refine ad F F ?_ | refine oJ F (fun _=>?_) (fun _=>?_))
 all_goals refine jZ (vs:=[_,_]) F ⟨aJ F F F F,F,trivial⟩ F ⟨F,F,?_⟩
 all_goals first | exact ⟨⟨m,b,[],[]⟩,true,F,by rw [hyes];simp_all;try omega⟩ | exact ⟨⟨m,b,[],[]⟩,false,F,by rw [hyes];simp_all;try omega⟩
theorem p5 {s a b c d f : adB} {k : Nat} {m : Int} (h : s.length ≤ 1000) (e : a9 58 s = [a,b,c]) (hk : ¬ k = 69) (hm : aN a 200 = some m) (hg1 : 1 ≤ m) (hg2 : cT b = true) (e2 : a9 61 c = [d,f]) : aZ adA 154 [S s,U8 k] G (lz s k):=by
 have ha : a.length ≤ 1000:=Nat.le_trans (dz (k:=58) (s:=s) (by rw [e];simp)) h
 have hb : b.length ≤ 1000:=Nat.le_trans (dz (k:=58) (s:=s) (by rw [e];simp)) h
 have hc : c.length ≤ 1000:=Nat.le_trans (dz (k:=58) (s:=s) (by rw [e];simp)) h
 have cx_cut1:=kC (G:=G) (k:=58) 3 oM e rfl oM
 have cx_num:=tL (G:=G) oM hm
 have hyes : cB s k = if k = 82 ∧ b9 d f = true then some ⟨m,b,d,f⟩ else none:=by
  unfold cB;rw [e];simp [hm,hg1,hg2,hk,e2]
 have hd : d.length ≤ 1000:=Nat.le_trans (dz (k:=61) (s:=c) (by rw [e2];simp)) hc
 have hf : f.length ≤ 1000:=Nat.le_trans (dz (k:=61) (s:=c) (by rw [e2];simp)) hc
 have cx_cut2:=kC (G:=G) (k:=61) 2 oM e2 rfl oM
 by_cases h82 : k = 82
 ·have h83 : (k : Int) = 82:=oM
  refine jE [(0,_),(1,_)] Tryz.func154 Tryz.ntmps154 fun B hB=>?_
  repeat' (first | refine jR ?_ | (refine jo ?_;first | refine jL fun _=>?_ | refine jV (af F) ?_ | refine aP F ?_ | refine aE F ?_ | refine jV (ay F F) ?_ | refine jD F F F ?_ | refine jC F F F ?_ | refine jV (aQ F F oM) ?_ | refine aB F ?_ | refine jV (kO F F F) ?_ | (refine fL F F F cx_cut1 F ?_;rintro _ _ ⟨b1,cap1,rfl,rfl⟩;dsimp only [zA,fA]) | (refine fL F F F cx_cut2 F ?_;rintro _ _ ⟨b2,cap2,rfl,rfl⟩;dsimp only [zA,fA]) | refine ae F F F cx_num F ?_ | refine ae F F F (gD oM) F ?_) | refine aG F F F ?_ | (refine aw F F (by first | rfl | (refine decide_eq_false ?_;(omega))) ?_) | refine ac F F ?_ | (refine ad F ?_ ?_;(focus ((first | (refine decide_eq_false ?_;(omega)) | (simp [*];done));done))) | (refine an (ec (id:=14) (tt:=4) F am ?_);refine jW 9 [1,2,3] (aa 12 14) ?_;(try (refine Nx.re (d:=76) (v':=Bo true) F (congrArg Value.bool (ax ‹_›)) ?_));refine jW 7 [4,6] (aa 12 94) ?_;(refine jG (aa 12 95) 0 F (bP F F F F) ?_);(refine jG (aa 12 127) 5 F (aX F F F) ?_);(refine jG (aa 12 255) 7 F (aX F F F) ?_);((refine jA 8 F ?_;(refine ae F F F (w8 oM) F ?_);refine jK (aa 12 511) ?_));((refine jG (aa 12 1023) 9 F (bO F F ?_) ?_;(focus ((rfl);done))));refine jA 10 F ?_;(refine jC F F F ?_);refine jK (aa 12 2047) ?_;refine jW 0 [11] (aa 12 4095) ?_;refine jQ ?_))
  all_goals refine jZ (vs:=[_,_]) F ⟨aJ F F F F,F,trivial⟩ F ⟨F,F,?_⟩
  all_goals exact ⟨⟨m,b,d,f⟩,b9 d f,F,by rw [hyes];simp [h82]⟩
 ·have h83 : ¬ (k : Int) = 82:=oM
  refine jE [(0,_),(1,_)] Tryz.func154 Tryz.ntmps154 fun B hB=>?_
  repeat' (first | refine jR ?_ | (refine jo ?_;first | refine jL fun _=>?_ | refine jV (af F) ?_ | refine aP F ?_ | refine aE F ?_ | refine jV (ay F F) ?_ | refine jD F F F ?_ | refine jC F F F ?_ | refine jV (aQ F F oM) ?_ | refine aB F ?_ | refine jV (kO F F F) ?_ | (refine fL F F F cx_cut1 F ?_;rintro _ _ ⟨b1,cap1,rfl,rfl⟩;dsimp only [zA,fA]) | (refine fL F F F cx_cut2 F ?_;rintro _ _ ⟨b2,cap2,rfl,rfl⟩;dsimp only [zA,fA]) | refine ae F F F cx_num F ?_ | refine ae F F F (gD oM) F ?_) | refine aG F F F ?_ | (refine aw F F (by first | rfl | (refine decide_eq_false ?_;(omega))) ?_) | refine ac F F ?_ | (refine ad F ?_ ?_;(focus ((first | (refine decide_eq_false ?_;(omega)) | (simp [*];done));done))) | (refine an (ec (id:=14) (tt:=4) F am ?_);refine jW 9 [1,2,3] (aa 12 14) ?_;(try (refine Nx.re (d:=76) (v':=Bo false) F (congrArg Value.bool (aF ‹_›)) ?_));refine jW 7 [4,6] (aa 12 94) ?_;(refine jG (aa 12 95) 0 F (bP F F F F) ?_);(refine jN (aa 12 127) 5 F ?_);(refine jN (aa 12 255) 7 F ?_);(refine jN (aa 12 511) 8 F ?_);((refine jG (aa 12 1023) 9 F (bn F F ?_) ?_;(focus ((rfl);done))));refine jA 10 F ?_;(refine jC F F F ?_);refine jK (aa 12 2047) ?_;refine jW 0 [11] (aa 12 4095) ?_;refine jQ ?_))
  all_goals refine jZ (vs:=[_,_]) F ⟨aJ F F F F,F,trivial⟩ F ⟨F,F,?_⟩
  all_goals exact ⟨⟨m,b,d,f⟩,false,F,by rw [hyes];simp [h82]⟩
theorem qN {s a b c : adB} {k : Nat} (h : s.length ≤ 1000) (e : a9 58 s = [a,b,c]) : aZ adA 154 [S s,U8 k] G (lz s k):=by
 have ha : a.length ≤ 1000:=Nat.le_trans (dz (k:=58) (s:=s) (by rw [e];simp)) h
 have hb : b.length ≤ 1000:=Nat.le_trans (dz (k:=58) (s:=s) (by rw [e];simp)) h
 have hc : c.length ≤ 1000:=Nat.le_trans (dz (k:=58) (s:=s) (by rw [e];simp)) h
 have cx_cut1:=kC (G:=G) (k:=58) 3 oM e rfl oM
 by_cases hk : k = 69
 case pos =>
  subst hk
  have hno : cB s 69 = none:=by unfold cB;rw [e];simp
  refine jE [(0,_),(1,_)] Tryz.func154 Tryz.ntmps154 fun B hB=>?_
  repeat' (first | refine jR ?_ | (refine jo ?_;first | refine jL fun _=>?_ | refine jV (af F) ?_ | refine aP F ?_ | refine aE F ?_ | refine jV (ay F F) ?_ | refine jC F F F ?_ | (refine fL F F F cx_cut1 F ?_;rintro _ _ ⟨b1,cap1,rfl,rfl⟩;dsimp only [zA,fA])) | refine aG F F F ?_ | refine aw F F F ?_ | refine ac F F ?_)
  all_goals refine jZ (vs:=[_,_]) F ⟨aJ F F F F,F,trivial⟩ F ⟨F,F,?_⟩
  all_goals exact ⟨default,false,F,by rw [hno];rfl⟩
 rcases hm : aN a 200 with _ | m
 ·have hno : cB s k = none:=by unfold cB;rw [e];simp [hm]
  refine jE [(0,_),(1,_)] Tryz.func154 Tryz.ntmps154 fun B hB=>?_
  repeat' (first | refine jR ?_ | (refine jo ?_;first | refine jL fun _=>?_ | refine jV (af F) ?_ | refine aP F ?_ | refine aE F ?_ | refine jV (ay F F) ?_ | refine jC F F F ?_ | refine jV (aQ F F oM) ?_ | refine jV (kO F F F) ?_ | refine bM F ?_ | (refine fL F F F cx_cut1 F ?_;rintro _ _ ⟨b1,cap1,rfl,rfl⟩;dsimp only [zA,fA]) | (refine ep F F F (ik oM) F ?_;rintro _ ⟨n,rfl,hnum⟩)) | (refine aG F F ?_ ?_;(focus ((first | rfl | (simp [*];done));done))) | refine aw F F F ?_ | refine ac F F ?_ | refine ad F (aF oM) ?_)
  all_goals refine jZ (vs:=[_,_]) F ⟨aJ F F F F,F,trivial⟩ F ⟨F,F,?_⟩
  all_goals exact ⟨⟨_,_,_,_⟩,false,F,by rw [hno];rfl⟩
 have cx_num:=tL (G:=G) oM hm
 by_cases hg : 1 ≤ m ∧ cT b = true
 case neg =>
  have hno : cB s k = none:=by unfold cB;rw [e];simp [hm,hg]
  have hg' : m < 1 ∨ cT b = false:=by
   by_cases h1 : m < 1
   ·exact .inl h1
   ·cases hb2 : cT b with
    | false=>exact .inr F
    | true=>exact absurd ⟨oM,hb2⟩ hg
  rcases hg' with hg' | hg'
  all_goals refine jE [(0,_),(1,_)] Tryz.func154 Tryz.ntmps154 fun B hB=>?_
  all_goals repeat' (first | refine jR ?_ | (refine jo ?_;first | refine jL fun _=>?_ | refine jV (af F) ?_ | refine aP F ?_ | refine aE F ?_ | refine jV (ay F F) ?_ | refine jC F F F ?_ | refine jV (aQ F F oM) ?_ | refine aB F ?_ | refine jV (kO F F F) ?_ | refine bM F ?_ | (refine fL F F F cx_cut1 F ?_;rintro _ _ ⟨b1,cap1,rfl,rfl⟩;dsimp only [zA,fA]) | refine ae F F F cx_num F ?_ | refine ae F F F (gD oM) F ?_) | (refine aG F F (by first | rfl | (refine decide_eq_true ?_;(assumption))) ?_) | refine aw F F F ?_ | refine fu F F (fun _=>?_) (fun _=>?_) | (refine ac F ?_ ?_;(focus ((first | rfl | (simp [*];done));done))) | refine ad F (aF oM) ?_)
  all_goals refine jZ (vs:=[_,_]) F ⟨aJ F F F F,F,trivial⟩ F ⟨F,F,?_⟩
  all_goals exact ⟨⟨_,_,_,_⟩,false,F,by rw [hno];rfl⟩
 obtain ⟨hg1,hg2⟩:=hg
 have hyes : cB s k = match a9 61 c with
  | [d]=>if bZ d = true then some ⟨m,b,d,[]⟩ else none
  | [d,e]=>if k = 82 ∧ b9 d e = true then some ⟨m,b,d,e⟩ else none
  | _=>none:=by
  unfold cB;rw [e];simp only [hm,hg1,hg2,hk,if_false,if_true,and_self] <;> rfl
 have hp : 0 < (a9 61 c).length:=eB
 match e2 : a9 61 c,hp with
 | [d],_ =>
  rw [e2] at hyes
  have cx_cut2:=kC (G:=G) (k:=61) 1 oM e2 rfl oM
  refine jE [(0,_),(1,_)] Tryz.func154 Tryz.ntmps154 fun B hB=>?_
  repeat' (first | refine jR ?_ | (refine jo ?_;first | refine jL fun _=>?_ | refine jV (af F) ?_ | refine aP F ?_ | refine aE F ?_ | refine jV (ay F F) ?_ | refine jD F F F ?_ | refine jC F F F ?_ | refine jV (ak F F oM) ?_ | refine jV (aQ F F oM) ?_ | refine aB F ?_ | refine jV (kO F F F) ?_ | (refine fL F F F cx_cut1 F ?_;rintro _ _ ⟨b1,cap1,rfl,rfl⟩;dsimp only [zA,fA]) | (refine fL F F F cx_cut2 F ?_;rintro _ _ ⟨b2,cap2,rfl,rfl⟩;dsimp only [zA,fA]) | refine ae F F F cx_num F ?_ | refine ae F F F (gD oM) F ?_) | refine aG F F F ?_ | (refine aw F F (by first | rfl | (refine decide_eq_false ?_;(omega))) ?_) | (refine ad F ?_ ?_;(focus ((first | rfl | (refine decide_eq_false ?_;(omega)) | (simp [*];done));done))) | (refine an (ec (id:=15) (tt:=4) F am ?_);refine jW 10 [1] (aa 11 2) ?_;(refine jG (aa 11 3) 0 F (bP F F F F) ?_);(refine jG (aa 11 7) 2 F (af F) ?_);refine jW 6 [3,4] (aa 11 31) ?_;(try (refine Nx.re (d:=87) (v':=Bo true) F (congrArg Value.bool F) ?_));refine jW 5 [5] (aa 11 63) ?_;(refine jG (aa 11 127) 6 F (aX F F F) ?_);(refine jA 7 F ?_;(refine ae F F F ns F ?_);refine jK (aa 11 255) ?_);((refine jG (aa 11 511) 8 F (bO F F ?_) ?_;(focus ((rfl);done))));refine jA 9 F ?_;(refine jC F F F ?_);refine jK (aa 11 1023) ?_;refine jW 0 [10] (aa 11 2047) ?_;refine jQ ?_))
  all_goals refine jZ (vs:=[_,_]) F ⟨aJ F F F F,F,trivial⟩ F ⟨F,F,?_⟩
  all_goals exact ⟨⟨m,b,d,[]⟩,bZ d,F,hyes⟩
 | [d,f],_=>exact p5 h e hk hm hg1 hg2 e2
 | d :: f :: g :: r,_ =>
  rw [e2] at hyes
  have cx_cut2:=kC (G:=G) (k:=61) (r.length + 3) oM e2 (by simp) oM
  refine jE [(0,_),(1,_)] Tryz.func154 Tryz.ntmps154 fun B hB=>?_
  repeat' (first | refine jR ?_ | (refine jo ?_;first | refine jL fun _=>?_ | refine jV (af F) ?_ | refine aP F ?_ | refine aE F ?_ | refine jV (ay F F) ?_ | refine jD F F F ?_ | refine jC F F F ?_ | refine jV (ak F F oM) ?_ | refine jV (aQ F F oM) ?_ | refine aB F ?_ | refine jV (kO F F F) ?_ | (refine fL F F F cx_cut1 F ?_;rintro _ _ ⟨b1,cap1,rfl,rfl⟩;dsimp only [zA,fA]) | (refine fL F F F cx_cut2 F ?_;rintro _ _ ⟨b2,cap2,rfl,rfl⟩;dsimp only [zA,fA]) | refine ae F F F cx_num F ?_ | refine ae F F F (gD oM) F ?_) | refine aG F F F ?_ | (refine aw F F (by first | rfl | (refine decide_eq_false ?_;(omega))) ?_) | (refine ad F ?_ ?_;(focus ((first | rfl | (refine decide_eq_false ?_;(omega)) | (simp [*];done));done))) | (refine an (ec (id:=15) (tt:=4) F am ?_);refine jW 10 [1] (aa 11 2) ?_;(refine jG (aa 11 3) 0 F (bP F F F F) ?_);(refine jG (aa 11 7) 2 F (af F) ?_);refine jW 6 [3,4] (aa 11 31) ?_;(try (refine Nx.re (d:=87) (v':=Bo false) F (congrArg Value.bool F) ?_));refine jW 5 [5] (aa 11 63) ?_;(refine jN (aa 11 127) 6 F ?_);(refine jN (aa 11 255) 7 F ?_);((refine jG (aa 11 511) 8 F (bn F F ?_) ?_;(focus ((rfl);done))));refine jA 9 F ?_;(refine jC F F F ?_);refine jK (aa 11 1023) ?_;refine jW 0 [10] (aa 11 2047) ?_;refine jQ ?_))
  all_goals refine jZ (vs:=[_,_]) F ⟨aJ F F F F,F,trivial⟩ F ⟨F,F,?_⟩
  all_goals exact ⟨⟨m,b,d,[]⟩,false,F,hyes⟩
theorem mB {s : adB} {k : Nat} (h : s.length ≤ 1000) : aZ adA 154 [S s,U8 k] G (lz s k):=by
 by_cases h2 : (a9 58 s).length = 2
 ·match e : a9 58 s,h2 with
  | [a,b],_=>exact qO h e
 by_cases h3 : (a9 58 s).length = 3
 ·match e : a9 58 s,h3 with
  | [a,b,c],_=>exact qN h e
 exact qP h h2 h3
theorem oY {s : adB} {k : Nat} (h : s.length ≤ 100000000) : bG adA 56 [S s,U8 k] G (fun v G'=>aT G' v 1 (a9 k s).length (ah c9 (a9 k s))):=by
 refine dO.shutP ((u7 (G:=G) (k:=k) h).mono ?_)
 rintro v G' L' ⟨h1,h2,_⟩
 exact ⟨h1,v,_,_,_,_,h2,fun G' _ h3=>by rw [← wm];exact h3⟩
abbrev vr : TypeId:=136
abbrev qV : TypeId:=134
def ab0 (s : adB) (v : Value) (G : Gh) : Prop:=∃ fv t ok,v = Tu [Ag [U8 (t : Ty).sort,S t.name,fv],Bo ok] ∧ (dB s = if ok = true then some t else none) ∧ aT G fv 4 t.fields.length (ah hO t.fields)
theorem aT.nil0 {G : Gh} {sz : Nat} : aT G aK sz 0 []:=⟨by simp,.inl ⟨rfl,rfl⟩⟩
theorem iT {α : Type} [Inhabited α] {xs : List α} {i : Nat} (h : i < xs.length) : xs.drop i = ab xs i :: xs.drop (i + 1):=by rw [aI h];exact (List.getElem_cons_drop (h:=h)).symm
theorem vj.sl {v : Value} {m : Nat} (h : vj v m) : ∃ a cap,v = .slice a m cap:=by
 rcases h with ⟨rfl,rfl⟩ | ⟨b,cap,rfl,_⟩
 ·exact ⟨none,0,F⟩
 ·exact ⟨_,cap,F⟩
theorem lA {c : UInt8} {r : adB} (h : (aH 61 r).2.2 = false) : dB (c :: r) = none:=by
 unfold dB
 split
 ·rfl
 ·rename_i h1;cases h1
  split
  ·rename_i h2;rw [h2] at h;cases h
  ·rfl
theorem nA {c : UInt8} {r name rest : adB} (h : aH 61 r = (name, rest, true)) : dB (c :: r) = if cT name = true ∧ eM c.toNat then
        if rest = [] then (if c.toNat = 82 then some ⟨82,name,[]⟩ else none)
        else match dp c.toNat (a9 44 rest) [] with
          | some fs=>if fs.length ≤ 8 then some ⟨c.toNat,name,fs⟩ else none
          | none=>none
      else none:=by
  unfold dB
  simp only [h];rfl
theorem tM {s : adB} (h : s.length ≤ 1000) : bG adA 123 [S s] G (ab0 s):=by
  refine jB [(0,_)] Tryz.func123 Tryz.ntmps123 fun B hok hB hW=>?_
  repeat' (first | refine jR ?_ | (refine jo ?_;refine jL fun _=>?_))
  rename_i x
  refine aV (ι:=Nat) (fun i=>i ≤ s.length ∧ ∀ k,k < i → bt s k ≠ 61) (fun i=>[(0,S s),(2,Pt x 0),(4,I i)]) (fun _=>G) (fun i=>[.blk x (.cells [U8 0,S [],aK].toArray qV (0,0))]) (fun i=>s.length - i) 0 ?_ tU F a7 (fun i Hi=>?_)
  · exact ⟨oM,fun k hk=>absurd hk oM⟩
  by_cases hi : i < s.length ∧ bt s i ≠ 61
  · repeat' (first | refine jM ?_ | (refine jo ?_;refine aP F ?_) | refine aG F F (ax oM) ?_ | (refine ac F ?_ ?_;(focus ((simp;omega);done))))
    refine bm (i + 1) ⟨oM,fun k hk=>?_⟩ oM tU F a7
    rcases Nat.lt_or_ge k i with h3 | h3
    · exact Hi.2 k h3
    · have : k = i:=oM
      subst this;exact hi.2
  rcases Nat.lt_or_ge i s.length with hlt | hge
  case inr =>
    have hno : dB s = none:=by
      match s,Hi,hge with
      | [],_,_=>rfl
      | c :: r,Hi,hge =>
        refine lA ?_
        rw [qJ fun j hj=>by have:=Hi.2 (j + 1) (by simp at hge;omega);rwa [eJ] at this]
    repeat' (first | refine jR ?_ | (refine jo ?_;first | refine aP F ?_ | refine aE F ?_ | refine jV (ay F F) ?_ | refine jC F F F ?_) | refine aw F F (aF oM) ?_ | refine fu F F (fun _=>?_) (fun _=>?_) | (refine ac F (by first | rfl | (refine decide_eq_true ?_;(omega))) ?_) | refine ad F F ?_)
    all_goals refine jZ (vs:=[_,_]) F ⟨aJ F F F F,F,trivial⟩ F ⟨Gh.le.refl _,F,?_⟩
    all_goals exact ⟨aK,default,false,F,by rw [hno];rfl,aT.nil0⟩
  have h61 : bt s i = 61:=by
    rcases Nat.lt_or_ge (bt s i) 61 with h1 | h1
    · exact absurd ⟨hlt,oM⟩ hi
    · rcases Nat.lt_or_ge 61 (bt s i) with h2 | h2
      · exact absurd ⟨hlt,oM⟩ hi
      · omega
  match s,i,Hi,hlt,h61,h with
  | c :: r,0,Hi,hlt,h61,h =>
    have hno : dB (c :: r) = none:=by
      rw [bD] at h61
      cases ht : (aH 61 r).2.2 with
      | false=>exact lA ht
      | true =>
        rw [nA (c:=c) (r:=r) (name:=(aH 61 r).1) (rest:=(aH 61 r).2.1) (by rw [← ht])]
        rw [if_neg]
        rintro ⟨_,h2⟩
        unfold eM at h2;omega
    have h62 : bt (c :: r) ((0 : Nat) : Int).toNat = 61:=h61
    repeat' (first | refine jM ?_ | (refine jo ?_;first | refine aP F ?_ | refine jV (ay F F) ?_ | refine jC F F F ?_) | (refine aG F F (by first | rfl | (refine decide_eq_true ?_;(omega))) ?_) | refine ac F F ?_ | refine ad F (aF oM) ?_)
    all_goals refine jZ (vs:=[_,_]) F ⟨aJ F F F F,F,trivial⟩ F ⟨Gh.le.refl _,F,?_⟩
    all_goals exact ⟨aK,default,false,F,by rw [hno];rfl,aT.nil0⟩
  | c :: r,j + 1,Hi,hlt,h61,h =>
    have hj : j < r.length:=by simpa using hlt
    have hcut1 : aH 61 r = (r.take j,r.drop (j + 1),true):=nJ hj (fun k hk=>by have:=Hi.2 (k + 1) oM;rwa [eJ] at this) (by rwa [eJ] at h61)
    have hty:=nA (c:=c) hcut1
    have h62 : bt (c :: r) ((j + 1 : Nat) : Int).toNat = 61:=h61
    have e0 : bt (c :: r) (Int.toNat 0) = c.toNat:=bD c r
    have hnl : (r.take j).length ≤ 1000:=by simp at h ⊢;omega
    have cx_nm:=gD (G:=G) (s:=r.take j) oM
    by_cases hg : cT (r.take j) = true ∧ eM c.toNat
    case neg =>
      have hno : dB (c :: r) = none:=by rw [hty,if_neg hg]
      by_cases hn : cT (r.take j) = true
      · have hn2 : (!cT (r.take j)) = false:=by rw [hn];rfl
        have hns : ¬ eM c.toNat:=fun h=>hg ⟨hn,h⟩
        unfold eM at hns
        repeat' (first | refine jM ?_ | (refine jo ?_;first | refine aP F ?_ | refine aE F ?_ | refine jC F F F ?_ | refine aB F ?_ | refine bM F ?_ | refine ae F F F cx_nm F ?_) | refine aG F F (ax oM) ?_ | (refine aw F F (by first | rfl | assumption) ?_) | refine ac F (ax oM) ?_ | refine ad F (aF oM) ?_ | (refine an (ao (id:=6) _ (fun _ h=>h) am ?_);refine jW 3 [0,1,2,3,4] (aa 8 31) ?_;(refine jG (aa 8 63) 5 F (ay F F) ?_);refine jA 6 F ?_;(refine jL fun _=>?_);refine jK (aa 8 127) ?_;refine jA 7 F ?_;(refine jC F F F ?_);refine jK (aa 8 255) ?_;refine jQ ?_))
        all_goals refine jZ (vs:=[_,_]) F ⟨aJ F F F F,F,trivial⟩ F ⟨Gh.le.refl _,F,?_⟩
        all_goals exact ⟨aK,⟨_,_,[]⟩,false,F,by rw [hno];rfl,aT.nil0⟩
      · have hn2 : (!cT (r.take j)) = true:=by simpa using hn
        repeat' (first | refine jM ?_ | (refine jo ?_;first | refine aP F ?_ | refine aE F ?_ | refine jC F F F ?_ | refine aB F ?_ | refine bM F ?_ | refine ae F F F cx_nm F ?_) | (refine aG F F (by first | assumption | (refine decide_eq_true ?_;(omega))) ?_) | refine aw F F F ?_ | refine ac F F ?_ | refine ad F (aF oM) ?_ | (refine an (ao (id:=6) _ (fun _ h=>h) am ?_);refine jW 3 [0,1,2,3,4] (aa 8 31) ?_;(refine jG (aa 8 63) 5 F (ay F F) ?_);refine jA 6 F ?_;(refine jL fun _=>?_);refine jK (aa 8 127) ?_;refine jA 7 F ?_;(refine jC F F F ?_);refine jK (aa 8 255) ?_;refine jQ ?_))
        all_goals refine jZ (vs:=[_,_]) F ⟨aJ F F F F,F,trivial⟩ F ⟨Gh.le.refl _,F,?_⟩
        all_goals exact ⟨aK,⟨_,_,[]⟩,false,F,by rw [hno];rfl,aT.nil0⟩
    have hn2 : (!cT (r.take j)) = false:=by rw [hg.1];rfl
    have hs2:=hg.2
    unfold eM at hs2
    rw [if_pos hg] at hty
    by_cases hrest : r.drop (j + 1) = []
    · rw [if_pos hrest] at hty
      by_cases h82 : c.toNat = 82
      · rw [if_pos h82] at hty
        have e82 : bt (c :: r) (Int.toNat 0) = 82:=oM
        repeat' (first | refine jM ?_ | (refine jo ?_;first | refine aP F ?_ | refine aE F ?_ | refine aB F ?_ | refine ae F F F cx_nm F ?_) | refine aG F F (ax oM) ?_ | (refine aw F F (by first | rfl | assumption | (refine decide_eq_false ?_;(omega))) ?_) | refine ac F (ax ‹_›) ?_ | (refine ad F (by first | rfl | (refine decide_eq_false ?_;(omega))) ?_) | (refine an (ao (id:=6) _ (fun _ h=>h) am ?_);refine jW 3 [0,1,2,3,4] (aa 8 31) ?_;(refine jG (aa 8 63) 5 F (ay F F) ?_);refine jA 6 F ?_;(refine jL fun _=>?_);refine jK (aa 8 127) ?_;refine jA 7 F ?_;(refine jC F F F ?_);refine jK (aa 8 255) ?_;refine jQ ?_) | (refine an (ec (id:=10) (tt:=2) F am ?_);refine jW 5 [1] (aa 6 2) ?_;(refine jG (aa 6 3) 0 F (bP F F F F) ?_);(refine jG (aa 6 7) 2 F (aX F F F) ?_);refine jW 2 [3] (aa 6 15) ?_;refine jA 4 F ?_;(refine jC F F F ?_);refine jK (aa 6 31) ?_;refine jW 0 [5] (aa 6 63) ?_;refine jQ ?_))
        all_goals refine jZ (vs:=[_,_]) F ⟨aJ F F F F,F,trivial⟩ F ⟨Gh.le.refl _,F,?_⟩
        all_goals refine ⟨aK,⟨82,r.take j,[]⟩,true,?_,hty,aT.nil0⟩
        all_goals show Tu [Ag [U8 (bt (c :: r) (Int.toNat 0) : Nat),S (r.take j),aK],Bo (decide (((bt (c :: r) (Int.toNat 0) : Nat) : Int) = 82))] = _
        all_goals (rw [e82];rfl)
      · rw [if_neg h82] at hty
        have e82 : ¬ bt (c :: r) (Int.toNat 0) = 82:=oM
        have e83 : decide (((bt (c :: r) (Int.toNat 0) : Nat) : Int) = 82) = false:=decide_eq_false oM
        repeat' (first | refine jM ?_ | (refine jo ?_;first | refine aP F ?_ | refine aE F ?_ | refine aB F ?_ | refine ae F F F cx_nm F ?_) | refine aG F F (ax oM) ?_ | (refine aw F F (by first | rfl | assumption) ?_) | refine fu F F (fun _=>?_) (fun _=>?_) | refine ac F (ax ‹_›) ?_ | (refine ad F (by first | rfl | (refine decide_eq_false ?_;(omega))) ?_) | (refine an (ao (id:=6) _ (fun _ h=>h) am ?_);refine jW 3 [0,1,2,3,4] (aa 8 31) ?_;(refine jG (aa 8 63) 5 F (ay F F) ?_);refine jA 6 F ?_;(refine jL fun _=>?_);refine jK (aa 8 127) ?_;refine jA 7 F ?_;(refine jC F F F ?_);refine jK (aa 8 255) ?_;refine jQ ?_) | (refine an (ec (id:=10) (tt:=2) F am ?_);refine jW 5 [1] (aa 6 2) ?_;(refine jG (aa 6 3) 0 F (bP F F F F) ?_);(refine jG (aa 6 7) 2 F (aX F F F) ?_);refine jW 2 [3] (aa 6 15) ?_;refine jA 4 F ?_;(refine jC F F F ?_);refine jK (aa 6 31) ?_;refine jW 0 [5] (aa 6 63) ?_;refine jQ ?_))
        all_goals refine jZ (vs:=[_,_]) F ⟨aJ F F F F,F,trivial⟩ F ⟨Gh.le.refl _,F,?_⟩
        all_goals refine ⟨aK,⟨bt (c :: r) (Int.toNat 0),r.take j,[]⟩,false,?_,hty,aT.nil0⟩
        all_goals show Tu [Ag [U8 (bt (c :: r) (Int.toNat 0) : Nat),S (r.take j),aK],Bo (decide (((bt (c :: r) (Int.toNat 0) : Nat) : Int) = 82))] = _
        all_goals (rw [e83])
    rw [if_neg hrest] at hty
    have hrl : (r.drop (j + 1)).length ≤ 1000:=by simp at h ⊢;omega
    have hcl:=ii (k:=44) (s:=r.drop (j + 1))
    have cx_cutS:=oY (G:=G) (s:=r.drop (j + 1)) (k:=44) oM
    have hall : ∀ y ∈ a9 44 (r.drop (j + 1)),y.length ≤ 1000:=fun y hy=>Nat.le_trans (dz hy) hrl
    generalize hxs : a9 44 (r.drop (j + 1)) = xs at *
    rcases hs2 with h1 | h1 | h1
    all_goals repeat' (first | refine jM ?_ | (refine jo ?_;first | refine aP F ?_ | refine aE F ?_ | refine aB F ?_ | refine ae F F F cx_nm F ?_ | (refine ar F F F cx_cutS F ?_;rintro _ G hle hcut;skip)) | refine aG F F (ax oM) ?_ | (refine aw F F (by first | rfl | assumption | (refine decide_eq_false ?_;(omega))) ?_) | (refine ad F (by first | rfl | (refine decide_eq_false ?_;first | assumption | omega)) ?_) | (refine an (ao (id:=6) _ (fun _ h=>h) am ?_);refine jW 3 [0,1,2,3,4] (aa 8 31) ?_;(refine jG (aa 8 63) 5 F (ay F F) ?_);refine jA 6 F ?_;(refine jL fun _=>?_);refine jK (aa 8 127) ?_;refine jA 7 F ?_;(refine jC F F F ?_);refine jK (aa 8 255) ?_;refine jQ ?_))
    all_goals rename_i y v
    all_goals refine Nx.addNil vr 4 ?_
    all_goals refine aV (ι:=Value × List Fld × Nat) (fun i=>i.2.2 ≤ xs.length ∧ i.2.1.length ≤ i.2.2 ∧ dp c.toNat (xs.drop i.2.2) i.2.1 = dp c.toNat xs []) (fun i=>[(2,Pt x 0),(5,Pt y 0),(6,v),(7,I i.2.2)]) (fun _=>G) (fun i=>[.acc i.1 vr 4 i.2.1.length (ah hO i.2.1),.blk y (.cells [U8 (bt (c :: r) (Int.toNat 0) : Nat),S (r.take j),i.1].toArray qV (0,0)),.blk x (.cells [U8 0,S [],aK].toArray qV (0,0))]) (fun i=>xs.length - i.2.2) (aK,[],0) ?_ tU F a7 (fun i Hi=>?_)
    all_goals (first | exact ⟨Nat.zero_le _,Nat.le_refl _,F⟩ | skip)
    all_goals obtain ⟨u,fs,i⟩:=i
    all_goals dsimp only at Hi ⊢
    all_goals obtain ⟨hi1,hi2,hi3⟩:=Hi
    all_goals refine Nx.shp (v:=u) (.head _) fun hsh=>?_
    all_goals (have hsh2:=hsh;obtain ⟨au,cu,rfl⟩:=hsh.sl)
    all_goals by_cases hix : i < xs.length
    all_goals try (rw [iT hix,dp] at hi3;obtain ⟨bv,ov,cv,rfl,hsv⟩:=hcut.expl oM;have hx:=hall _ (bB hix))
    all_goals repeat' (first | refine jR ?_ | (refine jo ?_;first | refine jC F F F ?_ | refine bM F ?_ | refine jV (af F) ?_ | refine jV (eY F aS) ?_) | refine ac F (ax oM) ?_ | refine ad F (aF oM) ?_ | refine oJ F (fun _=>?_) (fun _=>?_) | (refine an (ao (id:=15) _ (fun _ h=>h) am ?_);refine jT 10 [0,1,4] (aa 13 19) ?_;(refine jG (aa 13 23) 2 F (ak F F oM) ?_);((refine jG (aa 13 31) 3 F (fN F F aS ?_) ?_;focus omega));(refine jG (aa 13 63) 5 F (aX F F F) ?_);refine b7 [6,10] kR dC ⟨?_,?_,trivial⟩;(focus (refine aM F F ?_;(refine ep F F F (mB oM) F ?_;rintro _ ⟨f,ok,rfl,hfld⟩);refine jK (aa 13 127) ?_;refine jW 3 [7,8,9] (aa 13 1023) ?_;refine jA 10 F ?_;(refine jL fun _=>?_);refine jK (aa 13 2047) ?_;refine jA 11 F ?_;(refine jC F F F ?_);refine jK (aa 13 4095) ?_;refine jW 0 [12] (aa 13 8191) ?_;refine jQ ?_));rotate_left 1;(focus (refine aM F F ?_;(refine jL fun _=>?_);refine jK (aa 13 1087) ?_;refine jA 6 F ?_;(refine ep F F F (mB oM) F ?_;rintro _ ⟨f,ok,rfl,hfld⟩);refine jK (aa 13 1151) ?_;refine jW 2 [7,8,9] (aa 13 2047) ?_;refine jA 11 F ?_;(refine jC F F F ?_);refine jK (aa 13 4095) ?_;refine jW 0 [12] (aa 13 8191) ?_;refine jQ ?_));rotate_left 1) | (refine an (ec (id:=24) (tt:=2) F am ?_);refine jW 6 [1] (aa 7 2) ?_;(refine jG (aa 7 3) 0 F (bP F F F F) ?_);(refine jG (aa 7 7) 2 F (aX F F F) ?_);(refine jG (aa 7 15) 3 F (af F) ?_);refine jW 2 [4] (aa 7 31) ?_;refine jA 5 F ?_;(refine jC F F F ?_);refine jK (aa 7 63) ?_;refine jW 0 [6] (aa 7 127) ?_;refine jQ ?_))
    all_goals first
      | (rename_i z hq
         have hq2 : ok = false:=by simpa using hq
         subst hq2
         have hf0 : cB (ab xs i) c.toNat = none:=hfld
         have hno : dB (c :: r) = none:=by rw [hf0] at hi3;rw [hty,← hi3]
         refine Nx.sealS (v:=.slice au fs.length cu) fun G' hle2 hsl=>?_
         refine jZ (vs:=[_,_]) F ⟨aJ F F F F,F,trivial⟩ F ⟨hle.trans hle2,F,?_⟩
         exact ⟨.slice au fs.length cu,⟨bt (c :: r) (Int.toNat 0),r.take j,fs⟩,false,F,by rw [hno];rfl,hsl⟩)
      | (have ei : i = xs.length:=oM
         have hyes : dB (c :: r) = if fs.length ≤ 8 then some ⟨c.toNat,r.take j,fs⟩ else none:=by
           rw [ei,List.drop_length,dp] at hi3
           rw [hty,← hi3]
         refine Nx.sealS (v:=.slice au fs.length cu) fun G' hle2 hsl=>?_
         refine jZ (vs:=[_,_]) F ⟨aJ F F F F,F,trivial⟩ F ⟨hle.trans hle2,F,?_⟩
         refine ⟨.slice au fs.length cu,⟨c.toNat,r.take j,fs⟩,decide (fs.length ≤ 8),?_,by rw [hyes];simp,hsl⟩
         rw [gu,e0]
         refine congrArg (fun x=>Tu [_,Bo x]) (decide_eq_decide.2 ?_)
         omega)
      | (rename_i z hq
         have hq2 : ok = true:=by simpa using hq
         subst hq2
         have hf1 : cB (ab xs i) c.toNat = some f:=hfld
         rw [hf1] at hi3
         dsimp only at hi3
         refine aV (ι:=Nat) (fun k=>k ≤ fs.length ∧ ∀ m,m < k → (ab fs m).tag < f.tag ∧ (ab fs m).name ≠ f.name) (fun k=>[(2,Pt x 0),(5,Pt y 0),(6,.slice (some ⟨bv,ov,none⟩) xs.length cv),(7,I i),(8,Pt z 0),(10,I k)]) (fun _=>G) (fun k=>[.blk z (.cells (hO f).toArray vr (0,0)),.acc (.slice au fs.length cu) vr 4 fs.length (ah hO fs),.blk y (.cells [U8 (bt (c :: r) (Int.toNat 0) : Nat),S (r.take j),.slice au fs.length cu].toArray qV (0,0)),.blk x (.cells [U8 0,S [],aK].toArray qV (0,0))]) (fun k=>fs.length - k) 0 ?_ tU F a7 (fun k Hk=>?_)
         · exact ⟨Nat.zero_le _,fun m hm=>absurd hm oM⟩
         by_cases hk : k < fs.length
         · obtain ⟨bu,cu2,eu⟩:=hsh2.pos oM
           simp only [Value.slice.injEq] at eu
           obtain ⟨rfl,-,rfl⟩:=eu
           by_cases hbad : (ab fs k).tag < f.tag ∧ (ab fs k).name ≠ f.name
           · obtain ⟨hb1,hb2⟩:=hbad
             repeat' (first | refine jM ?_ | (refine jo ?_;first | refine aB F ?_ | refine jV (af F) ?_) | refine ac F (ax oM) ?_ | refine ad F (aF ‹_›) ?_ | (refine an (ao (id:=21) _ (fun _ h=>h) am ?_);refine jT 17 [0,2,6] (aa 20 69) ?_;(refine jG (aa 20 71) 1 F (aX F F F) ?_);(refine jG (aa 20 79) 3 F (ak F F oM) ?_);refine jT 14 [4] (aa 20 95) ?_;(refine jG (aa 20 127) 5 F (fk F F F oM F F) ?_);(refine jG (aa 20 255) 7 F (aX F F F) ?_);refine jT 10 [8,9] (aa 20 1023) ?_;(try ((refine Nx.re (d:=107) (v':=Bo false) F (congrArg Value.bool (aF oM)) ?_)));refine jT 7 [10,12,16] (aa 20 71679) ?_;(refine jG (aa 20 73727) 11 F (aX F F F) ?_);(refine jG (aa 20 81919) 13 F (ak F F oM) ?_);refine jT 4 [14] (aa 20 98303) ?_;(refine jG (aa 20 131071) 15 F (fk F F F oM F F) ?_);(refine jG (aa 20 262143) 17 F (aX F F F) ?_);refine jT 1 [18] (aa 20 524287) ?_;(refine jG (aa 20 1048575) 19 F (bn F F F) ?_);refine jQ ?_))
             refine bm (k + 1) ⟨oM,fun m hm=>?_⟩ oM tU F a7
             rcases Nat.lt_or_ge m k with h3 | h3
             · exact Hk.2 m h3
             · have : m = k:=oM
               subst this;exact ⟨hb1,hb2⟩
           · have hfr : fresh f fs = false:=by
               unfold fresh
               rw [List.all_eq_false]
               exact ⟨ab fs k,bB hk,by simpa using hbad⟩
             have hno : dB (c :: r) = none:=by
               rw [hfr,if_neg (by simp)] at hi3
               rw [hty,← hi3]
             by_cases htag : f.tag ≤ (ab fs k).tag
             case' neg => have hnm : (ab fs k).name = f.name := by
                           by_cases h6 : (ab fs k).name = f.name
                           · exact h6
                           · exact absurd ⟨oM,h6⟩ hbad
             all_goals repeat' (first | refine jR ?_ | (refine jo ?_;first | refine jC F F F ?_ | refine aB F ?_ | refine bM F ?_ | refine jV (af F) ?_) | (refine ac F (by first | rfl | (refine decide_eq_true ?_;first | assumption | omega)) ?_) | (refine an (ao (id:=21) _ (fun _ h=>h) am ?_);refine jT 17 [0,2,6] (aa 20 69) ?_;(refine jG (aa 20 71) 1 F (aX F F F) ?_);(refine jG (aa 20 79) 3 F (ak F F oM) ?_);refine jT 14 [4] (aa 20 95) ?_;(refine jG (aa 20 127) 5 F (fk F F F oM F F) ?_);(refine jG (aa 20 255) 7 F (aX F F F) ?_);refine jT 10 [8,9] (aa 20 1023) ?_;(try (first | (refine Nx.re (d:=107) (v':=Bo true) F (congrArg Value.bool (ax ‹_›)) ?_) | (refine Nx.re (d:=107) (v':=Bo false) F (congrArg Value.bool (aF ‹_›)) ?_)));refine jT 7 [10,12,16] (aa 20 71679) ?_;(first | refine jG (aa 20 73727) 11 F (aX F F F) ?_ | refine jN (aa 20 73727) 11 F ?_);(first | refine jG (aa 20 81919) 13 F (ak F F oM) ?_ | refine jN (aa 20 81919) 13 F ?_);refine jT 4 [14] (aa 20 98303) ?_;(first | refine jG (aa 20 131071) 15 F (fk F F F oM F F) ?_ | refine jN (aa 20 131071) 15 F ?_);(first | refine jG (aa 20 262143) 17 F (aX F F F) ?_ | refine jN (aa 20 262143) 17 F ?_);refine jT 1 [18] (aa 20 524287) ?_;(first | refine jG (aa 20 1048575) 19 F (bO F F F) ?_ | refine jG (aa 20 1048575) 19 F (bn F F F) ?_);refine jQ ?_))
             all_goals refine Nx.sealS (v:=.slice (some ⟨bu,0,none⟩) fs.length cu) fun G' hle2 hsl=>?_
             all_goals refine jZ (vs:=[_,_]) F ⟨aJ F F F F,F,trivial⟩ F ⟨hle.trans hle2,F,?_⟩
             all_goals exact ⟨.slice (some ⟨bu,0,none⟩) fs.length cu,⟨bt (c :: r) (Int.toNat 0),r.take j,fs⟩,false,F,by rw [hno];rfl,hsl⟩
         · have hfr : fresh f fs = true:=by
             unfold fresh
             rw [List.all_eq_true]
             intro g hg
             obtain ⟨m,hm,rfl⟩:=nH hg
             simpa using Hk.2 m oM
           rw [hfr,if_pos rfl] at hi3
           have hxl : xs.length ≤ 1001:=oM
           repeat' (first | refine jR ?_ | (refine jo ?_;first | refine aB F ?_ | refine bM F ?_ | refine jV (af F) ?_ | refine jF fun _=>?_ | refine v6 F F F F F F F F oM fun _=>?_) | refine ad F (aF oM) ?_)
           rename_i u2
           refine Nx.shp (v:=u2) (.head _) fun hs4=>?_
           obtain ⟨a4,c4,rfl⟩:=hs4.sl
           repeat' (first | refine jM ?_ | (refine jo ?_;refine jD F F F ?_))
           refine bm (.slice a4 (fs.length + 1) c4,fs ++ [f],i + 1) ⟨by dsimp only;omega,by simp;omega,hi3⟩ (by dsimp only;omega) tU rfl (by dsimp only;simp only [bW,List.length_append,List.length_cons,List.length_nil,Nat.zero_add];repeat (first | exact List.Sublist.refl _ | apply List.Sublist.cons_cons | apply List.Sublist.cons)))
def oh (G : Gh) (b : Nat) (t : Ty) : Prop:=∃ fv ln,bT G b 0 [U8 t.sort,S t.name,fv,S ln] ∧ aT G fv 6 t.fields.length (ah gx t.fields)
theorem oh.mono {G G' : Gh} {b : Nat} {t : Ty} (h : oh G b t) (hl : Gh.le G G') : oh G' b t:=by
 obtain ⟨fv,ln,h1,h2⟩:=h
 exact ⟨fv,ln,h1.mono hl,h2.mono hl⟩
def ab2 (s : adB) (v : Value) (G : Gh) : Prop:=(dB s = none ∧ ∃ p,v = Tu [p,Bo false]) ∨ ∃ b t,v = Tu [Pt b 0,Bo true] ∧ dB s = some t ∧ oh G b t
abbrev wl : TypeId:=108
abbrev tTi : TypeId:=118
theorem nb {k : Nat} : ∀ {xs : List adB} {fs gs : List Fld},dp k xs fs = some gs → gs.length = fs.length + xs.length
 | [],fs,gs,h=>by simp only [dp,Option.some.injEq] at h;subst h;simp
 | x :: xs,fs,gs,h=>by
  unfold dp at h
  split at h
  ·cases h
  ·split at h
   ·have:=nb h;simp at this ⊢;omega
   ·cases h
theorem rue (c : UInt8) : decide (0 ≤ gi c.toNat [82,85,69]) = decide (eM c.toNat):=by
 have h : ∀ n : Nat,n < 256 → decide (0 ≤ gi n [82,85,69]) = decide (eM n):=by decide +kernel
 exact h _ c.toNat_lt
theorem pX {s : adB} (h : s.length ≤ 1000) : bG adA 131 [S s] G (ab2 s):=by
  match s,h with
  | [],h =>
    refine jB [(0,_)] Tryz.func131 Tryz.ntmps131 fun B hok hB hW=>?_
    repeat' (first | refine jR ?_ | (refine jo ?_;refine aP F ?_) | refine aG F F F ?_ | refine ac F F ?_)
    all_goals refine jZ (vs:=[_,_]) F ⟨F,F,trivial⟩ F ⟨Gh.le.refl _,F,?_⟩
    all_goals exact .inl ⟨F,_,F⟩
  | c :: r,h =>
    have cx_cont : aZ adA 166 [S [82,85,69],S [c]] G (· = Bo (decide (eM c.toNat))):=by rw [← rue];exact v9
    by_cases hs : eM c.toNat
    case neg =>
      have hno : dB (c :: r) = none:=by
        cases ht : (aH 61 r).2.2 with
        | false=>exact lA ht
        | true=>rw [nA (c:=c) (r:=r) (name:=(aH 61 r).1) (rest:=(aH 61 r).2.1) (by rw [← ht]),if_neg fun h=>hs h.2]
      have hs2 : (!decide (eM c.toNat)) = true:=by simpa using hs
      refine jB [(0,_)] Tryz.func131 Tryz.ntmps131 fun B hok hB hW=>?_
      repeat' (first | refine jX ?_ | (refine jo ?_;first | refine aE F ?_ | refine ae F F F cx_cont F ?_) | refine aw F F F ?_ | refine ac F ‹_› ?_)
      all_goals refine jZ (vs:=[_,_]) F ⟨F,F,trivial⟩ F ⟨Gh.le.refl _,F,?_⟩
      all_goals exact .inl ⟨hno,_,F⟩
    have hs2 : (!decide (eM c.toNat)) = false:=by simpa using hs
    have hcl:=kx (k:=61) (s:=r)
    have hrl : r.length ≤ 1000:=by simp at h;omega
    have cx_cut : aZ adA 130 [S r,S [61]] G (· = Tu [S (aH 61 r).1,S (aH 61 r).2.1,Bo (aH 61 r).2.2]):=qc (c:=61) oM
    cases ht : (aH 61 r).2.2 with
    | false =>
      rw [ht] at cx_cut
      refine jB [(0,_)] Tryz.func131 Tryz.ntmps131 fun B hok hB hW=>?_
      repeat' (first | refine jX ?_ | (refine jo ?_;first | refine aP F ?_ | refine aE F ?_ | refine ae F F F cx_cont F ?_ | refine ae F F F cx_cut F ?_) | refine aG F F F ?_ | refine aw F F F ?_ | refine ac F F ?_ | refine ad F ‹_› ?_)
      all_goals refine jZ (vs:=[_,_]) F ⟨F,F,trivial⟩ F ⟨Gh.le.refl _,F,?_⟩
      all_goals exact .inl ⟨lA ht,_,F⟩
    | true =>
      have hty:=nA (c:=c) (r:=r) (name:=(aH 61 r).1) (rest:=(aH 61 r).2.1) (by rw [← ht])
      rw [ht] at cx_cut
      generalize (aH 61 r).1 = name at *
      generalize (aH 61 r).2.1 = rest at *
      have e0 : bt (c :: r) (Int.toNat 0) = c.toNat:=bD c r
      by_cases hn : cT name = true
      case neg =>
        have hn2 : (!cT name) = true:=by simpa using hn
        have hno : dB (c :: r) = none:=by rw [hty,if_neg fun h=>hn h.1]
        refine jB [(0,_)] Tryz.func131 Tryz.ntmps131 fun B hok hB hW=>?_
        repeat' (first | refine jX ?_ | (refine jo ?_;first | refine aE F ?_ | refine ae F F F cx_cont F ?_ | refine ae F F F cx_cut F ?_ | refine ae F F F (dT oM) F ?_) | refine aw F F F ?_ | refine ac F ‹_› ?_ | refine ad F ‹_› ?_)
        all_goals refine jZ (vs:=[_,_]) F ⟨F,F,trivial⟩ F ⟨Gh.le.refl _,F,?_⟩
        all_goals exact .inl ⟨hno,_,F⟩
      have hn2 : (!cT name) = false:=by rw [hn];rfl
      rw [if_pos ⟨hn,hs⟩] at hty
      by_cases hr : rest = []
      · rw [if_pos hr] at hty
        by_cases h82 : c.toNat = 82
        · rw [if_pos h82] at hty
          have e82 : bt (c :: r) (Int.toNat 0) = 82:=oM
          refine jB [(0,_)] Tryz.func131 Tryz.ntmps131 fun B hok hB hW=>?_
          repeat' (first | refine jX ?_ | (refine jo ?_;first | refine aE F ?_ | refine jV (ay F F) ?_ | refine jO fun _=>?_ | refine ae F F F cx_cont F ?_ | refine ae F F F cx_cut F ?_ | refine ae F F F (dT oM) F ?_) | refine aw F F F ?_ | refine ac F (ax ‹_›) ?_ | refine ad F ‹_› ?_ | (refine an (ao (id:=8) _ (fun _ h=>h) am ?_);refine jT 3 [0,1,2,3,6] (aa 8 79) ?_;(refine jG (aa 8 95) 4 F (aX F F F) ?_);refine jT 0 [5,7] (aa 8 255) ?_;refine jQ ?_))
          rename_i x
          refine Nx.sealC (b:=x) fun G' hle hseg=>?_
          refine jZ (vs:=[_,_]) F ⟨F,F,trivial⟩ F ⟨hle,F,?_⟩
          rw [e82] at hseg
          refine .inr ⟨x,⟨82,name,[]⟩,?_,hty,_,_,hseg,aT.nil0⟩
          show Tu [Pt x 0,Bo (decide (((bt (c :: r) (Int.toNat 0) : Nat) : Int) = 82))] = _
          rw [e82];rfl
        · rw [if_neg h82] at hty
          have e82 : ¬ bt (c :: r) (Int.toNat 0) = 82:=oM
          refine jB [(0,_)] Tryz.func131 Tryz.ntmps131 fun B hok hB hW=>?_
          repeat' (first | refine jX ?_ | (refine jo ?_;first | refine aE F ?_ | refine jV (ay F F) ?_ | refine jO fun _=>?_ | refine ae F F F cx_cont F ?_ | refine ae F F F cx_cut F ?_ | refine ae F F F (dT oM) F ?_) | refine aw F F F ?_ | refine ac F (ax ‹_›) ?_ | refine ad F ‹_› ?_ | (refine an (ao (id:=8) _ (fun _ h=>h) am ?_);refine jT 3 [0,1,2,3,6] (aa 8 79) ?_;(refine jG (aa 8 95) 4 F (aX F F F) ?_);refine jT 0 [5,7] (aa 8 255) ?_;refine jQ ?_))
          all_goals refine jZ (vs:=[_,_]) F ⟨F,F,trivial⟩ F ⟨Gh.le.refl _,F,?_⟩
          all_goals exact .inl ⟨hty,_,by rw [gu,decide_eq_false (show ¬ ((bt (c :: r) (Int.toNat 0) : Nat) : Int) = 82 by omega)]⟩
      · rw [if_neg hr] at hty
        have hall : ∀ y ∈ a9 44 rest,y.length ≤ 1000:=fun y hy=>Nat.le_trans (dz hy) oM
        have hcnt:=ii (k:=44) (s:=rest)
        have cx_split : bG adA 118 [S rest,S [44]] G (fun v G'=>∃ b o cap,v = .slice (some ⟨b,o,none⟩) (a9 44 rest).length cap ∧ bT G' b o (ah c9 (a9 44 rest))):=mh (c:=44) _ oM rfl rfl rfl eB
        generalize a9 44 rest = xs at *
        refine jB [(0,_)] Tryz.func131 Tryz.ntmps131 fun B hok hB hW=>?_
        repeat' (first | refine jX ?_ | (refine jo ?_;first | refine aE F ?_ | refine jV (ay F F) ?_ | refine jO fun _=>?_ | refine jV (af F) ?_ | refine ae F F F cx_cont F ?_ | refine ae F F F cx_cut F ?_ | refine ae F F F (dT oM) F ?_ | (refine ar F F F cx_split F ?_;rintro _ G hle ⟨b1,o1,cap1,rfl,hseg⟩;skip)) | refine aw F F F ?_ | (refine ad F (by first | assumption | (refine decide_eq_false ?_;(assumption))) ?_))
        rename_i x
        have hle0:=hle
        refine Nx.addNil wl 6 ?_
        refine aV (ι:=Value × List Fld × Nat × Gh) (fun i=>((i.2.2.1 ≤ xs.length ∧ i.2.1.length ≤ i.2.2.1) ∧ i.2.1.length ≤ 8) ∧ dp c.toNat (xs.drop i.2.2.1) i.2.1 = dp c.toNat xs [] ∧ Gh.le G i.2.2.2) (fun i=>[(7,Pt x 0),(51,.slice (some ⟨b1,o1,none⟩) xs.length cap1),(52,I xs.length),(53,I i.2.2.1)]) (fun i=>i.2.2.2) (fun i=>[.acc i.1 wl 6 i.2.1.length (ah gx i.2.1),.blk x (.cells [U8 (bt (c :: r) (Int.toNat 0) : Nat),S name,i.1,S (c :: r)].toArray tTi (0,0))]) (fun i=>xs.length - i.2.2.1) (aK,[],0,G) ?_ tU F a7 (fun i Hi=>?_)
        · exact ⟨⟨⟨Nat.zero_le _,Nat.le_refl _⟩,by simp⟩,F,Gh.le.refl _⟩
        obtain ⟨u,fs,i,Gk⟩:=i
        dsimp only at Hi ⊢
        obtain ⟨⟨⟨hi1,hi2⟩,hi8⟩,hi3,hgk⟩:=Hi
        have hsk:=hseg.mono hgk
        refine Nx.shp (v:=u) (.head _) fun hsh=>?_
        have hsh2:=hsh
        obtain ⟨au,cu,rfl⟩:=hsh.sl
        by_cases hix : i < xs.length
        case neg =>
          have ei : i = xs.length:=oM
          rw [ei,List.drop_length,dp] at hi3
          have hyes : dB (c :: r) = some ⟨c.toNat,name,fs⟩:=by rw [hty,← hi3];exact if_pos hi8
          repeat' (first | refine jR ?_ | refine ad F (aF oM) ?_)
          refine Nx.sealS (v:=.slice au fs.length cu) fun G1 hle1 hsl=>?_
          refine Nx.sealC (b:=x) fun G2 hle2 hsg2=>?_
          refine jZ (vs:=[_,_]) F ⟨F,F,trivial⟩ F ⟨((hle.trans hgk).trans hle1).trans hle2,F,?_⟩
          exact .inr ⟨x,⟨c.toNat,name,fs⟩,F,hyes,_,_,hsg2,hsl.mono hle2⟩
        rw [iT hix,dp] at hi3
        have hx:=hall _ (bB hix)
        repeat' (first | refine jR ?_ | (refine jo ?_;first | refine aP F ?_ | refine aE F ?_ | refine aB F ?_ | (refine jV (fN F F aS ?_) ?_;focus omega) | refine jV (af F) ?_ | refine jV (ak F F oM) ?_ | refine jL fun _=>?_ | refine jC F F F ?_ | (refine ar F F F (uj oM) F ?_;rintro _ G hle ⟨f,ok,rfl,hfld⟩;skip)) | refine m4 F F (fun _=>?_) (fun _=>?_) | (refine ac F (by first | rfl | (refine decide_eq_true ?_;(omega))) ?_) | refine eA F (fun _=>?_) (fun _=>?_))
        all_goals first
          | (rename_i z hq h8
             have hq2 : ok = true:=by simpa using hq
             subst hq2
             have hf1 : cB (ab xs i) c.toNat = some f:=hfld
             rw [hf1] at hi3
             dsimp only at hi3
             have h9 : fs.length = 8:=oM
             have hno : dB (c :: r) = none:=by
               rw [hty]
               cases hgs : dp c.toNat xs [] with
               | none=>rfl
               | some gs =>
                 rw [hgs] at hi3
                 split at hi3
                 · have:=nb hi3
                   simp at this
                   exact if_neg oM
                 · cases hi3
             refine jZ (vs:=[_,_]) F ⟨F,F,trivial⟩ F ⟨(hle0.trans hgk).trans hle,F,?_⟩
             exact .inl ⟨hno,_,F⟩)
          | (rename_i z hq
             have hq2 : ok = false:=by simpa using hq
             subst hq2
             have hf0 : cB (ab xs i) c.toNat = none:=hfld
             have hno : dB (c :: r) = none:=by rw [hf0] at hi3;rw [hty,← hi3]
             refine jZ (vs:=[_,_]) F ⟨F,F,trivial⟩ F ⟨(hle0.trans hgk).trans hle,F,?_⟩
             exact .inl ⟨hno,_,F⟩)
          | (rename_i z hq h8
             have hq2 : ok = true:=by simpa using hq
             subst hq2
             have hf1 : cB (ab xs i) c.toNat = some f:=hfld
             rw [hf1] at hi3
             dsimp only at hi3
             have h9 : fs.length ≠ 8:=oM
             refine aV (ι:=Nat) (fun k=>k ≤ fs.length ∧ ∀ m,m < k → (ab fs m).tag < f.tag ∧ (ab fs m).name ≠ f.name) (fun k=>[(7,Pt x 0),(10,Pt z 0),(51,.slice (some ⟨b1,o1,none⟩) xs.length cap1),(52,I xs.length),(53,I i),(79,.slice au fs.length cu),(80,I fs.length),(81,I k)]) (fun _=>G) (fun k=>[.blk z (.cells (gx f).toArray wl (0,0)),.acc (.slice au fs.length cu) wl 6 fs.length (ah gx fs),.blk x (.cells [U8 (bt (c :: r) (Int.toNat 0) : Nat),S name,.slice au fs.length cu,S (c :: r)].toArray tTi (0,0))]) (fun k=>fs.length - k) 0 ?_ tU F a7 (fun k Hk=>?_)
             · exact ⟨Nat.zero_le _,fun m hm=>absurd hm oM⟩
             by_cases hk : k < fs.length
             · obtain ⟨bu,cu2,eu⟩:=hsh2.pos oM
               simp only [Value.slice.injEq] at eu
               obtain ⟨rfl,-,rfl⟩:=eu
               by_cases hbad : (ab fs k).tag < f.tag ∧ (ab fs k).name ≠ f.name
               · obtain ⟨hb1,hb2⟩:=hbad
                 repeat' (first | refine jM ?_ | (refine jo ?_;first | refine aE F ?_ | refine aB F ?_ | refine jV (m7 F F F oM) ?_ | refine jV (ak F F oM) ?_ | refine jL fun _=>?_ | refine jC F F F ?_) | refine aw F F (aF ‹_›) ?_ | refine ac F (ax oM) ?_ | refine ad F (aF oM) ?_)
                 refine bm (k + 1) ⟨oM,fun m hm=>?_⟩ oM tU F sB
                 rcases Nat.lt_or_ge m k with h3 | h3
                 · exact Hk.2 m h3
                 · have : m = k:=oM
                   subst this;exact ⟨hb1,hb2⟩
               · have hfr : fresh f fs = false:=by
                   unfold fresh
                   rw [List.all_eq_false]
                   exact ⟨ab fs k,bB hk,by simpa using hbad⟩
                 have hno : dB (c :: r) = none:=by
                   rw [hfr,if_neg (by simp)] at hi3
                   rw [hty,← hi3]
                 by_cases hnm : (ab fs k).name = f.name
                 case' neg => have htag : f.tag ≤ (ab fs k).tag := by
                               rcases Int.lt_or_le (ab fs k).tag f.tag with h6 | h6
                               · exact absurd ⟨h6,hnm⟩ hbad
                               · exact h6
                 all_goals repeat' (first | refine jR ?_ | (refine jo ?_;first | refine aP F ?_ | refine aE F ?_ | refine aB F ?_ | refine jV (m7 F F F oM) ?_ | refine jV (ak F F oM) ?_ | refine jL fun _=>?_ | refine jC F F F ?_) | refine aG F F (ax ‹_›) ?_ | refine aw F F (aF ‹_›) ?_ | (refine ac F (by first | rfl | (refine decide_eq_true ?_;first | assumption | omega)) ?_))
                 all_goals refine jZ (vs:=[_,_]) F ⟨F,F,trivial⟩ F ⟨(hle0.trans hgk).trans hle,F,?_⟩
                 all_goals exact .inl ⟨hno,_,F⟩
             · have hfr : fresh f fs = true:=by
                 unfold fresh
                 rw [List.all_eq_true]
                 intro g hg
                 obtain ⟨m,hm,rfl⟩:=nH hg
                 simpa using Hk.2 m oM
               rw [hfr,if_pos rfl] at hi3
               have hxl : xs.length ≤ 1001:=oM
               repeat' (first | refine jR ?_ | refine ad F (aF oM) ?_)
               (refine an (ao (id:=21) [.blk z (.cells (gx f).toArray wl (0,0))] (by intro y hy;simp only [List.mem_cons,List.not_mem_nil,or_false] at hy ⊢;simp [hy]) am ?_);refine jW 7 [0,1,2,3] (aa 11 15) ?_;(refine jG (aa 11 47) 5 F (bP F F F F) ?_);refine b7 [4,6] kR dC ⟨?_,?_,trivial⟩;(focus (refine aM F F ?_;(refine aB F ?_);refine jK (aa 11 63) ?_;refine jA 6 F ?_;(refine jF fun _=>?_);refine jK (aa 11 127) ?_;refine jA 7 F ?_;((refine bC F F F F F F F F F ?_ fun _ _=>?_;focus omega));refine jK (aa 11 255) ?_;refine jW 1 [8,9] (aa 11 1023) ?_;refine jA 10 F ?_;(refine jD F F F ?_);refine jK (aa 11 2047) ?_;refine jQ ?_));rotate_left 1;(focus (refine aM F F ?_;(refine jF fun _=>?_);refine jK (aa 11 111) ?_;refine jA 4 F ?_;(refine aB F ?_);refine jK (aa 11 127) ?_;refine jA 7 F ?_;((refine bC F F F F F F F F F ?_ fun _ _=>?_;focus omega));refine jK (aa 11 255) ?_;refine jW 1 [8,9] (aa 11 1023) ?_;refine jA 10 F ?_;(refine jD F F F ?_);refine jK (aa 11 2047) ?_;refine jQ ?_));rotate_left 1)
               all_goals rename_i w b2 c2
               all_goals repeat' (refine jM ?_)
               all_goals refine bm (.slice (some ⟨b2,0,none⟩) (fs.length + 1) c2,fs ++ [f],i + 1,G) ⟨⟨⟨by dsimp only;omega,by simp;omega⟩,by simp;omega⟩,hi3,hgk.trans hle⟩ (by dsimp only;omega) tU rfl (by dsimp only;simp only [bW,List.length_append,List.length_cons,List.length_nil,Nat.zero_add];repeat (first | exact List.Sublist.refl _ | apply List.Sublist.cons_cons | apply List.Sublist.cons)))
abbrev cD:=(Option Addr × Nat) × Ty
def gm (x : cD) : Value:=.slice x.1.1 x.2.fields.length x.1.2
def j9 (x : cD) : List Value:=[U8 x.2.sort,S x.2.name,gm x]
instance : RowF j9 3:=⟨fun _=>rfl⟩
def zT : cD:=((none,0),⟨0,[],[]⟩)
theorem aT.sl {G : Gh} {v : Value} {sz m : Nat} {xs : List Value} (h : aT G v sz m xs) : ∃ a cap,v = .slice a m cap:=by
 obtain ⟨_,⟨rfl,rfl⟩ | ⟨b,o,cap,rfl,_⟩⟩:=h
 ·exact ⟨none,0,F⟩
 ·exact ⟨_,cap,F⟩
structure SchR (G : Gh) (u : Value) (vs : List cD) : Prop where
 sl : aT G u 3 vs.length (ah j9 vs)
 fl : ∀ x ∈ vs,aT G (gm x) 4 x.2.fields.length (ah hO x.2.fields)
theorem SchR.mono {G G' : Gh} {u : Value} {vs : List cD} (h : SchR G u vs) (hl : Gh.le G G') : SchR G' u vs:=⟨h.sl.mono hl,fun x hx=>(h.fl x hx).mono hl⟩
def ag (vs : List cD) : List Ty:=vs.map (·.2)
def gk (vs : List cD) (n : adB) : Option cD:=vs.find? fun x=>decide (x.2.name = n)
def fg (vs : List cD) (k : adB) : Option cD:=(cx k).bind (gk vs)
theorem tf (vs : List cD) (n : adB) : (gk vs n).map (·.2) = iw (ag vs) n:=by
 unfold gk iw ag
 induction vs with
 | nil=>rfl
 | cons x vs ih =>
  simp only [List.map_cons,List.find?_cons]
  split <;> simp_all
theorem wH {vs : List cD} {n : adB} {x : cD} (h : gk vs n = some x) : x ∈ vs ∧ x.2.name = n:=by
 unfold gk at h
 exact ⟨List.mem_of_find?_eq_some h,by simpa using List.find?_some h⟩
theorem ya {vs : List cD} {n : adB} {i : Nat} (hi : i < vs.length) (h : ∀ k,k < i → (ab vs k).2.name ≠ n) (h2 : (ab vs i).2.name = n) : gk vs n = some (ab vs i):=by
 unfold gk
 rw [List.find?_eq_some_iff_getElem]
 rw [aI hi] at h2 ⊢
 refine ⟨by simpa using h2,i,hi,F,fun j hj=>?_⟩
 have:=h j hj
 rw [aI oM] at this
 simpa using this
theorem vN {vs : List cD} {n : adB} (h : ∀ k,k < vs.length → (ab vs k).2.name ≠ n) : gk vs n = none:=by
 unfold gk
 rw [List.find?_eq_none]
 intro x hx
 obtain ⟨i,hi,rfl⟩:=List.mem_iff_getElem.1 hx
 have:=h i hi
 rw [aI hi] at this
 simpa using this
theorem tP {u : Value} {vs : List cD} {n : adB} (h : SchR G u vs) (hn : vs.length ≤ 1000000) : aZ adA 95 [u,S n] G (· = Tu [Ag (j9 ((gk vs n).getD zT)),Bo (gk vs n).isSome]):=by
 have hsl:=h.sl
 refine jE [(0,_),(1,_)] Tryz.func95 Tryz.ntmps95 fun B hB=>?_
 repeat' (first | refine jR ?_ | (refine jo ?_;refine jL fun _=>?_))
 rename_i x
 refine aV (ι:=Nat) (fun i=>i ≤ vs.length ∧ ∀ k,k < i → (ab vs k).2.name ≠ n) (fun i=>[(0,u),(1,S n),(4,Pt x 0),(6,I i)]) (fun _=>G) (fun i=>[.blk x (.cells [U8 0,S [],aK].toArray qV (0,0))]) (fun i=>vs.length - i) 0 ?_ tU F a7 (fun i Hi=>?_)
 ·exact ⟨oM,fun k hk=>absurd hk oM⟩
 by_cases hi : i < vs.length
 ·obtain ⟨b,o,cap,rfl,hs⟩:=hsl.expl oM
  repeat' (first | refine jM ?_ | (refine jo ?_;first | refine jV (af F) ?_ | refine jV (ak F F oM) ?_ | (refine jV (dM F F aS ?_) ?_;focus omega) | (refine jV (b8 F F aS ?_ F F) ?_;focus omega) | refine jC F F F ?_) | refine ac F (ax oM) ?_ | refine eA F (fun _=>?_) (fun _=>?_))
  ·rename_i he
   refine jZ (vs:=[_,_]) F ⟨aJ F F F F,F,trivial⟩ F ⟨F,F,?_⟩
   rw [ya hi Hi.2 he];rfl
  ·rename_i he
   refine bm (i + 1) ⟨oM,fun k hk=>?_⟩ oM tU F a7
   rcases Nat.lt_or_ge k i with h3 | h3
   ·exact Hi.2 k h3
   ·have : k = i:=oM
    subst this;exact he
 ·repeat' (first | refine jR ?_ | (refine jo ?_;first | refine jV (eY F aS) ?_ | refine jC F F F ?_ | refine jV (ay F F) ?_) | refine ad F (aF oM) ?_)
  refine jZ (vs:=[_,_]) F ⟨aJ F F F F,F,trivial⟩ F ⟨F,F,?_⟩
  rw [vN fun k hk=>Hi.2 k oM];rfl
theorem mn {s : adB} (h : fe s = true) (hl : s.length ≤ 1000000) : aZ adA 93 [S s] G (· = Tu [S ((cx s).getD []),Bo (cx s).isSome]):=by
 match s,h with
 | c :: r,h =>
  by_cases hr : r = []
  ·have hc : ¬ c.toNat = 64:=by
    intro hc
    subst hr
    rw [fe,if_neg oM,if_pos hc] at h
    simp [bD,hc] at h
   have e0:=mt c r
   have hq : cx (c :: r) = none:=by simp [cx,hc]
   rw [hq]
   refine jE [(0,_)] Tryz.func93 Tryz.ntmps93 fun B hB=>?_
   repeat' (first | refine jX ?_ | (refine ac F ?_ ?_;(focus ((simp;omega);done))))
   all_goals refine jY (vs:=[_,_]) ?_
   all_goals rfl
  ·have:=aak (G:=G) (c:=c) hr (by simp at hl;omega)
   refine this.mono ?_
   rintro v G' L' ⟨h1,h2,h3⟩
   refine ⟨h1,h2,h3.trans ?_⟩
   by_cases hc : c.toNat = 64 <;> simp [cx,hc]
theorem i9 {u : Value} {vs : List cD} {k : adB} (h : SchR G u vs) (hn : vs.length ≤ 1000000) (hk : fe k = true) (hl : k.length ≤ 1000000) : aZ adA 136 [u,S k] G (· = Tu [Ag (j9 ((fg vs k).getD zT)),Bo (fg vs k).isSome]):=by
 rcases hr : cx k with _ | n
 ·have e : fg vs k = none:=by simp [fg,hr]
  rw [e]
  have cx_ref : aZ adA 93 [S k] G (· = Tu [S [],Bo false]):=by have:=mn (G:=G) hk hl;rwa [hr] at this
  refine jE [(0,_),(1,_)] Tryz.func136 Tryz.ntmps136 fun B hB=>?_
  repeat' (first | refine jR ?_ | (refine jo ?_;first | refine jL fun _=>?_ | refine jV (ay F F) ?_ | refine jC F F F ?_ | refine ae F F F cx_ref F ?_) | refine ac F F ?_)
  all_goals refine jZ (vs:=[_,_]) F ⟨aJ F F F F,F,trivial⟩ F ⟨F,F,?_⟩
  all_goals rfl
 ·have e : fg vs k = gk vs n:=by simp [fg,hr]
  rw [e]
  have cx_ref : aZ adA 93 [S k] G (· = Tu [S n,Bo true]):=by have:=mn (G:=G) hk hl;rwa [hr] at this
  refine jE [(0,_),(1,_)] Tryz.func136 Tryz.ntmps136 fun B hB=>?_
  repeat' (first | refine jR ?_ | (refine jo ?_;first | refine jL fun _=>?_ | refine jC F F F ?_ | refine ae F F F cx_ref F ?_ | (refine ae F F F (tP (by (repeat (assumption));done) oM) rfl ?_)) | refine ad F F ?_)
  all_goals refine jZ (vs:=[_,_]) F ⟨aJ F F F F,F,trivial⟩ F ⟨F,F,?_⟩
  all_goals rfl
theorem fj (vs : List cD) (k : adB) : (fg vs k).map (·.2) = a8 (ag vs) k:=by
 unfold fg a8
 cases cx k with
 | none=>rfl
 | some n=>simp only [Option.bind_some];exact tf vs n
theorem gp {vs : List cD} {k : adB} {x : cD} (h : fg vs k = some x) : x ∈ vs:=by
 unfold fg at h
 cases hr : cx k with
 | none=>rw [hr] at h;cases h
 | some n=>rw [hr] at h;exact (wH h).1
theorem du {s : adB} (h : bZ s = true) : fe s = true ∧ s.length ≤ 12:=by
 unfold bZ at h;simp only [Bool.and_eq_true,decide_eq_true_eq] at h;exact ⟨h.2,h.1⟩
theorem abS {u : Value} {vs : List cD} {x0 : cD} (h : SchR G u vs) (hn : vs.length ≤ 1000) (hw : ∀ x ∈ vs,TyW x.2) (hx : x0 ∈ vs) :
  aZ adA 155 [u,Ag (j9 x0)] G (· = Bo (cr (ag vs) (vs.length + 1) x0.2)):=by
 have hsl:=h.sl
 refine jE [(0,_),(1,_)] Tryz.func155 Tryz.ntmps155 fun B hB=>?_
 repeat' (first | refine jR ?_ | (refine jo ?_;refine jO fun _=>?_))
 rename_i b0
 refine aV (ι:=cD × Nat) (fun i=>i.1 ∈ vs ∧ i.2 ≤ vs.length + 1 ∧ cr (ag vs) (vs.length + 1 - i.2) i.1.2 = cr (ag vs) (vs.length + 1) x0.2) (fun i=>[(0,u),(3,Pt b0 0),(5,I i.2)]) (fun _=>G) (fun i=>[.blk b0 (.cells (j9 i.1).toArray qV (0,0))]) (fun i=>vs.length + 1 - i.2) (x0,0) ?_ tU F a7 (fun i Hi=>?_)
 ·exact ⟨hx,Nat.zero_le _,F⟩
 obtain ⟨⟨⟨a,ca⟩,t⟩,n⟩:=i
 dsimp only at Hi ⊢
 obtain ⟨hxm,hnl,he⟩:=Hi
 have hW:=hw _ hxm
 dsimp only at hW
 by_cases hlt : n ≤ vs.length
 case neg =>
  have e0 : vs.length + 1 - n = 0:=oM
  rw [e0] at he
  repeat' (first | refine jR ?_ | (refine jo ?_;refine jV (eY F aS) ?_) | refine ad F (aF oM) ?_)
  refine jY (vs:=[_]) ?_
  rw [← he];rfl
 obtain ⟨m,hm⟩ : ∃ m,vs.length + 1 - n = m + 1:=⟨vs.length - n,oM⟩
 rw [hm,cr] at he
 by_cases hU : t.sort = 85
 case neg =>
  rw [if_pos hU] at he
  repeat' (first | refine jR ?_ | (refine jo ?_;first | refine jV (eY F aS) ?_ | refine aB F ?_) | (refine ac F ?_ ?_;(focus ((first | (refine decide_eq_true ?_;(omega)) | (simp;omega));done))))
  refine jY (vs:=[_]) ?_
  rw [← he];rfl
 rw [if_neg (by simp [hU])] at he
 have hne:=hW.ne oM
 have h0 : 0 < t.fields.length:=List.length_pos_iff.2 hne
 obtain ⟨bf,of,cf,ef,hsf⟩:=(h.fl _ hxm).expl h0
 simp only [gm,Value.slice.injEq] at ef
 obtain ⟨rfl,-,rfl⟩:=ef
 dsimp only at hsf
 have hk0 : eS t = (ab t.fields 0).kind:=by
  unfold eS ab
  cases t.fields with
  | nil=>rfl
  | cons f r=>rfl
 have hkk:=du ((hW.fld _ (bB h0)).kind oM)
 rw [hk0] at he
 have href:=fj vs (ab t.fields 0).kind
 have cx_rf:=i9 (k:=(ab t.fields 0).kind) h oM hkk.1 oM
 rcases hr : fg vs (ab t.fields 0).kind with _ | ⟨⟨a2,c2⟩,t2⟩
 ·rw [hr] at href cx_rf
  rw [← href] at he
  repeat' (first | refine jR ?_ | (refine jo ?_;first | refine jV (eY F aS) ?_ | refine aB F ?_ | (refine jV (b8 F F aS ?_ F F) ?_;focus omega) | refine jV (ak F F oM) ?_ | refine jL fun _=>?_ | refine jC F F F ?_ | refine ae F F F cx_rf F ?_) | (refine ac F (by first | rfl | (refine decide_eq_true ?_;(omega))) ?_) | (refine ad F ?_ ?_;(focus ((simp [*];done);done))))
  all_goals refine jY (vs:=[_]) ?_
  all_goals (rw [← he];rfl)
 ·rw [hr] at href cx_rf
  rw [← href] at he
  repeat' (first | refine jM ?_ | (refine jo ?_;first | refine jV (eY F aS) ?_ | refine aB F ?_ | (refine jV (b8 F F aS ?_ F F) ?_;focus omega) | refine bM F ?_ | refine jV (ak F F oM) ?_ | refine jL fun _=>?_ | refine jC F F F ?_ | refine ae F F F cx_rf F ?_) | refine ac F (ax oM) ?_ | (refine ad F ?_ ?_;(focus ((first | rfl | (simp [*];done));done))))
  refine bm (((a2,c2),t2),n + 1) ⟨gp hr,by dsimp only;omega,?_⟩ (by dsimp only;omega) tU rfl sB
  dsimp only
  rw [show vs.length + 1 - (n + 1) = m by omega]
  exact he
theorem qn (vs : List cD) : (ag vs).length = vs.length:=by simp [ag]
theorem lf {vs : List cD} {i : Nat} (h : i < vs.length) : ab (ag vs) i = (ab vs i).2:=by
 rw [aI h,aI (by rw [qn];exact h)];simp [ag]
theorem rp {vs : List cD} {k : adB} : fh (ag vs) k = (!(cx (bU k)).isSome || (gk vs ((cx (bU k)).getD [])).isSome):=by
 unfold fh
 cases cx (bU k) with
 | none=>rfl
 | some n =>
  show (iw (ag vs) n).isSome = _
  rw [← tf];simp
theorem me {k : adB} (h : fe k = true) : fe (bU k) = true:=by
 induction k with
 | nil=>cases h
 | cons c r ih =>
  unfold bU
  split
  ·rename_i hc;rw [fe,if_pos hc] at h;exact ih h
  ·exact h
theorem kS : ∀ s : adB,(bU s).length ≤ s.length
 | []=>Nat.le_refl _
 | c :: r=>by
  unfold bU
  split
  ·have:=kS r;simp;omega
  ·exact Nat.le_refl _
theorem z4 {u : Value} {vs : List cD} (h : SchR G u vs) (hn : vs.length ≤ 1000) (hw : ∀ x ∈ vs,TyW x.2) :
    aZ adA 124 [u] G (· = Bo (decide (jn (ag vs)))):=by
  have hsl:=h.sl
  have hlen:=qn vs
  refine jE [(0,_)] Tryz.func124 Tryz.ntmps124 fun B hB=>?_
  repeat' (refine jR ?_)
  refine aV (ι:=Nat) (fun i=>i ≤ vs.length ∧ ∀ j,j < i → ly (ag vs) j ∧ iX (ag vs) (ab (ag vs) j)) (fun i=>[(0,u),(3,I i)]) (fun _=>G) (fun i=>[]) (fun i=>vs.length - i) 0 ?_ tU F a7 (fun i Hi=>?_)
  · exact ⟨Nat.zero_le _,fun j hj=>absurd hj oM⟩
  by_cases hi : i < vs.length
  case neg =>
    have ei : i = vs.length:=oM
    subst ei
    have Hall:=Hi.2
    repeat' (first | refine jR ?_ | (refine jo ?_;refine jV (eY F aS) ?_) | refine ad F (aF oM) ?_)
    refine aV (ι:=Nat) (fun i=>i ≤ vs.length ∧ ∀ j,j < i → cr (ag vs) ((ag vs).length + 1) (ab (ag vs) j) = true) (fun i=>[(0,u),(10,I i)]) (fun _=>G) (fun i=>[]) (fun i=>vs.length - i) 0 ?_ tU F a7 (fun i Hi=>?_)
    · exact ⟨Nat.zero_le _,fun j hj=>absurd hj oM⟩
    by_cases hi : i < vs.length
    · obtain ⟨b,o,cap,rfl,hs⟩:=hsl.expl oM
      have hm:=bB hi
      have cx_en:=abS h hn hw hm
      by_cases he : cr (ag vs) (vs.length + 1) (ab vs i).2 = true
      · have he2 : (!cr (ag vs) (vs.length + 1) (ab vs i).2) = false:=by rw [he];rfl
        repeat' (first | refine jM ?_ | (refine jo ?_;first | refine jV (af F) ?_ | refine jV (ak F F oM) ?_ | (refine jV (dM F F aS ?_) ?_;focus omega) | refine ae F F F cx_en F ?_) | refine ac F (ax oM) ?_ | refine ad F ‹_› ?_)
        refine bm (i + 1) ⟨oM,fun j hj=>?_⟩ oM tU F a7
        rcases Nat.lt_or_ge j i with h3 | h3
        · exact Hi.2 j h3
        · have : j = i:=oM
          subst this;rw [hlen,lf hi];exact he
      · have he2 : (!cr (ag vs) (vs.length + 1) (ab vs i).2) = true:=by simpa using he
        repeat' (first | refine jR ?_ | (refine jo ?_;first | refine jV (af F) ?_ | refine jV (ak F F oM) ?_ | (refine jV (dM F F aS ?_) ?_;focus omega) | refine ae F F F cx_en F ?_) | (refine ac F (by first | assumption | (refine decide_eq_true ?_;(omega))) ?_))
        refine jY (vs:=[_]) ?_
        refine congrArg Bo (decide_eq_false fun hv=>he ?_).symm
        have:=hv.2 i oM
        rwa [hlen,lf hi] at this
    · repeat' (first | refine jR ?_ | (refine jo ?_;refine jV (eY F aS) ?_) | refine ad F (aF oM) ?_)
      refine jY (vs:=[_]) ?_
      exact congrArg Bo (decide_eq_true ⟨fun j hj=>Hall j oM,fun j hj=>Hi.2 j oM⟩).symm
  obtain ⟨b,o,cap,rfl,hs⟩:=hsl.expl oM
  rcases hxi : ab vs i with ⟨⟨a,ca⟩,t⟩
  have hm : ((a,ca),t) ∈ vs:=by rw [← hxi];exact bB hi
  have hW:=hw _ hm
  dsimp only at hW
  have hti : ab (ag vs) i = t:=by rw [lf hi,hxi]
  have hE1 : (((a,ca),t) : cD).2.sort = t.sort:=rfl
  have hE2 : (((a,ca),t) : cD).2.fields.length = t.fields.length:=rfl
  have h8:=hW.len
  have hfl:=h.fl _ hm
  repeat' (first | refine jR ?_ | (refine jo ?_;refine jV (af F) ?_) | refine ac F (ax oM) ?_)
  refine aV (ι:=Nat) (fun k=>k ≤ i ∧ ∀ j,j < k → (ab (ag vs) j).name ≠ (ab (ag vs) i).name) (fun k=>[(0,.slice (some ⟨b,o,none⟩) vs.length cap),(3,I i),(4,I k)]) (fun _=>G) (fun k=>[]) (fun k=>i - k) 0 ?_ tU F a7 (fun k Hk=>?_)
  · exact ⟨Nat.zero_le _,fun j hj=>absurd hj oM⟩
  by_cases hk : k < i
  · have hkv : k < vs.length:=oM
    by_cases hnm : (ab vs k).2.name = t.name
    · repeat' (first | refine jR ?_ | (refine ac F (by refine decide_eq_true ?_;first | assumption | omega) ?_) | (refine an (ao (id:=7) _ (fun _ h=>h) am ?_);refine jT 7 [0,1,5,6] (aa 11 99) ?_;(refine jG (aa 11 103) 2 F (ak F F oM) ?_);refine jT 5 [3] (aa 11 111) ?_;((refine jG (aa 11 127) 4 F (b8 F F aS ?_ F F) ?_;focus omega));(refine jG (aa 11 255) 7 F (ak F F oM) ?_);refine jT 2 [8] (aa 11 511) ?_;((refine jG (aa 11 1023) 9 F (fO F F aS ?_ aS F F) ?_;focus omega));refine jT 0 [10] (aa 11 2047) ?_;refine jQ ?_))
      refine jY (vs:=[_]) ?_
      refine congrArg Bo (decide_eq_false fun hv=>?_).symm
      have:=(hv.1 i oM).1 k hk
      rw [lf hkv,hti] at this
      exact this hnm
    · repeat' (first | refine jM ?_ | refine ac F (ax oM) ?_ | refine ad F (aF ‹_›) ?_ | (refine an (ao (id:=7) _ (fun _ h=>h) am ?_);refine jT 7 [0,1,5,6] (aa 11 99) ?_;(refine jG (aa 11 103) 2 F (ak F F oM) ?_);refine jT 5 [3] (aa 11 111) ?_;((refine jG (aa 11 127) 4 F (b8 F F aS ?_ F F) ?_;focus omega));(refine jG (aa 11 255) 7 F (ak F F oM) ?_);refine jT 2 [8] (aa 11 511) ?_;((refine jG (aa 11 1023) 9 F (fO F F aS ?_ aS F F) ?_;focus omega));refine jT 0 [10] (aa 11 2047) ?_;refine jQ ?_))
      refine bm (k + 1) ⟨oM,fun j hj=>?_⟩ oM tU F a7
      rcases Nat.lt_or_ge j k with h3 | h3
      · exact Hk.2 j h3
      · have : j = k:=oM
        subst this;rw [lf hkv,hti];exact hnm
  have hna : ly (ag vs) i:=fun j hj=>Hk.2 j oM
  repeat' (first | refine jR ?_ | refine ad F (aF oM) ?_)
  refine aV (ι:=Nat) (fun k=>(t.sort = 69 ∨ ∀ j,j < k → fh (ag vs) (ab t.fields j).kind = true) ∧ k ≤ t.fields.length) (fun k=>[(0,.slice (some ⟨b,o,none⟩) vs.length cap),(3,I i),(5,I k)]) (fun _=>G) (fun k=>[]) (fun k=>t.fields.length - k) 0 ?_ tU F a7 (fun k Hk=>?_)
  · exact ⟨.inr fun j hj=>absurd hj oM,Nat.zero_le _⟩
  by_cases hk : k < t.fields.length ∧ t.sort ≠ 69
  case neg =>
    have hko : iX (ag vs) (ab (ag vs) i):=by
      rw [hti]
      by_cases h69 : t.sort = 69
      · exact .inl h69
      · refine .inr fun j hj=>?_
        rcases Hk.1 with h3 | h3
        · exact absurd h3 h69
        · exact h3 j oM
    repeat' (first | refine jM ?_ | (refine jo ?_;first | refine jV (af F) ?_ | refine jV (ak F F oM) ?_ | (refine jV (fO F F aS ?_ aS F F) ?_;focus omega) | refine aP F ?_ | refine aE F ?_) | refine fu F F (fun _=>?_) (fun _=>?_) | (refine ad F (by first | rfl | (refine decide_eq_false ?_;(omega))) ?_))
    all_goals refine bm (i + 1) ⟨oM,fun j hj=>?_⟩ oM tU F a7
    all_goals (rcases Nat.lt_or_ge j i with h3 | h3;· exact Hi.2 j h3)
    all_goals (have : j = i:=by omega)
    all_goals (subst this;exact ⟨hna,hko⟩)
  obtain ⟨hk1,hk2⟩:=hk
  obtain ⟨bf,of,cf,ef,hsf⟩:=hfl.expl (by dsimp only;omega)
  simp only [gm,Value.slice.injEq] at ef
  obtain ⟨rfl,-,rfl⟩:=ef
  dsimp only at hsf
  have hE1 : (((some ⟨bf,of,none⟩,ca),t) : cD).2.sort = t.sort:=rfl
  have hE2 : (((some ⟨bf,of,none⟩,ca),t) : cD).2.fields.length = t.fields.length:=rfl
  have hkk:=du ((hW.fld _ (bB hk1)).kind hk2)
  have hkk1:=hkk.1
  have hcl:=kS (ab t.fields k).kind
  have cx_ref : aZ adA 93 [S (bU (ab t.fields k).kind)] G (· = Tu [S ((cx (bU (ab t.fields k).kind)).getD []),Bo (cx (bU (ab t.fields k).kind)).isSome]):=mn (me hkk1) oM
  have hhas:=rp (vs:=vs) (k:=(ab t.fields k).kind)
  repeat' (first | refine jM ?_ | (refine jo ?_;first | refine jV (af F) ?_ | refine jV (ak F F oM) ?_ | (refine jV (fO F F aS ?_ aS F F) ?_;focus omega) | (refine jV (b8 F F aS ?_ F F) ?_;focus omega) | refine aP F ?_ | refine aE F ?_ | refine jL fun _=>?_ | refine jC F F F ?_ | (refine ae F F F (tN (by (repeat (assumption));done)) rfl ?_) | refine ae F F F cx_ref F ?_ | (refine ae F F F (tP (by (repeat (assumption));done) oM) rfl ?_)) | refine aG F F (ax oM) ?_ | refine m4 F F (fun _=>?_) (fun _=>?_) | refine ac F (ax oM) ?_ | refine ad F F ?_ | refine oJ F (fun _=>?_) (fun _=>?_))
  all_goals first
    | (rename_i h1 h2
       have hK : fh (ag vs) (ab t.fields k).kind = false:=by rw [hhas,h1];simpa using h2
       refine jY (vs:=[_]) ?_
       refine congrArg Bo (decide_eq_false fun hv=>?_).symm
       have h5:=(hv.1 i oM).2
       rw [hti] at h5
       rcases h5 with h3 | h3
       · exact hk2 h3
       · have h6:=h3 k hk1
         rw [hK] at h6;cases h6)
    | (have hK : fh (ag vs) (ab t.fields k).kind = true:=by rw [hhas];simp_all
       refine bm (k + 1) ⟨.inr fun j hj=>?_,oM⟩ oM tU F (by repeat (exact List.nil_sublist _))
       rcases Nat.lt_or_ge j k with h3 | h3
       · rcases Hk.1 with h4 | h4
         · exact absurd h4 hk2
         · exact h4 j h3
       · have : j = k:=oM
         subst this;exact hK)
theorem io : ∀ {xs : List adB} {ts : List Ty} {x : adB},cH xs = some ts → cH (xs ++ [x]) = (dB x).map (fun t=>ts ++ [t])
 | [],ts,x,h=>by
  simp only [cH,Option.some.injEq] at h;subst h
  simp only [List.nil_append,cH]
  cases dB x <;> rfl
 | y :: xs,ts,x,h=>by
  unfold cH at h
  rw [List.cons_append,cH]
  cases hy : dB y with
  | none=>rw [hy] at h;cases h
  | some t =>
   rw [hy] at h
   dsimp only at h ⊢
   cases hr : cH xs with
   | none=>rw [hr] at h;cases h
   | some us =>
    rw [hr] at h
    simp only [Option.map_some,Option.some.injEq] at h;subst h
    rw [io hr]
    cases dB x <;> rfl
theorem gW : ∀ {xs ys : List adB},cH xs = none → cH (xs ++ ys) = none
 | [],ys,h=>by cases h
 | y :: xs,ys,h=>by
  unfold cH at h
  rw [List.cons_append,cH]
  cases hy : dB y with
  | none=>rfl
  | some t =>
   rw [hy] at h
   dsimp only at h ⊢
   cases hr : cH xs with
   | none=>rw [gW hr];rfl
   | some us=>rw [hr] at h;cases h
def t7 (s : adB) (v : Value) (G : Gh) : Prop:=∃ u vs,v = Tu [u,Bo (bc s).isSome] ∧ SchR G u vs ∧ vs.length ≤ 8 ∧ ∀ ts,bc s = some ts → ag vs = ts
theorem SchR.nil : SchR G aK []:=⟨aT.nil0,by simp⟩
theorem xe {s : adB} {k : Nat} (h : s.length ≤ 100000000) : bG adA 56 [S s,U8 k] G (fun v G'=>∃ b o cap,v = .slice (some ⟨b,o,none⟩) (a9 k s).length cap ∧ bT G' b o (ah c9 (a9 k s))):=by
 refine (oY (G:=G) (k:=k) h).mono ?_
 rintro v G' L' ⟨h1,h2,h3⟩
 obtain ⟨b,o,cap,rfl,hs⟩:=h3.expl eB
 exact ⟨h1,h2,b,o,cap,F,hs⟩
theorem rT {s : adB} (h : s.length ≤ 1000) : bG adA 123 [S s] G (fun v G'=>∃ (x : cD) (ok : Bool),v = Tu [Ag [U8 x.2.sort,S x.2.name,.slice x.1.1 x.2.fields.length x.1.2],Bo ok] ∧ (dB s = if ok = true then some x.2 else none) ∧ aT G' (gm x) 4 x.2.fields.length (ah hO x.2.fields)):=by
 refine (tM (G:=G) h).mono ?_
 rintro v G' L' ⟨h1,h2,fv,t,ok,rfl,h3,h4⟩
 obtain ⟨a,cap,rfl⟩:=h4.sl
 exact ⟨h1,h2,((a,cap),t),ok,F,h3,h4⟩
theorem aaj {s : adB} (h : s.length ≤ 10000000) (hb : ¬ (s.length ≤ 400 ∧ (a9 10 s).length ≤ 9 ∧ ab (a9 10 s) ((a9 10 s).length - 1) = [])) (hno : bc s = none) : bG adA 79 [S s] G (t7 s):=by
 have hpos:=eB (k:=10) (s:=s)
 have hcnt:=ii (k:=10) (s:=s)
 have cx_cutE:=xe (G:=G) (s:=s) (k:=10) oM
 generalize a9 10 s = xs at *
 have e1 : (((xs.length : Nat) : Int) - 1).toNat = xs.length - 1:=oM
 refine jB [(0,_)] Tryz.func79 Tryz.ntmps79 fun B hok hB hW=>?_
 by_cases h1 : s.length ≤ 400
 case neg =>
  repeat' (first | refine jR ?_ | (refine jo ?_;first | refine aP F ?_ | (refine ar F F F cx_cutE F ?_;rintro _ G hle ⟨b1,o1,cap1,rfl,hseg⟩;skip)) | (refine aG F F (by first | rfl | (refine decide_eq_true ?_;(omega))) ?_) | refine ac F F ?_)
  all_goals refine jZ (vs:=[_,_]) F ⟨F,F,trivial⟩ F ⟨hle,F,?_⟩
  all_goals exact ⟨aK,[],by rw [hno];rfl,SchR.nil,by simp,fun ts h=>by rw [hno] at h;cases h⟩
 by_cases h2 : xs.length ≤ 9
 case neg =>
  repeat' (first | refine jR ?_ | (refine jo ?_;first | refine jV (af F) ?_ | refine aP F ?_ | refine aE F ?_ | (refine ar F F F cx_cutE F ?_;rintro _ G hle ⟨b1,o1,cap1,rfl,hseg⟩;skip)) | refine aG F F (ax oM) ?_ | refine aw F F (aF oM) ?_ | refine ac F F ?_)
  all_goals refine jZ (vs:=[_,_]) F ⟨F,F,trivial⟩ F ⟨hle,F,?_⟩
  all_goals exact ⟨aK,[],by rw [hno];rfl,SchR.nil,by simp,fun ts h=>by rw [hno] at h;cases h⟩
 have h3 : ¬ ab xs (((xs.length : Nat) : Int) - 1).toNat = []:=by rw [e1];exact fun h=>hb ⟨h1,h2,h⟩
 clear hb
 repeat' (first | refine jM ?_ | (refine jo ?_;first | refine jV (af F) ?_ | refine aE F ?_ | refine jV (aQ F F oM) ?_ | (refine jV (fN F F aS ?_) ?_;focus omega) | (refine ar F F F cx_cutE F ?_;rintro _ G hle ⟨b1,o1,cap1,rfl,hseg⟩;skip)) | refine aw F F (aF oM) ?_ | refine ac F (ax ‹_›) ?_)
 all_goals refine jZ (vs:=[_,_]) F ⟨F,F,trivial⟩ F ⟨hle,F,?_⟩
 all_goals exact ⟨aK,[],by rw [hno];rfl,SchR.nil,by simp,fun ts h=>by rw [hno] at h;cases h⟩
theorem aai {s : adB} (h : s.length ≤ 400) (h2 : (a9 10 s).length ≤ 9) (h3 : ab (a9 10 s) ((a9 10 s).length - 1) = []) (hsc : bc s = match cH ((a9 10 s).take ((a9 10 s).length - 1)) with
    | some ts=>if jn ts then some ts else none
    | none=>none) : bG adA 79 [S s] G (t7 s):=by
  have hpos:=eB (k:=10) (s:=s)
  have hall : ∀ y ∈ a9 10 s,y.length ≤ s.length:=fun y hy=>dz hy
  have cx_cutE:=xe (G:=G) (s:=s) (k:=10) oM
  generalize a9 10 s = xs at *
  have e1 : (((xs.length : Nat) : Int) - 1).toNat = xs.length - 1:=oM
  have h4 : ab xs (((xs.length : Nat) : Int) - 1).toNat = []:=by rw [e1];exact h3
  have h5 : ¬ ab xs (((xs.length : Nat) : Int) - 1).toNat ≠ []:=fun h=>h h4
  clear e1 h3 h4
  refine jB [(0,_)] Tryz.func79 Tryz.ntmps79 fun B hok hB hW=>?_
  repeat' (first | refine jM ?_ | (refine jo ?_;first | refine jV (af F) ?_ | refine aE F ?_ | refine jV (aQ F F oM) ?_ | (refine jV (fN F F aS ?_) ?_;focus omega) | refine jF fun _=>?_ | (refine ar F F F cx_cutE F ?_;rintro _ G hle ⟨b1,o1,cap1,rfl,hseg⟩;skip)) | refine aw F F (aF oM) ?_ | refine ad F (aF ‹_›) ?_)
  rename_i x0
  refine Nx.blkAcc (m:=0) (sz:=3) .here F ?_
  refine aV (ι:=Value × List cD × Nat × Gh) (fun i=>((i.2.2.1 + 1 ≤ xs.length ∧ i.2.1.length = i.2.2.1) ∧ cH (xs.take i.2.2.1) = some (ag i.2.1)) ∧ (∀ y ∈ i.2.1,aT i.2.2.2 (gm y) 4 y.2.fields.length (ah hO y.2.fields)) ∧ Gh.le G i.2.2.2) (fun i=>[(4,.slice (some ⟨b1,o1,none⟩) xs.length cap1),(5,i.1),(6,I i.2.2.1)]) (fun i=>i.2.2.2) (fun i=>[.acc i.1 qV 3 i.2.1.length (ah j9 i.2.1)]) (fun i=>xs.length - i.2.2.1) (.slice (some ⟨x0,0,none⟩) 0 0,[],0,G) ?_ tU F a7 (fun i Hi=>?_)
  · exact ⟨⟨⟨by dsimp only;omega,rfl⟩,rfl⟩,by simp,Gh.le.refl _⟩
  obtain ⟨u,vs,i,Gk⟩:=i
  dsimp only at Hi ⊢
  obtain ⟨⟨⟨hi1,hi2⟩,hty⟩,hfs,hgk⟩:=Hi
  have hsk:=hseg.mono hgk
  have hle0:=hle
  by_cases hix : i + 1 < xs.length
  case neg =>
    have ei : i = xs.length - 1:=oM
    rw [← ei,hty] at hsc
    dsimp only at hsc
    refine Nx.sealS (v:=u) fun G1 hle1 hsl=>?_
    have hS : SchR G1 u vs:=⟨hsl,fun x hx=>(hfs x hx).mono hle1⟩
    have hw : ∀ x ∈ vs,TyW x.2:=fun x hx=>(je hty).1 x.2 (show x.2 ∈ vs.map (fun y=>y.2) from List.mem_map_of_mem hx)
    have cx_val:=z4 hS oM hw
    repeat' (first | refine jM ?_ | (refine jo ?_;first | refine jV (af F) ?_ | refine ae F F F cx_val F ?_) | refine ad F (aF oM) ?_)
    all_goals refine jZ (vs:=[_,_]) F ⟨F,F,trivial⟩ F ⟨(hle0.trans hgk).trans hle1,F,?_⟩
    all_goals refine ⟨u,vs,?_,hS,oM,fun ts h=>?_⟩
    · rw [hsc,gu]
      by_cases hv : jn (ag vs)
      · rw [if_pos hv,decide_eq_true hv];rfl
      · rw [if_neg hv,decide_eq_false hv];rfl
    · rw [hsc] at h
      split at h
      · exact Option.some.inj h
      · cases h
  have hx2 : (ab xs i).length ≤ 1000:=by have:=hall _ (bB (show i < xs.length by omega));omega
  have hsn:=io (x:=ab xs i) hty
  rw [← dl oM] at hsn
  repeat' (first | refine jM ?_ | (refine jo ?_;first | refine jV (af F) ?_ | refine jV (ak F F oM) ?_ | refine bM F ?_ | (refine jV (fN F F aS ?_) ?_;focus omega) | refine jF fun _=>?_ | refine jL fun _=>?_ | refine jC F F F ?_ | refine bC F F F F F F F F F oM fun _ _=>?_ | (refine ar F F F (rT oM) F ?_;rintro _ G hle ⟨x,ok,rfl,htyp,hfl⟩;skip)) | refine ac F (ax oM) ?_ | refine oJ F (fun _=>?_) (fun _=>?_))
  all_goals first
    | (rename_i hq
       have hq2 : ok = false:=by simpa using hq
       subst hq2
       have hf0 : dB (ab xs i) = none:=htyp
       have hno : bc s = none:=by
         rw [hf0] at hsn
         have e2 : xs.take (xs.length - 1) = xs.take (i + 1) ++ (xs.take (xs.length - 1)).drop (i + 1):=by
           have:=List.take_append_drop (i + 1) (xs.take (xs.length - 1))
           rw [List.take_take,Nat.min_eq_left oM] at this
           exact this.symm
         rw [hsc,e2,gW hsn]
       refine jZ (vs:=[_,_]) F ⟨F,F,trivial⟩ F ⟨(hle0.trans hgk).trans hle,F,?_⟩
       exact ⟨aK,[],by rw [hno];rfl,SchR.nil,by simp,fun ts h=>by rw [hno] at h;cases h⟩)
    | (rename_i z hq w b2 c2
       have hq2 : ok = true:=by simpa using hq
       subst hq2
       have hf1 : dB (ab xs i) = some x.2:=htyp
       rw [hf1] at hsn
       have e3 : ah j9 vs ++ [U8 x.2.sort,S x.2.name,.slice x.1.1 x.2.fields.length x.1.2] = ah j9 (vs ++ [x]):=(bW j9 vs x).symm
       refine bm (.slice (some ⟨b2,0,none⟩) (vs.length + 1) c2,vs ++ [x],i + 1,G) ⟨⟨⟨by dsimp only;omega,by simp;omega⟩,?_⟩,?_,hgk.trans hle⟩ (by dsimp only;omega) tU rfl (by dsimp only;rw [e3];simp only [List.length_append,List.length_cons,List.length_nil,Nat.zero_add];repeat (first | exact List.nil_sublist _ | apply List.Sublist.cons_cons))
       · dsimp only;rw [hsn];simp [ag]
       · intro y hy
         rcases List.mem_append.1 hy with hy | hy
         · exact (hfs y hy).mono hle
         · simp only [List.mem_singleton] at hy;subst hy;exact hfl)
theorem p6 {s : adB} (h : s.length ≤ 10000000) : bG adA 79 [S s] G (t7 s):=by
 have hpos:=eB (k:=10) (s:=s)
 have hlast : (a9 10 s).getLastD [] = ab (a9 10 s) ((a9 10 s).length - 1):=by
  rw [aI oM,List.getLastD_eq_getLast?,List.getLast?_eq_getElem?]
  rw [List.getElem?_eq_getElem oM];rfl
 by_cases hc : s.length ≤ 400 ∧ (a9 10 s).length ≤ 9 ∧ ab (a9 10 s) ((a9 10 s).length - 1) = []
 ·refine aai hc.1 hc.2.1 hc.2.2 ?_
  unfold bc
  rw [hlast,if_pos hc,List.dropLast_eq_take]
  (rfl)
 ·refine aaj h hc ?_
  unfold bc
  rw [hlast,if_neg hc]
def dA (s k : adB) : Bool:=match bc s with
 | some ts=>aA ts k
 | none=>false
theorem ul {s : adB} (h : s.length ≤ 10000000) : aZ adA 70 [S s] G (· = Bo (bc s).isSome):=by
 refine jB (Post:=fun v G' L'=>G' = G ∧ L' = [] ∧ _) [(0,_)] Tryz.func70 Tryz.ntmps70 fun B hok hB hW=>?_
 repeat' (first | refine jR ?_ | (refine jo ?_;(refine ar F F F (p6 oM) F ?_;rintro _ G hle ⟨u,vs,rfl,hsch,hvl,hvs⟩;skip)))
 refine Nx.base hok hB ?_
 refine jY (vs:=[_]) ?_
 rfl
def yv (s k : adB) (v : Value) (G : Gh) : Prop:=∃ u vs,v = Tu [u,Bo (dA s k)] ∧ SchR G u vs ∧ vs.length ≤ 8 ∧ ∀ ts,bc s = some ts → aA ts k = true → ag vs = ts
theorem hY {s k : adB} (h : s.length ≤ 10000000) (hk : k.length ≤ 10000000) : bG adA 49 [S s,S k] G (yv s k):=by
  cases hs : bc s with
  | none =>
    have hno : dA s k = false:=by unfold dA;rw [hs]
    have e1 : (!(bc s).isSome) = true:=by rw [hs];rfl
    refine jB [(0,_),(1,_)] Tryz.func49 Tryz.ntmps49 fun B hok hB hW=>?_
    repeat' (first | refine jR ?_ | (refine jo ?_;first | refine aP F ?_ | (refine ar F F F (p6 oM) F ?_;rintro _ G hle ⟨u,vs,rfl,hsch,hvl,hvs⟩;skip)) | refine aG F F ‹_› ?_ | refine ac F F ?_)
    all_goals refine jZ (vs:=[_,_]) F ⟨F,F,trivial⟩ F ⟨hle,F,?_⟩
    all_goals exact ⟨aK,[],by rw [hno];rfl,SchR.nil,by simp,fun ts h=>by rw [hs] at h;cases h⟩
  | some ts =>
    have e1 : (!(bc s).isSome) = false:=by rw [hs];rfl
    by_cases hko : bZ k = true
    case neg =>
      have hno : dA s k = false:=by unfold dA aA;rw [hs];simp [hko]
      have e2 : (!bZ k) = true:=by simpa using hko
      refine jB [(0,_),(1,_)] Tryz.func49 Tryz.ntmps49 fun B hok hB hW=>?_
      repeat' (first | refine jR ?_ | (refine jo ?_;first | refine aE F ?_ | (refine ar F F F (p6 oM) F ?_;rintro _ G hle ⟨u,vs,rfl,hsch,hvl,hvs⟩;skip) | refine ae F F F ns F ?_) | refine aw F F ‹_› ?_ | refine ac F ‹_› ?_)
      all_goals refine jZ (vs:=[_,_]) F ⟨F,F,trivial⟩ F ⟨hle,F,?_⟩
      all_goals exact ⟨aK,[],by rw [hno];rfl,SchR.nil,by simp,fun ts h1 h2=>by unfold aA at h2;simp [hko] at h2⟩
    have e2 : (!bZ k) = false:=by rw [hko];rfl
    have hkk:=du hko
    have hkk1:=hkk.1
    have hcl:=kS k
    have cx_rf2 : ∀ G,aZ adA 93 [S (bU k)] G (· = Tu [S ((cx (bU k)).getD []),Bo (cx (bU k)).isSome]):=fun G=>mn (me hkk1) oM
    refine jB [(0,_),(1,_)] Tryz.func49 Tryz.ntmps49 fun B hok hB hW=>?_
    repeat' (first | refine jR ?_ | (refine jo ?_;first | refine aP F ?_ | refine aE F ?_ | refine jL fun _=>?_ | refine jC F F F ?_ | (refine ar F F F (p6 oM) F ?_;rintro _ G hle ⟨u,vs,rfl,hsch,hvl,hvs⟩;skip) | refine ae F F F ns F ?_ | (refine ae F F F (tN (by (repeat (assumption));done)) rfl ?_) | refine ae F F F (cx_rf2 _) F ?_ | (refine ae F F F (tP (by (repeat (assumption));done) oM) rfl ?_)) | refine aw F F ‹_› ?_ | refine m4 F F (fun _=>?_) (fun _=>?_) | refine ad F ‹_› ?_)
    all_goals rename_i hq
    all_goals refine jZ (vs:=[_,_]) F ⟨F,F,trivial⟩ F ⟨hle,F,?_⟩
    all_goals have hks : dA s k = (!(cx (bU k)).isSome || (gk vs ((cx (bU k)).getD [])).isSome) := by
                unfold dA aA
                rw [hs]
                dsimp only
                rw [hko,Bool.true_and,← hvs ts hs,rp]
    all_goals exact ⟨u,vs,by rw [hks,hq];rfl,hsch,hvl,fun ts' h1 _=>hvs ts' h1⟩
abbrev c6:=Nat × Ty
def uG (q : c6) : List Value:=[Pt q.1 0]
instance : RowF uG 1:=⟨fun _=>rfl⟩
def lT (qs : List c6) : List (adB × Value):=qs.map fun q=>(q.2.name,Pt q.1 0)
def al (qs : List c6) : List Ty:=qs.map (·.2)
def fx (qs : List c6) (n : adB) : Option c6:=qs.find? fun q=>decide (n = q.2.name)
theorem fX (qs : List c6) (n : adB) : ro (lT qs) n = (fx qs n).map fun q=>Pt q.1 0:=by
 unfold ro lT fx
 induction qs with
 | nil=>rfl
 | cons q qs ih =>
  simp only [List.map_cons,List.find?_cons]
  by_cases h : n = q.2.name
  ·simp [h]
  ·simp only [h,decide_false];exact ih
theorem iR (qs : List c6) (n : adB) : (fx qs n).map (·.2) = iw (al qs) n:=by
 unfold fx iw al
 induction qs with
 | nil=>rfl
 | cons q qs ih =>
  simp only [List.map_cons,List.find?_cons]
  by_cases h : n = q.2.name
  ·simp [h]
  ·have h2 : ¬ q.2.name = n:=fun e=>h e.symm
   simp only [h,h2,decide_false];exact ih
theorem jk {qs : List c6} {n : adB} {q : c6} (h : fx qs n = some q) : q ∈ qs:=List.mem_of_find?_eq_some h
structure ScI (G : Gh) (b : Nat) (qs : List c6) : Prop where
 at' : ∃ u m,bT G b 0 [u,.map (some m)] ∧ aT G u 1 qs.length (ah uG qs) ∧ G m = some (.ex (fH (lT qs)))
 ty : ∀ q ∈ qs,oh G q.1 q.2
theorem ScI.mono {G G' : Gh} {b : Nat} {qs : List c6} (h : ScI G b qs) (hl : Gh.le G G') : ScI G' b qs:=by
 obtain ⟨u,m,h1,h2,h3⟩:=h.at'
 exact ⟨⟨u,m,h1.mono hl,h2.mono hl,hl _ _ h3⟩,fun q hq=>(h.ty q hq).mono hl⟩
theorem nM {k : adB} (h : bZ k = true) : bs k = [64] ↔ (cx (bU k)).isSome = true:=by
 have hk:=me (du h).1
 unfold bs
 cases hc : bU k with
 | nil=>rw [hc] at hk;cases hk
 | cons c r =>
  unfold qd cx
  by_cases h64 : c.toNat = 64
  ·simp [h64]
  ·simp only [h64,if_false]
   constructor
   ·intro e;simp only [List.cons.injEq] at e;exact absurd (by rw [e.1];rfl) h64
   ·intro e;cases e
theorem vZ {b : Nat} {qs : List c6} {k : adB} (h : ScI G b qs) (hk : bZ k = true) : aZ adA 89 [Pt b 0,Ag [S (sg k),S (bs k),S (nm k)]] G (· = Bo (fh (al qs) k)):=by
 obtain ⟨u,m,h1,h2,h3⟩:=h.at'
 have hat:=nM hk
 rcases hr : cx (bU k) with _ | n
 ·have hb : ¬ bs k = [64]:=by rw [hat,hr];simp
  have e : fh (al qs) k = true:=by unfold fh;rw [hr]
  clear hat hr
  rw [e]
  refine jE [(0,_),(1,_)] Tryz.func89 Tryz.ntmps89 fun B hB=>?_
  repeat' (first | refine jR ?_ | (refine jo ?_;refine jO fun _=>?_) | (refine an (ao (id:=1) _ (fun _ h=>h) am ?_);refine jT 13 [0] (aa 14 1) ?_;(refine jG (aa 14 3) 1 F (aX F F F) ?_);refine jT 10 [2,3] (aa 14 15) ?_;(try (refine Nx.re (d:=8) (v':=Bo true) F (congrArg Value.bool (ax ‹_›)) ?_));refine jT 6 [4,5,6,8] (aa 14 383) ?_;(refine jN (aa 14 511) 7 F ?_);(refine jN (aa 14 1023) 9 F ?_);(refine jN (aa 14 2047) 10 F ?_);(refine jN (aa 14 4095) 11 F ?_);(refine jG (aa 14 8191) 12 F (bO F F F) ?_);refine jT 0 [13] (aa 14 16383) ?_;refine jQ ?_))
  all_goals refine jY (vs:=[_]) ?_
  all_goals rfl
 ·have hb : ¬ (bs k ≠ [64]):=fun h=>h (by rw [hat,hr];rfl)
  have hn : nm k = n:=by unfold nm;rw [hr];rfl
  have e : fh (al qs) k = (fx qs (nm k)).isSome:=by unfold fh;rw [hr,hn];dsimp only;rw [← iR];simp
  rw [e]
  clear hat hr hn e
  have hkv:=fX qs (nm k)
  cases hf : fx qs (nm k) with
  | none =>
   rw [hf] at hkv
   dsimp only [Option.map_none] at hkv
   refine jE [(0,_),(1,_)] Tryz.func89 Tryz.ntmps89 fun B hB=>?_
   repeat' (first | refine jR ?_ | (refine jo ?_;refine jO fun _=>?_) | (refine an (ao (id:=1) _ (fun _ h=>h) am ?_);refine jT 13 [0] (aa 14 1) ?_;(refine jG (aa 14 3) 1 F (aX F F F) ?_);refine jT 10 [2,3] (aa 14 15) ?_;(try (refine Nx.re (d:=8) (v':=Bo false) F (congrArg Value.bool (aF ‹_›)) ?_));refine jT 6 [4,5,6,8] (aa 14 383) ?_;(refine jG (aa 14 511) 7 F (aj F F aS F F) ?_);(refine jG (aa 14 1023) 9 F (aX F F F) ?_);((refine jG (aa 14 2047) 10 F (db F F (fW aS) aS F) ?_));(refine jG (aa 14 4095) 11 F (iv F F) ?_);(refine jG (aa 14 8191) 12 F (bn F F F) ?_);refine jT 0 [13] (aa 14 16383) ?_;refine jQ ?_))
   all_goals refine jY (vs:=[_]) ?_
   all_goals rfl
  | some q =>
   rw [hf] at hkv
   dsimp only [Option.map_some] at hkv
   refine jE [(0,_),(1,_)] Tryz.func89 Tryz.ntmps89 fun B hB=>?_
   repeat' (first | refine jR ?_ | (refine jo ?_;refine jO fun _=>?_) | (refine an (ao (id:=1) _ (fun _ h=>h) am ?_);refine jT 13 [0] (aa 14 1) ?_;(refine jG (aa 14 3) 1 F (aX F F F) ?_);refine jT 10 [2,3] (aa 14 15) ?_;(try (refine Nx.re (d:=8) (v':=Bo false) F (congrArg Value.bool (aF ‹_›)) ?_));refine jT 6 [4,5,6,8] (aa 14 383) ?_;(refine jG (aa 14 511) 7 F (aj F F aS F F) ?_);(refine jG (aa 14 1023) 9 F (aX F F F) ?_);((refine jG (aa 14 2047) 10 F (db F F (fW aS) aS F) ?_));(refine jG (aa 14 4095) 11 F (iv F F) ?_);(refine jG (aa 14 8191) 12 F (bn F F F) ?_);refine jT 0 [13] (aa 14 16383) ?_;refine jQ ?_))
   all_goals refine jY (vs:=[_]) ?_
   all_goals rfl
theorem zm {k : adB} (h : bZ k = true) : cx k = if sg k = [] ∧ bs k = [64] then some (nm k) else none:=by
 have hat:=nM h
 match k,h with
 | c :: r,h =>
  by_cases h1 : c.toNat = 91 ∨ c.toNat = 63
  ·have hs : ¬ (sg (c :: r) = [] ∧ bs (c :: r) = [64]):=by
    rintro ⟨e,_⟩
    unfold sg at e
    rw [bU,if_pos h1] at e
    have:=md r
    have e2:=congrArg List.length e
    simp only [List.length_take,List.length_cons,List.length_nil] at e2
    omega
   rw [if_neg hs]
   simp only [cx]
   rw [if_neg oM]
  ·have hc : bU (c :: r) = c :: r:=by rw [bU,if_neg h1]
   have hs : sg (c :: r) = []:=by unfold sg;rw [hc];simp
   have hn : nm (c :: r) = (cx (c :: r)).getD []:=by unfold nm;rw [hc]
   rw [hc] at hat
   rw [hn,hs]
   cases hr : cx (c :: r) with
   | none=>rw [hr] at hat;rw [if_neg];rintro ⟨_,e⟩;have:=hat.1 e;cases this
   | some n=>rw [hr] at hat;rw [if_pos ⟨rfl,hat.2 rfl⟩];rfl
theorem aan {b : Nat} {qs : List c6} {q0 : c6} (h : ScI G b qs) (hw : ∀ q ∈ qs,TyW q.2) (hk : ∀ q ∈ qs,iX (al qs) q.2) (hq : q0 ∈ qs) :
  aZ adA 132 [Pt b 0,Pt q0.1 0] G (· = Bo (cr (al qs) 9 q0.2)):=by
 obtain ⟨u,m,h1,h2,h3⟩:=h.at'
 refine jE [(0,_),(1,_)] Tryz.func132 Tryz.ntmps132 fun B hB=>?_
 repeat' (refine jR ?_)
 refine aV (ι:=c6 × Nat) (fun i=>i.1 ∈ qs ∧ i.2 ≤ 9 ∧ cr (al qs) (9 - i.2) i.1.2 = cr (al qs) 9 q0.2) (fun i=>[(0,Pt b 0),(1,Pt i.1.1 0),(6,I i.2)]) (fun _=>G) (fun i=>[]) (fun i=>9 - i.2) (q0,0) ?_ tU F a7 (fun i Hi=>?_)
 ·exact ⟨hq,Nat.zero_le _,F⟩
 obtain ⟨⟨p,t⟩,i⟩:=i
 dsimp only at Hi ⊢
 obtain ⟨hqm,hi9,he⟩:=Hi
 have hW:=hw _ hqm
 obtain ⟨fv,ln,hsg,hfv⟩:=h.ty _ hqm
 dsimp only at hW hsg hfv
 by_cases hlt : i < 9
 case neg =>
  have e0 : 9 - i = 0:=oM
  rw [e0] at he
  repeat' (first | refine jR ?_ | refine ad F (aF oM) ?_)
  refine jY (vs:=[_]) ?_
  rw [← he];rfl
 obtain ⟨j,hj⟩ : ∃ j,9 - i = j + 1:=⟨8 - i,oM⟩
 rw [hj,cr] at he
 by_cases hU : t.sort = 85
 case neg =>
  rw [if_pos hU] at he
  repeat' (first | refine jR ?_ | (refine jo ?_;refine jV (aj F F aS F F) ?_) | refine ac F (ax oM) ?_)
  refine jY (vs:=[_]) ?_
  rw [← he];rfl
 rw [if_neg (by simp [hU])] at he
 have hne:=hW.ne oM
 have h0 : 0 < t.fields.length:=List.length_pos_iff.2 hne
 obtain ⟨bf,of,cf,rfl,hsf⟩:=hfv.expl h0
 have hk0 : eS t = (ab t.fields 0).kind:=by
  unfold eS ab
  cases t.fields with
  | nil=>rfl
  | cons f r=>rfl
 have hko:=(hW.fld _ (bB h0)).kind oM
 have hrs:=zm hko
 have hhas : fh (al qs) (ab t.fields 0).kind = true:=by
  rcases hk _ hqm with h5 | h5
  ·dsimp only at h5;omega
  ·exact h5 0 h0
 rw [hk0] at he
 by_cases hs1 : sg (ab t.fields 0).kind = []
 case neg =>
  rw [if_neg fun h=>hs1 h.1] at hrs
  unfold a8 at he
  rw [hrs] at he
  repeat' (first | refine jR ?_ | (refine jo ?_;first | refine aB F ?_ | refine jV (aj F F aS F F) ?_ | (refine jV (f9 F F aS ?_ F F) ?_;focus omega) | refine jV (ak F F oM) ?_ | refine jL fun _=>?_ | refine jC F F F ?_ | refine aP F ?_) | refine aG F F (ax ‹_›) ?_ | (refine ac F (by first | rfl | (refine decide_eq_true ?_;(omega))) ?_) | refine ad F (aF oM) ?_)
  all_goals refine jY (vs:=[_]) ?_
  all_goals (rw [← he];rfl)
 by_cases hs2 : bs (ab t.fields 0).kind = [64]
 case neg =>
  rw [if_neg fun h=>hs2 h.2] at hrs
  unfold a8 at he
  rw [hrs] at he
  repeat' (first | refine jR ?_ | (refine jo ?_;first | refine aB F ?_ | refine jV (aj F F aS F F) ?_ | (refine jV (f9 F F aS ?_ F F) ?_;focus omega) | refine jV (ak F F oM) ?_ | refine jL fun _=>?_ | refine jC F F F ?_ | refine aE F ?_) | (refine aw F F ?_ ?_;(focus ((simp [*];done);done))) | (refine ac F (by refine decide_eq_true ?_;first | assumption | omega) ?_) | refine ad F (aF oM) ?_)
  all_goals refine jY (vs:=[_]) ?_
  all_goals (rw [← he];rfl)
 rw [if_pos ⟨hs1,hs2⟩] at hrs
 unfold a8 at he
 rw [hrs,Option.bind_some,← iR] at he
 have hkv:=fX qs (nm (ab t.fields 0).kind)
 have hr2 : cx (bU (ab t.fields 0).kind) = some (nm (ab t.fields 0).kind):=by
  have:=(nM hko).1 hs2
  unfold nm
  cases hx : cx (bU (ab t.fields 0).kind) with
  | none=>rw [hx] at this;cases this
  | some n=>rfl
 unfold fh at hhas
 rw [hr2] at hhas
 dsimp only at hhas
 rw [← iR] at hhas
 cases hf : fx qs (nm (ab t.fields 0).kind) with
 | none=>rw [hf] at hhas;cases hhas
 | some q =>
  rw [hf] at hkv he
  dsimp only [Option.map_some] at hkv he
  have hb1 : ¬ sg (ab t.fields 0).kind ≠ []:=fun h=>h hs1
  have hb2 : ¬ bs (ab t.fields 0).kind ≠ [64]:=fun h=>h hs2
  clear hs1 hs2 hrs hr2
  repeat' (first | refine jM ?_ | (refine jo ?_;first | refine aB F ?_ | refine jV (aj F F aS F F) ?_ | (refine jV (f9 F F aS ?_ F F) ?_;focus omega) | refine jV (ak F F oM) ?_ | refine jL fun _=>?_ | refine jC F F F ?_ | refine aE F ?_) | refine aw F F (aF ‹_›) ?_ | refine ac F (ax oM) ?_ | (refine ad F (by refine decide_eq_false ?_;first | assumption | omega) ?_) | (refine an (ao (id:=8) _ (fun _ h=>h) am ?_);refine jT 4 [0,1,2,4] (aa 8 23) ?_;(refine jG (aa 8 31) 3 F (aj F F aS F F) ?_);(refine jG (aa 8 63) 5 F (aX F F F) ?_);((refine jG (aa 8 127) 6 F (db F F (fW aS) aS F) ?_));refine jT 0 [7] (aa 8 255) ?_;refine jQ ?_))
  refine bm (q,i + 1) ⟨jk hf,by dsimp only;omega,?_⟩ (by dsimp only;omega) tU rfl (by repeat (exact List.nil_sublist _))
  dsimp only
  rw [show 9 - (i + 1) = j by omega]
  exact he
theorem wI {ts : List Ty} {n : adB} {t : Ty} (h : iw ts n = some t) : t ∈ ts:=List.mem_of_find?_eq_some h
theorem bj {ts : List Ty} {k : adB} {t : Ty} (h : a8 ts k = some t) : t ∈ ts:=by
 unfold a8 at h
 cases hr : cx k with
 | none=>rw [hr] at h;cases h
 | some n=>rw [hr] at h;exact wI h
theorem l7 (ts : List Ty) : ∀ (k : Nat) (t : Ty),cr ts k t = true → cr ts (k + 1) t = true
 | 0,t,h=>by cases h
 | k + 1,t,h=>by
  unfold cr at h ⊢
  split
  ·rfl
  ·rename_i hs
   rw [if_neg hs] at h
   cases hr : a8 ts (eS t) with
   | none=>rfl
   | some u=>rw [hr] at h;exact l7 ts k u h
def fG (ts : List Ty) (k : Nat) : Prop:=∀ t ∈ ts,cr ts (k + 1) t = cr ts k t
theorem nT {ts : List Ty} {k : Nat} (h : fG ts k) : fG ts (k + 1):=by
 intro t ht
 rw [cr,cr]
 split
 ·rfl
 ·cases hr : a8 ts (eS t) with
  | none=>rfl
  | some u=>exact h u (bj hr)
theorem pk {ts : List Ty} {k : Nat} (h : fG ts k) : ∀ (m : Nat) (t : Ty),t ∈ ts → cr ts (k + m) t = cr ts k t:=by
 have hs : ∀ m,fG ts (k + m):=fun m=>by
  induction m with
  | zero=>exact h
  | succ m ih=>exact nT ih
 intro m t ht
 induction m with
 | zero=>rfl
 | succ m ih=>rw [← ih];exact hs m t ht
theorem tB {α : Type} {p q : α → Bool} : ∀ {l : List α},(∀ x ∈ l,p x = true → q x = true) → (∃ x ∈ l,q x = true ∧ p x = false) → l.countP p < l.countP q
 | [],_,h=>by obtain ⟨x,hx,_⟩:=h;cases hx
 | a :: l,h1,h2=>by
  have hle : ∀ l : List α,(∀ x ∈ l,p x = true → q x = true) → l.countP p ≤ l.countP q:=fun l h=>List.countP_mono_left h
  rw [List.countP_cons,List.countP_cons]
  have h3:=hle l fun x hx=>h1 x (List.mem_cons_of_mem _ hx)
  obtain ⟨x,hx,h4,h5⟩:=h2
  rcases List.mem_cons.1 hx with rfl | hx
  ·simp [h4,h5];omega
  ·have h6:=tB (fun x hx=>h1 x (List.mem_cons_of_mem _ hx)) ⟨x,hx,h4,h5⟩
   by_cases hp : p a = true
   ·simp [hp,h1 a (List.mem_cons_self ..) hp];exact h6
   ·simp [hp];split <;> omega
theorem nN {ts : List Ty} {k : Nat} (h : ¬ fG ts k) : ts.countP (cr ts k) < ts.countP (cr ts (k + 1)):=by
 refine tB (fun x _=>l7 ts k x) ?_
 unfold fG at h
 simp only [Classical.not_forall] at h
 obtain ⟨t,ht,hne⟩:=h
 refine ⟨t,ht,?_⟩
 cases h1 : cr ts k t with
 | false =>
  refine ⟨?_,F⟩
  cases h2 : cr ts (k + 1) t with
  | false=>rw [h1,h2] at hne;exact absurd F hne
  | true=>rfl
 | true=>rw [l7 ts k t h1,h1] at hne;exact absurd F hne
theorem wo (ts : List Ty) (k : Nat) : fG ts k ∨ k + 1 ≤ ts.countP (cr ts (k + 1)):=by
 induction k with
 | zero =>
  by_cases h : fG ts 0
  ·exact .inl h
  ·have:=nN h;exact .inr oM
 | succ k ih =>
  by_cases h : fG ts (k + 1)
  ·exact .inl h
  ·have:=nN h
   rcases ih with h3 | h3
   ·exact absurd (nT h3) h
   ·exact .inr oM
theorem zR {ts : List Ty} {t : Ty} (hl : ts.length ≤ 8) (ht : t ∈ ts) : cr ts 9 t = cr ts (ts.length + 1) t:=by
 have hs : fG ts ts.length:=by
  rcases wo ts ts.length with h | h
  ·exact h
  ·have:=List.countP_le_length (p:=cr ts (ts.length + 1)) (l:=ts)
   omega
 have h1:=pk hs (9 - ts.length) t ht
 have h2:=pk hs 1 t ht
 rw [show ts.length + (9 - ts.length) = 9 by omega] at h1
 rw [h1,h2]
structure Rdg (s : adB) (ls : List adB) (ts : List Ty) (t : adB) : Prop where
 cutE : a9 10 s = ls ++ a9 10 t
 tyE : cH ls = some ts
theorem Rdg.start (s : adB) : Rdg s [] [] s:=⟨rfl,rfl⟩
theorem Rdg.len {s : adB} {ls : List adB} {ts : List Ty} {t : adB} (h : Rdg s ls ts t) : ts.length = ls.length:=(je h.tyE).2
theorem l8 {t line rest : adB} (h : aH 10 t = (line,rest,true)) : a9 10 t = line :: a9 10 rest:=by rw [ma,h];rfl
theorem Rdg.step {s : adB} {ls : List adB} {ts : List Ty} {t line rest : adB} {x : Ty} (h : Rdg s ls ts t) (hc : aH 10 t = (line,rest,true)) (hx : dB line = some x) : Rdg s (ls ++ [line]) (ts ++ [x]) rest :=
 ⟨by rw [h.cutE,l8 hc];simp,by rw [io h.tyE,hx];rfl⟩
theorem Rdg.fin {s : adB} {ls : List adB} {ts : List Ty} (h : Rdg s ls ts []) (hl : s.length ≤ 400) (h8 : ts.length ≤ 8) : bc s = if jn ts then some ts else none:=by
 have hlen:=h.len
 have e : a9 10 s = ls ++ [[]]:=h.cutE
 unfold bc
 rw [e,if_pos ⟨hl,by simp;omega,by simp⟩,List.dropLast_concat,h.tyE]
theorem vz {s : adB} (h : ¬ s.length ≤ 400) : bc s = none:=by
 unfold bc
 exact if_neg fun h2=>h h2.1
theorem Rdg.noend {s : adB} {ls : List adB} {ts : List Ty} {t : adB} (h : Rdg s ls ts t) (ht : t ≠ []) (hc : (aH 10 t).2.2 = false) : bc s = none:=by
 have e : a9 10 s = ls ++ [t]:=by rw [h.cutE,ma,hc];rfl
 unfold bc
 rw [e,if_neg]
 rintro ⟨_,_,h3⟩
 simp at h3
 exact ht h3
theorem Rdg.many {s : adB} {ls : List adB} {ts : List Ty} {t line rest : adB} (h : Rdg s ls ts t) (hc : aH 10 t = (line,rest,true)) (h8 : ts.length = 8) : bc s = none:=by
 have hlen:=h.len
 have hp:=eB (k:=10) (s:=rest)
 unfold bc
 rw [h.cutE,l8 hc,if_neg]
 rintro ⟨_,h3,_⟩
 simp at h3
 omega
theorem rC {ls : List adB} {line rest : adB} : (ls ++ line :: a9 10 rest).dropLast = (ls ++ [line]) ++ (a9 10 rest).dropLast:=by
 have hp:=eB (k:=10) (s:=rest)
 have hne : a9 10 rest ≠ []:=fun e=>by rw [e] at hp;simp at hp
 rw [List.dropLast_append_of_ne_nil (by simp),List.dropLast_cons_of_ne_nil hne];simp
theorem Rdg.bad {s : adB} {ls : List adB} {ts : List Ty} {t line rest : adB} (h : Rdg s ls ts t) (hc : aH 10 t = (line,rest,true)) (hx : dB line = none) : bc s = none:=by
 have hn : cH (ls ++ [line]) = none:=by rw [io h.tyE,hx];rfl
 unfold bc
 split
 ·rw [h.cutE,l8 hc,rC,gW hn]
 ·rfl
theorem nO : ∀ {xs ys : List adB} {ts us : List Ty},cH xs = some ts → cH (xs ++ ys) = some us → ∃ vs,us = ts ++ vs
 | [],ys,ts,us,h,h2=>by simp only [cH,Option.some.injEq] at h;subst h;exact ⟨us,F⟩
 | x :: xs,ys,ts,us,h,h2=>by
  unfold cH at h
  rw [List.cons_append,cH] at h2
  cases hx : dB x with
  | none=>rw [hx] at h;cases h
  | some t =>
   rw [hx] at h h2
   dsimp only at h h2
   cases hr : cH xs with
   | none=>rw [hr] at h;cases h
   | some ws =>
    rw [hr] at h
    simp only [Option.map_some,Option.some.injEq] at h;subst h
    cases hq : cH (xs ++ ys) with
    | none=>rw [hq] at h2;cases h2
    | some zs =>
     rw [hq] at h2
     simp only [Option.map_some,Option.some.injEq] at h2;subst h2
     obtain ⟨vs,rfl⟩:=nO hr hq
     exact ⟨vs,F⟩
theorem j5 {α : Type} [Inhabited α] {xs ys : List α} {i : Nat} (h : i < xs.length) : ab (xs ++ ys) i = ab xs i:=by
 rw [aI h,aI (by simp;omega),List.getElem_append_left h]
theorem Rdg.dup {s : adB} {ls : List adB} {ts : List Ty} {t line rest : adB} {x : Ty} (h : Rdg s ls ts t) (hc : aH 10 t = (line,rest,true)) (hx : dB line = some x) (i : Nat) (hi : i < ts.length) (hd : (ab ts i).name = x.name) : bc s = none:=by
 have h2:=h.step hc hx
 unfold bc
 split
 ·rw [h.cutE,l8 hc,rC]
  cases hr : cH (ls ++ [line] ++ (a9 10 rest).dropLast) with
  | none=>rfl
  | some us =>
   obtain ⟨vs,rfl⟩:=nO h2.tyE hr
   dsimp only
   rw [if_neg]
   intro hv
   have h3:=(hv.1 ts.length (by simp)).1 i hi
   have e1 : ab (ts ++ [x] ++ vs) i = ab ts i:=by rw [j5 (by simp;omega),j5 hi]
   have e2 : ab (ts ++ [x] ++ vs) ts.length = x:=by rw [j5 (by simp),aI (by simp)];simp
   rw [e1,e2] at h3
   exact h3 hd
 ·rfl
abbrev tPT : TypeId:=110
abbrev tSc : TypeId:=114
def ab3 (s : adB) (v : Value) (G : Gh) : Prop:=(bc s = none ∧ ∃ p,v = Tu [p,Bo false]) ∨ ∃ b qs,v = Tu [Pt b 0,Bo true] ∧ bc s = some (al qs) ∧ ScI G b qs
theorem gf (qs : List c6) : (al qs).length = qs.length:=by simp [al]
theorem lg {qs : List c6} {i : Nat} (h : i < qs.length) : ab (al qs) i = (ab qs i).2:=by
 rw [aI h,aI (by rw [gf];exact h)];simp [al]
theorem vO {qs : List c6} {n : adB} {q : c6} (h : fx qs n = some q) : ∃ i,i < (al qs).length ∧ (ab (al qs) i).name = n:=by
 have h1:=jk h
 have h2 : n = q.2.name:=by unfold fx at h;simpa using List.find?_some h
 obtain ⟨i,hi,rfl⟩:=nH h1
 exact ⟨i,by rw [gf];exact hi,by rw [lg hi,h2]⟩
theorem vP {qs : List c6} {n : adB} (h : fx qs n = none) : ∀ i,i < qs.length → (ab (al qs) i).name ≠ n:=by
 intro i hi e
 unfold fx at h
 rw [List.find?_eq_none] at h
 have:=h _ (bB hi)
 rw [lg hi] at e
 simp [e] at this
theorem nn {s : adB} (h : s.length ≤ 10000000) : bG adA 87 [S s] G (ab3 s):=by
 by_cases hl : s.length ≤ 400
 case neg =>
  have hno:=vz hl
  refine jB [(0,_)] Tryz.func87 Tryz.ntmps87 fun B hok hB hW=>?_
  repeat' (first | refine jR ?_ | refine ac F (ax oM) ?_)
  all_goals refine jZ (vs:=[_,_]) F ⟨F,F,trivial⟩ F ⟨Gh.le.refl _,F,?_⟩
  all_goals exact .inl ⟨hno,_,F⟩
 refine jB [(0,_)] Tryz.func87 Tryz.ntmps87 fun B hok hB hW=>?_
 repeat' (first | refine jR ?_ | (refine jo ?_;first | refine acJ F fun _=>?_ | refine jV (ay F F) ?_ | refine jO fun _=>?_) | refine ad F (aF oM) ?_)
 rename_i m x
 refine Nx.addNil tPT 1 ?_
 refine aV (ι:=Value × List c6 × List adB × adB × Gh) (fun i=>Rdg s i.2.2.1 (al i.2.1) i.2.2.2.1 ∧ (i.2.1.length ≤ 8 ∧ i.2.2.2.1.length ≤ s.length) ∧ (∀ a,a < i.2.1.length → ly (al i.2.1) a) ∧ (∀ q ∈ i.2.1,oh i.2.2.2.2 q.1 q.2) ∧ Gh.le G i.2.2.2.2) (fun i=>[(0,S i.2.2.2.1),(4,Pt x 0)]) (fun i=>i.2.2.2.2) (fun i=>[.acc i.1 tPT 1 i.2.1.length (ah uG i.2.1),.blk x (.cells [i.1,.map (some m)].toArray tSc (0,0)),.blk m (fH (lT i.2.1))]) (fun i=>i.2.2.2.1.length) (aK,[],[],s,G) ?_ tU F a7 (fun i Hi=>?_)
 ·exact ⟨Rdg.start s,⟨by simp,Nat.le_refl _⟩,fun a ha=>absurd ha (by simp),by simp,Gh.le.refl _⟩
 obtain ⟨u,qs,ls,t,Gk⟩:=i
 dsimp only at Hi ⊢
 obtain ⟨hR,⟨h8,htl⟩,hna,hti,hgk⟩:=Hi
 refine Nx.shp (v:=u) (.head _) fun hsh=>?_
 have hsh2:=hsh
 obtain ⟨au,cu,rfl⟩:=hsh.sl
 by_cases ht : t = []
 case neg =>
  have cx_cut : ∀ G,aZ adA 130 [S t,S [10]] G (· = Tu [S (aH 10 t).1,S (aH 10 t).2.1,Bo (aH 10 t).2.2]):=fun G=>qc (c:=10) oM
  have hcl:=kx (k:=10) (s:=t)
  cases hc : (aH 10 t).2.2 with
  | false =>
   have hno:=hR.noend ht hc
   have hc2 : (!(aH 10 t).2.2) = true:=by rw [hc];rfl
   repeat' (first | refine jR ?_ | (refine jo ?_;first | refine aP F ?_ | refine ae F F F (cx_cut _) F ?_) | refine aG F F ‹_› ?_ | (refine ac F (by first | rfl | (refine decide_eq_true ?_;(assumption))) ?_))
   all_goals refine jZ (vs:=[_,_]) F ⟨F,F,trivial⟩ F ⟨hgk,F,?_⟩
   all_goals exact .inl ⟨hno,_,F⟩
  | true =>
   have hce : aH 10 t = ((aH 10 t).1,(aH 10 t).2.1,true):=by rw [← hc]
   have hlt : (aH 10 t).2.1.length < t.length:=by
    obtain ⟨d,_,e⟩:=ij hce
    have:=congrArg List.length e
    simp at this;omega
   rw [hc] at cx_cut
   generalize (aH 10 t).1 = line at *
   generalize (aH 10 t).2.1 = rest at *
   clear hc
   by_cases h9 : qs.length = 8
   ·have hno:=hR.many hce (by rw [gf];exact h9)
    repeat' (first | refine jR ?_ | (refine jo ?_;first | refine aB F ?_ | refine jV (af F) ?_ | refine aE F ?_ | refine ae F F F (cx_cut _) F ?_) | refine aw F F F ?_ | (refine ac F (by refine decide_eq_true ?_;first | assumption | omega) ?_))
    all_goals refine jZ (vs:=[_,_]) F ⟨F,F,trivial⟩ F ⟨hgk,F,?_⟩
    all_goals exact .inl ⟨hno,_,F⟩
   have hle1 : line.length ≤ 1000:=oM
   cases hty : dB line with
   | none =>
    have hno:=hR.bad hce hty
    have cx_rt0 : ∀ G,bG adA 131 [S line] G (fun v _=>∃ p,v = Tu [p,Bo false]):=fun G=>by
     refine (pX (G:=G) hle1).mono ?_
     rintro v G' L' ⟨h1,h2,⟨_,p,rfl⟩ | ⟨_,_,_,h4,_⟩⟩
     ·exact ⟨h1,h2,p,F⟩
     ·rw [hty] at h4;cases h4
    repeat' (first | refine jR ?_ | (refine jo ?_;first | refine aB F ?_ | refine jV (af F) ?_ | refine aE F ?_ | refine ae F F F (cx_cut _) F ?_ | (refine ar F F F (cx_rt0 _) F ?_;rintro _ G hle ⟨p,rfl⟩;skip)) | refine aw F F F ?_ | (refine ac F (by first | rfl | (refine decide_eq_true ?_;(assumption))) ?_) | refine ad F (aF oM) ?_ | (refine an (ao (id:=9) _ (fun _ h=>h) am ?_);refine jT 11 [0,1,2] (aa 14 7) ?_;(try (refine Nx.re (d:=47) (v':=Bo true) F (congrArg Value.bool F) ?_));refine jT 5 [3,4,5,7,8,9] (aa 14 959) ?_;(refine jN (aa 14 1023) 6 F ?_);(refine jN (aa 14 2047) 10 F ?_);(refine jN (aa 14 4095) 11 F ?_);(refine jN (aa 14 8191) 12 F ?_);(refine jG (aa 14 16383) 13 F (bO F F F) ?_);refine jQ ?_))
    all_goals refine jZ (vs:=[_,_]) F ⟨F,F,trivial⟩ F ⟨hgk.trans hle,F,?_⟩
    all_goals exact .inl ⟨hno,_,F⟩
   | some ty =>
   have cx_rt1 : ∀ G,bG adA 131 [S line] G (fun v G'=>∃ b fv ln,v = Tu [Pt b 0,Bo true] ∧ bT G' b 0 [U8 ty.sort,S ty.name,fv,S ln] ∧ aT G' fv 6 ty.fields.length (ah gx ty.fields)):=fun G=>by
    refine (pX (G:=G) hle1).mono ?_
    rintro v G' L' ⟨h1,h2,⟨h4,_⟩ | ⟨b,t2,rfl,h4,fv,ln,h5,h6⟩⟩
    ·rw [hty] at h4;cases h4
    ·rw [hty] at h4;simp only [Option.some.injEq] at h4;subst h4
     exact ⟨h1,h2,b,fv,ln,F,h5,h6⟩
   have hkv:=fX qs ty.name
   cases hf : fx qs ty.name with
   | some q =>
    rw [hf] at hkv
    dsimp only [Option.map_some] at hkv
    obtain ⟨i,hi,hn⟩:=vO hf
    have hno:=hR.dup hce hty i hi hn
    repeat' (first | refine jR ?_ | (refine jo ?_;first | refine aB F ?_ | refine jV (af F) ?_ | refine aE F ?_ | refine ae F F F (cx_cut _) F ?_ | (refine ar F F F (cx_rt1 _) F ?_;rintro _ G hle ⟨b,fv,ln,rfl,hsg,hfv⟩;skip)) | refine aw F F F ?_ | (refine ac F (by first | rfl | (refine decide_eq_true ?_;(assumption))) ?_) | refine ad F (aF oM) ?_ | (refine an (ao (id:=9) _ (fun _ h=>h) am ?_);refine jT 11 [0,1,2] (aa 14 7) ?_;(try (refine Nx.re (d:=47) (v':=Bo false) F (congrArg Value.bool F) ?_));refine jT 5 [3,4,5,7,8,9] (aa 14 959) ?_;(refine jG (aa 14 1023) 6 F (aX F F F) ?_);(refine jG (aa 14 2047) 10 F (aj F F aS F F) ?_);(refine jG (aa 14 4095) 11 F (db F F (uK MapI.mem) aS F) ?_);(refine jG (aa 14 8191) 12 F (iv F F) ?_);(refine jG (aa 14 16383) 13 F (bn F F F) ?_);refine jQ ?_))
    all_goals refine jZ (vs:=[_,_]) F ⟨F,F,trivial⟩ F ⟨hgk.trans hle,F,?_⟩
    all_goals exact .inl ⟨hno,_,F⟩
   | none =>
    rw [hf] at hkv
    dsimp only [Option.map_none] at hkv
    repeat' (first | refine jR ?_ | (refine jo ?_;first | refine aB F ?_ | refine jV (af F) ?_ | refine aE F ?_ | refine ae F F F (cx_cut _) F ?_ | (refine ar F F F (cx_rt1 _) F ?_;rintro _ G hle ⟨b,fv,ln,rfl,hsg,hfv⟩;skip)) | refine aw F F F ?_ | refine ac F (ax ‹_›) ?_ | refine ad F (aF oM) ?_)
    (refine an (ao (id:=9) _ (fun _ h=>h) am ?_);refine jT 11 [0,1,2] (aa 14 7) ?_;(try (refine Nx.re (d:=47) (v':=Bo false) F (congrArg Value.bool F) ?_));refine jT 5 [3,4,5,7,8,9] (aa 14 959) ?_;(refine jG (aa 14 1023) 6 F (aX F F F) ?_);(refine jG (aa 14 2047) 10 F (aj F F aS F F) ?_);(refine jG (aa 14 4095) 11 F (db F F (uK MapI.mem) aS F) ?_);(refine jG (aa 14 8191) 12 F (iv F F) ?_);(refine jG (aa 14 16383) 13 F (bn F F F) ?_);refine jQ ?_)
    repeat' (first | refine jR ?_ | (refine jo ?_;first | refine aB F ?_ | refine jF fun _=>?_ | refine bC F F F F F F F F F oM fun _ _=>?_ | refine jD F F F ?_) | refine ad F F ?_)
    rename_i w b2 c2
    (refine an (ao (id:=12) [.blk x (.cells [.slice (some ⟨b2,0,none⟩) (qs.length + 1) c2,.map (some m)].toArray tSc (0,0))] (by intro y hy;simp only [List.mem_cons,List.not_mem_nil,or_false] at hy ⊢;simp [hy]) am ?_);refine jW 3 [0,1,2,4,5,6,8] (aa 10 375) ?_;(refine jG (aa 10 383) 3 F (aX F F F) ?_);(refine jG (aa 10 511) 7 F (aj F F aS F F) ?_);refine jA 9 F ?_;(refine acH F F F F ‹_› ?_);refine jS (aa 10 1023) ?_;refine jQ ?_)
    repeat' (refine jR ?_)
    have e1 : lT qs ++ [(ty.name,Pt b 0)] = lT (qs ++ [(b,ty)]):=by simp [lT]
    have e2 : ah uG qs ++ [Pt b 0] = ah uG (qs ++ [(b,ty)]):=(bW uG qs (b,ty)).symm
    have e3 : al (qs ++ [(b,ty)]) = al qs ++ [ty]:=by simp [al]
    rw [e1,e2]
    refine bm (.slice (some ⟨b2,0,none⟩) (qs.length + 1) c2,qs ++ [(b,ty)],ls ++ [line],rest,G) ⟨?_,⟨by simp;omega,by dsimp only;omega⟩,?_,?_,hgk.trans hle⟩ (by dsimp only;omega) tU rfl (by dsimp only;simp only [List.length_append,List.length_cons,List.length_nil,Nat.zero_add];repeat (first | exact List.Sublist.refl _ | apply List.Sublist.cons_cons | apply List.Sublist.cons))
    ·dsimp only;rw [e3];exact hR.step hce hty
    ·intro a ha k hk
     dsimp only at ha ⊢
     rw [e3]
     have hlen:=gf qs
     have hal : a < qs.length + 1:=by simpa using ha
     rcases Nat.lt_or_ge a qs.length with h3 | h3
     ·rw [j5 oM,j5 oM];exact hna a h3 k hk
     ·have ea : a = qs.length:=oM
      have e4 : ab (al qs ++ [ty]) a = ty:=by rw [aI (by simp;omega),List.getElem_append_right oM];simp
      rw [j5 oM,e4]
      exact vP hf k oM
    ·intro q hq
     dsimp only at hq ⊢
     rcases List.mem_append.1 hq with hq | hq
     ·exact (hti q hq).mono hle
     ·simp only [List.mem_singleton] at hq;subst hq;exact ⟨fv,ln,hsg,hfv⟩
 ·subst ht
  have hfin:=hR.fin hl (by rw [gf];exact h8)
  have hw : ∀ q ∈ qs,TyW q.2:=fun q hq=>(je hR.tyE).1 q.2 (show q.2 ∈ qs.map (fun y=>y.2) from List.mem_map_of_mem hq)
  refine Nx.sealS (v:=.slice au qs.length cu) fun G1 hl1 hsl=>?_
  refine Nx.sealC (b:=x) fun G2 hl2 hsx=>?_
  refine Nx.sealM (b:=m) fun G3 hl3 hmm=>?_
  have hS : ScI G3 x qs:=⟨⟨_,m,hsx.mono hl3,hsl.mono (hl2.trans hl3),hmm⟩,fun q hq=>(hti q hq).mono ((hl1.trans hl2).trans hl3)⟩
  have hgl : Gh.le G G3:=((hgk.trans hl1).trans hl2).trans hl3
  have hsx3:=hsx.mono hl3
  have hsl3:=hsl.mono (hl2.trans hl3)
  repeat' (first | refine jR ?_ | (refine jo ?_;first | refine jV (aj F F aS F F) ?_ | refine jV (af F) ?_) | refine ad F F ?_)
  refine aV (ι:=Nat) (fun k=>k ≤ qs.length ∧ ∀ j,j < k → iX (al qs) (ab qs j).2) (fun k=>[(4,Pt x 0),(82,.slice au qs.length cu),(83,I qs.length),(84,I k)]) (fun k=>G3) (fun k=>[]) (fun k=>qs.length - k) 0 ?_ tU F a7 (fun k Hk=>?_)
  ·exact ⟨Nat.zero_le _,fun j hj=>absurd hj oM⟩
  by_cases hk : k < qs.length
  case neg =>
   have hko : ∀ q ∈ qs,iX (al qs) q.2:=fun q hq=>by
    obtain ⟨j,hj,rfl⟩:=nH hq
    exact Hk.2 j oM
   repeat' (first | refine jR ?_ | (refine jo ?_;first | refine jV (aj F F aS F F) ?_ | refine jV (af F) ?_) | refine ad F (aF oM) ?_)
   refine aV (ι:=Nat) (fun k=>k ≤ qs.length ∧ ∀ j,j < k → cr (al qs) 9 (ab qs j).2 = true) (fun k=>[(4,Pt x 0),(114,.slice au qs.length cu),(115,I qs.length),(116,I k)]) (fun k=>G3) (fun k=>[]) (fun k=>qs.length - k) 0 ?_ tU F a7 (fun k Hk=>?_)
   ·exact ⟨Nat.zero_le _,fun j hj=>absurd hj oM⟩
   have hends : ∀ j,j < qs.length → cr (al qs) 9 (ab qs j).2 = cr (al qs) ((al qs).length + 1) (ab (al qs) j):=fun j hj=>by
    rw [lg hj]
    exact zR (by rw [gf];exact h8) (show (ab qs j).2 ∈ qs.map (fun y=>y.2) from List.mem_map_of_mem (bB hj))
   by_cases hk2 : k < qs.length
   case neg =>
    have hv : jn (al qs):=by
     refine ⟨fun j hj=>?_,fun j hj=>?_⟩
     ·rw [gf] at hj
      exact ⟨hna j hj,by rw [lg hj];exact hko _ (bB hj)⟩
     ·rw [gf] at hj
      rw [← hends j hj];exact Hk.2 j oM
    repeat' (first | refine jR ?_ | refine ad F (aF oM) ?_)
    all_goals refine jZ (vs:=[_,_]) F ⟨F,F,trivial⟩ F ⟨hgl,F,?_⟩
    all_goals exact .inr ⟨x,qs,F,by rw [hfin,if_pos hv],hS⟩
   obtain ⟨ba,oa,ca,ea,hsa⟩:=hsl3.expl oM
   simp only [Value.slice.injEq] at ea
   obtain ⟨rfl,-,rfl⟩:=ea
   rcases hq : ab qs k with ⟨p,ty⟩
   have hqm : (p,ty) ∈ qs:=by rw [← hq];exact bB hk2
   have cx_en2:=aan hS hw hko hqm
   have hek:=hends k hk2
   rw [hq] at hek
   dsimp only at hek
   by_cases he : cr (al qs) 9 ty = true
   ·have he2 : (!cr (al qs) 9 ty) = false:=by rw [he];rfl
    repeat' (first | refine jM ?_ | (refine jo ?_;first | (refine jV (cm F F aS ?_ aS F) ?_;focus omega) | refine jV (ak F F oM) ?_ | refine ae F F F cx_en2 F ?_) | refine ac F (ax oM) ?_ | refine ad F ‹_› ?_)
    refine bm (k + 1) ⟨oM,fun j hj=>?_⟩ oM tU F a7
    rcases Nat.lt_or_ge j k with h3 | h3
    ·exact Hk.2 j h3
    ·have : j = k:=oM
     subst this;rw [hq];exact he
   ·have he2 : (!cr (al qs) 9 ty) = true:=by simpa using he
    have hno : bc s = none:=by
     rw [hfin,if_neg]
     intro hv
     have:=hv.2 k (by rw [gf];exact hk2)
     rw [← hek] at this
     exact he this
    repeat' (first | refine jR ?_ | (refine jo ?_;first | (refine jV (cm F F aS ?_ aS F) ?_;focus omega) | refine jV (ak F F oM) ?_ | refine ae F F F cx_en2 F ?_) | (refine ac F (by first | assumption | (refine decide_eq_true ?_;(omega))) ?_))
    all_goals refine jZ (vs:=[_,_]) F ⟨F,F,trivial⟩ F ⟨hgl,F,?_⟩
    all_goals exact .inl ⟨hno,_,F⟩
  obtain ⟨ba,oa,ca,ea,hsa⟩:=hsl3.expl oM
  simp only [Value.slice.injEq] at ea
  obtain ⟨rfl,-,rfl⟩:=ea
  rcases hq : ab qs k with ⟨p,ty⟩
  have hqm : (p,ty) ∈ qs:=by rw [← hq];exact bB hk
  obtain ⟨fv,ln,hsg,hfv⟩:=hS.ty _ hqm
  dsimp only at hsg hfv
  have hW:=hw _ hqm
  dsimp only at hW
  have h88:=hW.len
  repeat' (first | refine jR ?_ | (refine jo ?_;first | refine jV (aj F F aS F F) ?_ | (refine jV (cm F F aS ?_ aS F) ?_;focus omega) | refine jV (eY F aS) ?_ | refine jV (ak F F oM) ?_) | refine ac F (ax oM) ?_)
  refine aV (ι:=Nat) (fun l=>l ≤ ty.fields.length ∧ (ty.sort = 69 ∨ ∀ j,j < l → fh (al qs) (ab ty.fields j).kind = true)) (fun l=>[(4,Pt x 0),(11,Pt p 0),(82,.slice (some ⟨ba,oa,none⟩) qs.length cu),(83,I qs.length),(84,I k),(91,fv),(92,I ty.fields.length),(93,I l)]) (fun l=>G3) (fun l=>[]) (fun l=>ty.fields.length - l) 0 ?_ tU F a7 (fun l Hl=>?_)
  ·exact ⟨Nat.zero_le _,.inr fun j hj=>absurd hj oM⟩
  by_cases hl2 : l < ty.fields.length
  case neg =>
   repeat' (first | refine jM ?_ | refine ad F (aF oM) ?_)
   refine bm (k + 1) ⟨oM,fun j hj=>?_⟩ oM tU F a7
   rcases Nat.lt_or_ge j k with h3 | h3
   ·exact Hk.2 j h3
   ·have : j = k:=oM
    subst this
    rw [hq]
    rcases Hl.2 with h5 | h5
    ·exact .inl h5
    ·exact .inr fun j2 hj2=>h5 j2 (by dsimp only at hj2;omega)
  obtain ⟨bf,of,cf,rfl,hsf⟩:=hfv.expl oM
  by_cases h69 : ty.sort = 69
  ·repeat' (first | refine jM ?_ | (refine jo ?_;first | (refine jV (dM F F aS ?_) ?_;focus omega) | refine jV (aj F F aS F F) ?_ | refine aE F ?_ | refine jC F F F ?_ | refine jV (ak F F oM) ?_ | refine jL fun _=>?_) | refine aw F F (aF oM) ?_ | refine ac F (ax oM) ?_ | refine ad F F ?_)
   refine bm (l + 1) ⟨oM,.inl h69⟩ oM tU F (by repeat (exact List.nil_sublist _))
  have hko1:=(hW.fld _ (bB hl2)).kind h69
  have cx_has:=vZ hS hko1
  by_cases hh : fh (al qs) (ab ty.fields l).kind = true
  ·have hh2 : (!fh (al qs) (ab ty.fields l).kind) = false:=by rw [hh];rfl
   repeat' (first | refine jM ?_ | (refine jo ?_;first | (refine jV (dM F F aS ?_) ?_;focus omega) | refine bM F ?_ | refine jV (aj F F aS F F) ?_ | refine aP F ?_ | refine jC F F F ?_ | refine jV (ak F F oM) ?_ | refine jL fun _=>?_ | refine ae F F F cx_has F ?_) | refine aG F F (ax oM) ?_ | refine ac F (ax oM) ?_ | refine ad F ‹_› ?_)
   refine bm (l + 1) ⟨oM,.inr fun j hj=>?_⟩ oM tU F (by repeat (exact List.nil_sublist _))
   rcases Nat.lt_or_ge j l with h3 | h3
   ·rcases Hl.2 with h5 | h5
    ·exact absurd h5 h69
    ·exact h5 j h3
   ·have : j = l:=oM
    subst this;exact hh
  ·have hh2 : (!fh (al qs) (ab ty.fields l).kind) = true:=by simpa using hh
   have hno : bc s = none:=by
    rw [hfin,if_neg]
    intro hv
    have h5:=(hv.1 k (by rw [gf];exact hk)).2
    rw [lg hk,hq] at h5
    rcases h5 with h6 | h6
    ·exact h69 h6
    ·exact hh (h6 l hl2)
   repeat' (first | refine jR ?_ | (refine jo ?_;first | (refine jV (dM F F aS ?_) ?_;focus omega) | refine bM F ?_ | refine jV (aj F F aS F F) ?_ | refine aP F ?_ | refine jC F F F ?_ | refine jV (ak F F oM) ?_ | refine jL fun _=>?_ | refine ae F F F cx_has F ?_) | refine aG F F (ax oM) ?_ | (refine ac F (by first | assumption | (refine decide_eq_true ?_;(omega))) ?_))
   all_goals refine jZ (vs:=[_,_]) F ⟨F,F,trivial⟩ F ⟨hgl,F,?_⟩
   all_goals exact .inl ⟨hno,_,F⟩
def yw (s k : adB) (v : Value) (G : Gh) : Prop:=(dA s k = false ∧ ∃ p a b c,v = Tu [p,Ag [S a,S b,S c],Bo false]) ∨ ∃ b qs,v = Tu [Pt b 0,Ag (cR k),Bo true] ∧ bc s = some (al qs) ∧ aA (al qs) k = true ∧ ScI G b qs
theorem tT {s k : adB} (h : s.length ≤ 10000000) (hk : k.length ≤ 2000000) : bG adA 45 [S s,S k] G (yw s k):=by
 cases hs : bc s with
 | none =>
  have hno : dA s k = false:=by unfold dA;rw [hs]
  have cx_rs0 : ∀ G,bG adA 87 [S s] G (fun v _=>∃ p,v = Tu [p,Bo false]):=fun G=>by
   refine (nn (G:=G) h).mono ?_
   rintro v G' L' ⟨h1,h2,⟨_,p,rfl⟩ | ⟨_,_,_,h4,_⟩⟩
   ·exact ⟨h1,h2,p,F⟩
   ·rw [hs] at h4;cases h4
  refine jB [(0,_),(1,_)] Tryz.func45 Tryz.ntmps45 fun B hok hB hW=>?_
  repeat' (first | refine jR ?_ | (refine jo ?_;first | refine jL fun _=>?_ | refine jV (ay F F) ?_ | refine jC F F F ?_ | (refine ar F F F (cx_rs0 _) F ?_;rintro _ G hle ⟨p,rfl⟩;skip)) | refine ac F F ?_)
  all_goals refine jZ (vs:=[_,_,_]) F ⟨F,aJ F F F F,F,trivial⟩ F ⟨hle,F,?_⟩
  all_goals exact .inl ⟨hno,_,[],[],[],F⟩
 | some ts =>
  have cx_rs1 : ∀ G,bG adA 87 [S s] G (fun v G'=>∃ b qs,v = Tu [Pt b 0,Bo true] ∧ al qs = ts ∧ ScI G' b qs):=fun G=>by
   refine (nn (G:=G) h).mono ?_
   rintro v G' L' ⟨h1,h2,⟨h4,_⟩ | ⟨b,qs,rfl,h4,h5⟩⟩
   ·rw [hs] at h4;cases h4
   ·rw [hs] at h4;simp only [Option.some.injEq] at h4;exact ⟨h1,h2,b,qs,F,h4.symm,h5⟩
  by_cases hko : bZ k = true
  case neg =>
   have hkc2 : bZ k = false:=by simpa using hko
   have hno : dA s k = false:=by unfold dA aA;rw [hs];simp [hkc2]
   have cx_kn : ∀ G,aZ adA 88 [S k] G (fun v=>∃ x y z,v = Tu [Ag [S x,S y,S z],Bo false]):=fun G=>by
    refine (mj (G:=G) (s:=k) oM).mono ?_
    rintro v G' L' ⟨h1,h2,x,y,z,rfl,_⟩
    exact ⟨h1,h2,x,y,z,by rw [hkc2]⟩
   refine jB [(0,_),(1,_)] Tryz.func45 Tryz.ntmps45 fun B hok hB hW=>?_
   repeat' (first | refine jR ?_ | (refine jo ?_;first | refine jL fun _=>?_ | refine jC F F F ?_ | (refine ar F F F (cx_rs1 _) F ?_;rintro _ G hle ⟨b,qs,rfl,hqs,hS⟩;skip) | (refine ep F F F (cx_kn _) F ?_;rintro _ ⟨x,y,z,rfl⟩)) | refine ad F F ?_ | (refine an (ec (id:=5) (tt:=5) F am ?_);refine jW 8 [0,2,3] (aa 11 13) ?_;(try (refine Nx.re (d:=26) (v':=Bo false) F (congrArg Value.bool F) ?_));refine jW 7 [4] (aa 11 29) ?_;(refine jG (aa 11 31) 1 F (bP F F F F) ?_);(refine jN (aa 11 63) 5 F ?_);(refine jN (aa 11 127) 6 F ?_);refine jW 3 [8] (aa 11 383) ?_;((refine jG (aa 11 511) 7 F (bn F F ?_) ?_;(focus ((rfl);done))));refine jA 9 F ?_;(refine jC F F F ?_);refine jK (aa 11 1023) ?_;refine jW 0 [10] (aa 11 2047) ?_;refine jQ ?_))
   all_goals refine jZ (vs:=[_,_,_]) F ⟨F,aJ F F F F,F,trivial⟩ F ⟨hle,F,?_⟩
   all_goals exact .inl ⟨hno,_,_,_,_,F⟩
  have cx_kq : ∀ G,aZ adA 88 [S k] G (· = Tu [Ag [S (sg k),S (bs k),S (nm k)],Bo true]):=fun G=>u9 oM hko
  have hkk : cR k = [S (sg k),S (bs k),S (nm k)]:=rfl
  by_cases hH : fh ts k = true
  case pos =>
   have cx_hy : ∀ G b qs,al qs = ts → ScI G b qs → aZ adA 89 [Pt b 0,Ag [S (sg k),S (bs k),S (nm k)]] G (· = Bo true):=by
    intro G b qs hq hS
    refine (vZ hS hko).mono ?_
    rintro v G' L' ⟨h1,h2,rfl⟩
    exact ⟨h1,h2,by rw [hq,hH]⟩
   refine jB [(0,_),(1,_)] Tryz.func45 Tryz.ntmps45 fun B hok hB hW=>?_
   repeat' (first | refine jR ?_ | (refine jo ?_;first | refine jL fun _=>?_ | refine jC F F F ?_ | (refine ar F F F (cx_rs1 _) F ?_;rintro _ G hle ⟨b,qs,rfl,hqs,hS⟩;skip) | refine ae F F F (cx_kq _) F ?_) | refine ad F F ?_ | (refine an (ec (id:=5) (tt:=5) F am ?_);refine jW 8 [0,2,3] (aa 11 13) ?_;(try (refine Nx.re (d:=26) (v':=Bo true) F (congrArg Value.bool F) ?_));refine jW 7 [4] (aa 11 29) ?_;(refine jG (aa 11 31) 1 F (bP F F F F) ?_);(refine jG (aa 11 63) 5 F (bP F F F F) ?_);((refine jA 6 F ?_;((refine ae F F F ((cx_hy _ _ _) (by (repeat (assumption));done) (by (repeat (assumption));done)) rfl ?_));refine jK (aa 11 127) ?_));refine jW 3 [8] (aa 11 383) ?_;((refine jG (aa 11 511) 7 F (bO F F ?_) ?_;(focus ((rfl);done))));refine jA 9 F ?_;(refine jC F F F ?_);refine jK (aa 11 1023) ?_;refine jW 0 [10] (aa 11 2047) ?_;refine jQ ?_))
   all_goals refine jZ (vs:=[_,_,_]) F ⟨F,aJ F F F F,F,trivial⟩ F ⟨hle,F,?_⟩
   all_goals exact .inr ⟨b,qs,F,by rw [hs,hqs],by simp [aA,hqs,hko,hH],hS⟩
  case neg =>
   have hH2 : fh ts k = false:=by simpa using hH
   have hno : dA s k = false:=by unfold dA aA;rw [hs];simp [hH2]
   have cx_hn : ∀ G b qs,al qs = ts → ScI G b qs → aZ adA 89 [Pt b 0,Ag [S (sg k),S (bs k),S (nm k)]] G (· = Bo false):=by
    intro G b qs hq hS
    refine (vZ hS hko).mono ?_
    rintro v G' L' ⟨h1,h2,rfl⟩
    exact ⟨h1,h2,by rw [hq,hH2]⟩
   refine jB [(0,_),(1,_)] Tryz.func45 Tryz.ntmps45 fun B hok hB hW=>?_
   repeat' (first | refine jR ?_ | (refine jo ?_;first | refine jL fun _=>?_ | refine jC F F F ?_ | (refine ar F F F (cx_rs1 _) F ?_;rintro _ G hle ⟨b,qs,rfl,hqs,hS⟩;skip) | refine ae F F F (cx_kq _) F ?_) | refine ad F F ?_ | (refine an (ec (id:=5) (tt:=5) F am ?_);refine jW 8 [0,2,3] (aa 11 13) ?_;(try (refine Nx.re (d:=26) (v':=Bo true) F (congrArg Value.bool F) ?_));refine jW 7 [4] (aa 11 29) ?_;(refine jG (aa 11 31) 1 F (bP F F F F) ?_);(refine jG (aa 11 63) 5 F (bP F F F F) ?_);((refine jA 6 F ?_;((refine ae F F F ((cx_hn _ _ _) (by (repeat (assumption));done) (by (repeat (assumption));done)) rfl ?_));refine jK (aa 11 127) ?_));refine jW 3 [8] (aa 11 383) ?_;((refine jG (aa 11 511) 7 F (bO F F ?_) ?_;(focus ((rfl);done))));refine jA 9 F ?_;(refine jC F F F ?_);refine jK (aa 11 1023) ?_;refine jW 0 [10] (aa 11 2047) ?_;refine jQ ?_))
   all_goals refine jZ (vs:=[_,_,_]) F ⟨F,aJ F F F F,F,trivial⟩ F ⟨hle,F,?_⟩
   all_goals exact .inl ⟨hno,_,_,_,_,F⟩
abbrev Mt:=adB × adB × adB
def mtF (m : Mt) : List Value:=[S m.1,S m.2.1,S m.2.2]
instance : RowF mtF 3:=⟨fun _=>rfl⟩
abbrev Ch:=adB × adB
def cY (c : Ch) : List Value:=[S c.1,S c.2]
instance : RowF cY 2:=⟨fun _=>rfl⟩
abbrev t8 (c : Ch) : Prop:=c.1.length ≤ 1048576 ∧ c.2.length ≤ 1048576
theorem v5 {c e : Ch} : aZ adA 27 [Ag (cY c),Ag (cY e)] G (· = Bo (decide (c = e))):=by
 obtain ⟨c1,c2⟩:=c
 obtain ⟨e1,e2⟩:=e
 refine jE [(0,_),(1,_)] Tryz.func27 Tryz.ntmps27 fun B hB=>?_
 repeat' (first | refine jR ?_ | (refine jo ?_;first | refine jO fun _=>?_ | refine aB F ?_) | refine eA F (fun _=>?_) (fun _=>?_))
 all_goals refine jY (vs:=[_]) ?_
 all_goals (rw [aR];simp_all)
open Go.ChangeShapes Go.WideShapes Go.ChangeAt Go.RowKit
def tag0 (t : Ty) : Int:=(t.fields.headD default).tag
def bV (ts : List Ty) : Nat → adB → adB
 | 0,_=>[]
 | _ + 1,[]=>[]
 | n + 1,c :: r=>if c.toNat = 91 then [91,93] else if c.toNat = 63 then [45] else
   match a8 ts (c :: r) with
   | none=>gH (c :: r)
   | some t=>if t.sort = 82 then [123,125] else if t.sort = 69 then 35 :: be (tag0 t) else 60 :: (be (tag0 t) ++ 61 :: (bV ts n (eS t) ++ [62]))
def pj (ts : List Ty) (k : adB) : adB:=bV ts (ts.length + 2) k
def bR (ts : List Ty) (f : Fld) : adB:=if f.stand = [] then pj ts f.kind else f.stand
def co (fs : List Fld) (tag : Int) : Option Fld:=fs.find? fun f=>decide (f.tag = tag)
structure AskW (ts us : List Ty) (m : List Pr) : Prop where
 nd : m.Nodup
 mem : ∀ p ∈ m,(∃ t ∈ ts,t.name = p.1) ∧ ∃ u ∈ us,u.name = p.2
theorem AskW.nil {ts us : List Ty} : AskW ts us []:=⟨List.nodup_nil,by simp⟩
theorem sQ {α : Type} [DecidableEq α] : ∀ {l l' : List α},l.Nodup → (∀ x ∈ l,x ∈ l') → l.length ≤ l'.length
 | [],_,_,_=>Nat.zero_le _
 | a :: l,l',hn,hs=>by
  rw [List.nodup_cons] at hn
  have ha:=hs a (.head _)
  have:=sQ (l:=l) (l':=l'.erase a) hn.2 fun x hx=>by
   have hx':=hs x (.tail _ hx)
   exact (List.mem_erase_of_ne (fun e=>hn.1 (by rw [← e];exact hx))).2 hx'
  rw [List.length_erase_of_mem ha] at this
  have hp : 0 < l'.length:=List.length_pos_of_mem ha
  simp only [List.length_cons];omega
theorem AskW.len {ts us : List Ty} {m : List Pr} (h : AskW ts us m) : m.length ≤ ts.length * us.length:=by
 have h1 : m.length ≤ (ts.flatMap fun t=>us.map fun u=>(t.name,u.name)).length:=sQ h.nd fun p hp=>by
  obtain ⟨⟨t,ht,e1⟩,u,hu,e2⟩:=h.mem p hp
  exact List.mem_flatMap.2 ⟨t,ht,List.mem_map.2 ⟨u,hu,by rw [e1,e2]⟩⟩
 have h2 : ∀ ts : List Ty,(ts.flatMap fun t=>us.map fun u=>(t.name,u.name)).length = ts.length * us.length:=fun ts=>by
  induction ts with
  | nil=>simp
  | cons t ts ih=>rw [List.flatMap_cons,List.length_append,ih,List.length_map,List.length_cons,Nat.succ_mul,Nat.add_comm]
 rw [h2] at h1;exact h1
theorem m3 {ts : List Ty} {k : adB} (h : aA ts k = true) (hr : (cx (bU k)).isSome = true) : ∃ t,a8 ts (bU k) = some t:=by
 unfold aA fh at h
 unfold a8
 cases hc : cx (bU k) with
 | none=>rw [hc] at hr;cases hr
 | some n =>
  rw [hc] at h
  simp only [Bool.and_eq_true] at h
  obtain ⟨_,h⟩:=h
  exact Option.isSome_iff_exists.1 h
inductive V where
 | nd (what : Nat) (text : adB) (tag : Int) (kids : List V)
instance : Inhabited V:=⟨.nd 0 [] 0 []⟩
def V.what : V → Nat | .nd w _ _ _=>w
def V.text : V → adB | .nd _ x _ _=>x
def V.tag : V → Int | .nd _ _ t _=>t
def V.kids : V → List V | .nd _ _ _ ks=>ks
def c5 (w : Nat) (x : adB) (t : Int) (e : Bool) (j : adB) : adB :=
 if w = 116 then 39 :: (x ++ [39]) else if w = 91 then 91 :: (j ++ [93]) else if w = 63 then (if e = true then [45] else 43 :: j)
 else if w = 61 then be t ++ 61 :: j else if w = 82 then 123 :: (j ++ [125]) else if w = 85 then 60 :: (be t ++ 61 :: (j ++ [62])) else if w = 69 then 35 :: be t else x
mutual
def V.out : V → adB
 | .nd w x t ks=>c5 w x t ks.isEmpty (aO 44 (V.outs ks))
def V.outs : List V → List adB
 | []=>[]
 | v :: r=>V.out v :: V.outs r
end
mutual
def V.deep : V → Nat
 | .nd w _ _ ks=>if w = 61 then V.deeps ks else V.deeps ks + 1
def V.deeps : List V → Nat
 | []=>0
 | v :: r=>max (V.deep v) (V.deeps r)
end
def gj (w : Nat) (e : Bool) : Bool:=(decide (w = 110) || decide (w = 116) || decide (w = 102) || decide (w = 69)) || (decide (w = 63) && e)
mutual
def V.size : V → Nat
 | .nd w _ _ ks=>if gj w ks.isEmpty = true then 1 else V.sizes ks
def V.sizes : List V → Nat
 | []=>0
 | v :: r=>V.size v + V.sizes r
end
theorem V.outs_map : ∀ ks : List V,V.outs ks = ks.map V.out
 | []=>rfl
 | v :: r=>by rw [V.outs,V.outs_map r];rfl
def br (c : UInt8) : Bool:=decide (48 ≤ c.toNat ∧ c.toNat ≤ 57)
def cM (top : Int) (s : adB) : Option (Int × adB):=(aN (s.takeWhile br) top).map fun n=>(n,s.dropWhile br)
def bJ (f : adB → Option (V × adB)) : Nat → adB → List V → Option (List V × adB)
 | 0,_,_=>none
 | m + 1,s,acc=>match f s with
  | none=>none
  | some (v,r)=>match r with
   | []=>none
   | c :: r'=>if c.toNat = 44 then bJ f m r' (acc ++ [v]) else if c.toNat = 93 then some (acc ++ [v],r') else none
def aY (f : adB → adB → Option (V × adB)) (t : Ty) (s : adB) : Option ((Fld × V) × adB) :=
 match cM 200 s with
 | none=>none
 | some (n,r)=>match co t.fields n with
  | none=>none
  | some d=>match r with
   | []=>none
   | c :: r'=>if c.toNat = 61 then (f d.kind r').map fun x=>((d,x.1),x.2) else none
def ck (ts : List Ty) (f : adB → adB → Option (V × adB)) (t : Ty) : Nat → Int → adB → List V → Option (List V × adB)
 | 0,_,_,_=>none
 | m + 1,last,s,acc=>match aY f t s with
  | none=>none
  | some ((d,v),r)=>if d.tag ≤ last ∨ v.out = bR ts d then none else match r with
   | []=>none
   | c :: r'=>if c.toNat = 44 then ck ts f t m d.tag r' (acc ++ [.nd 61 [] d.tag [v]]) else if c.toNat = 125 then some (acc ++ [.nd 61 [] d.tag [v]],r') else none
def bA (ts : List Ty) (f : adB → adB → Option (V × adB)) (t : Ty) : adB → Option (V × adB)
 | []=>none
 | c :: s=>if t.sort = 82 then
   (if c.toNat = 123 then (match s with
    | []=>none
    | c' :: r=>if c'.toNat = 125 then some (.nd 82 [] 0 [],r) else (ck ts f t (s.length + 1) 0 s []).map fun x=>(.nd 82 [] 0 x.1,x.2)) else none)
  else if t.sort = 69 then
   (if c.toNat = 35 then (match cM 200 s with
    | none=>none
    | some (n,r)=>if (co t.fields n).isSome = true then some (.nd 69 [] n [],r) else none) else none)
  else if c.toNat = 60 then (match aY f t s with
    | none=>none
    | some ((d,v),r)=>match r with
     | []=>none
     | c' :: r'=>if c'.toNat = 62 then some (.nd 85 [] d.tag [v],r') else none)
   else none
def dP : adB → Option (V × adB)
 | []=>none
 | c :: s=>if c.toNat = 39 then (match aH 39 s with
   | (x,r,true)=>if d6 (39 :: (x ++ [39])) = true then some (.nd 116 x 0 [],r) else none
   | _=>none) else none
def eO (s : adB) : Option (V × adB) :=
 if [121,101,115].isPrefixOf s = true then some (.nd 102 [121,101,115] 0 [],s.drop 3) else if [110,111].isPrefixOf s = true then some (.nd 102 [110,111] 0 [],s.drop 2) else none
def fJ (ts : List Ty) (f : adB → adB → Option (V × adB)) : adB → adB → Option (V × adB)
 | [],_=>none
 | c :: k,s =>
  if c.toNat = 91 then (match s with
   | []=>none
   | d :: s'=>if d.toNat = 91 then (match s' with
     | []=>none
     | e :: r=>if e.toNat = 93 then some (.nd 91 [] 0 [],r) else (bJ (f k) 20 s' []).map fun x=>(.nd 91 [] 0 x.1,x.2)) else none)
  else if c.toNat = 63 then (match s with
   | []=>none
   | d :: s'=>if d.toNat = 45 then some (.nd 63 [] 0 [],s') else if d.toNat = 43 then (f k s').map fun x=>(.nd 63 [] 0 [x.1],x.2) else none)
  else match a8 ts (c :: k) with
   | some t=>bA ts f t s
   | none=>if c.toNat = 110 then (cM 999999 s).map fun x=>(.nd 110 (be x.1) 0 [],x.2) else if c.toNat = 116 then dP s else if c.toNat = 102 then eO s else none
def rd (ts : List Ty) : Nat → adB → adB → Option (V × adB)
 | 0,_,_=>none
 | n + 1,k,s=>fJ ts (rd ts n) k s
def cq (ts : List Ty) (k s : adB) : Option V:=if s.length ≤ 400 then (match rd ts 12 k s with
 | some (v,[])=>some v
 | _=>none) else none
theorem mP {f g : adB → Option (V × adB)} (h : ∀ s x,f s = some x → g s = some x) : ∀ (m : Nat) (s : adB) (acc : List V) {x : List V × adB},bJ f m s acc = some x → bJ g m s acc = some x
 | 0,_,_,_,e=>by cases e
 | m + 1,s,acc,x,e=>by
  unfold bJ at e ⊢
  cases hf : f s with
  | none=>rw [hf] at e;cases e
  | some y =>
   rw [hf] at e
   rw [h s y hf]
   obtain ⟨v,r⟩:=y
   cases r with
   | nil=>exact e
   | cons c r =>
    dsimp only at e ⊢
    split at e
    ·rename_i hc;rw [if_pos hc];exact mP h m r _ e
    ·rename_i hc;rw [if_neg hc];exact e
theorem mQ {f g : adB → adB → Option (V × adB)} (h : ∀ k s x,f k s = some x → g k s = some x) (t : Ty) (s : adB) {x : (Fld × V) × adB} (e : aY f t s = some x) : aY g t s = some x:=by
 unfold aY at e ⊢
 cases hn : cM 200 s with
 | none=>rw [hn] at e;cases e
 | some y =>
  rw [hn] at e
  obtain ⟨n,r⟩:=y
  dsimp only at e ⊢
  cases hd : co t.fields n with
  | none=>rw [hd] at e;cases e
  | some d =>
   rw [hd] at e
   cases r with
   | nil=>cases e
   | cons c r' =>
    dsimp only at e ⊢
    by_cases hc : c.toNat = 61
    ·rw [if_pos hc] at e ⊢
     cases hf : f d.kind r' with
     | none=>rw [hf] at e;cases e
     | some y=>rw [hf] at e;rw [h _ _ y hf];exact e
    ·rw [if_neg hc] at e;cases e
theorem n0 {ts : List Ty} {f g : adB → adB → Option (V × adB)} (h : ∀ k s x,f k s = some x → g k s = some x) (t : Ty) : ∀ (m : Nat) (last : Int) (s : adB) (acc : List V) {x : List V × adB},ck ts f t m last s acc = some x → ck ts g t m last s acc = some x
 | 0,_,_,_,_,e=>by cases e
 | m + 1,last,s,acc,x,e=>by
  unfold ck at e ⊢
  cases hf : aY f t s with
  | none=>rw [hf] at e;cases e
  | some y =>
   rw [hf] at e
   rw [mQ h t s hf]
   obtain ⟨⟨d,v⟩,r⟩:=y
   dsimp only at e ⊢
   split at e
   ·cases e
   ·rename_i hd
    rw [if_neg hd]
    cases r with
    | nil=>exact e
    | cons c r =>
     dsimp only at e ⊢
     split at e
     ·rename_i hc;rw [if_pos hc];exact n0 h t m _ r _ e
     ·rename_i hc;rw [if_neg hc];exact e
theorem sv {ts : List Ty} {f g : adB → adB → Option (V × adB)} (h : ∀ k s x,f k s = some x → g k s = some x) (t : Ty) : ∀ (s : adB) {x : V × adB},bA ts f t s = some x → bA ts g t s = some x
 | [],_,e=>by cases e
 | c :: s,x,e=>by
  unfold bA at e ⊢
  dsimp only at e ⊢
  by_cases h82 : t.sort = 82
  ·rw [if_pos h82] at e ⊢
   by_cases hc : c.toNat = 123
   ·rw [if_pos hc] at e ⊢
    cases s with
    | nil=>exact e
    | cons c' r =>
     dsimp only at e ⊢
     by_cases hc' : c'.toNat = 125
     ·rw [if_pos hc'] at e ⊢;exact e
     ·rw [if_neg hc'] at e ⊢
      cases hf : ck ts f t ((c' :: r).length + 1) 0 (c' :: r) [] with
      | none=>rw [hf] at e;cases e
      | some y=>rw [hf] at e;rw [n0 h t _ _ _ _ hf];exact e
   ·rw [if_neg hc] at e;cases e
  ·rw [if_neg h82] at e ⊢
   by_cases h69 : t.sort = 69
   ·rw [if_pos h69] at e ⊢;exact e
   ·rw [if_neg h69] at e ⊢
    by_cases hc : c.toNat = 60
    ·rw [if_pos hc] at e ⊢
     cases hf : aY f t s with
     | none=>rw [hf] at e;cases e
     | some y=>rw [hf] at e;rw [mQ h t s hf];exact e
    ·rw [if_neg hc] at e;cases e
theorem xF {ts : List Ty} {f g : adB → adB → Option (V × adB)} (ih : ∀ k s x,f k s = some x → g k s = some x) : ∀ (k s : adB) {x : V × adB},fJ ts f k s = some x → fJ ts g k s = some x
 | [],_,_,e=>by cases e
 | c :: k,s,x,e=>by
  unfold fJ at e ⊢
  dsimp only at e ⊢
  by_cases h91 : c.toNat = 91
  ·rw [if_pos h91] at e ⊢
   cases s with
   | nil=>exact e
   | cons d s' =>
    dsimp only at e ⊢
    by_cases hd : d.toNat = 91
    ·rw [if_pos hd] at e ⊢
     cases s' with
     | nil=>exact e
     | cons e' r =>
      dsimp only at e ⊢
      by_cases he : e'.toNat = 93
      ·rw [if_pos he] at e ⊢;exact e
      ·rw [if_neg he] at e ⊢
       cases hf : bJ (f k) 20 (e' :: r) [] with
       | none=>rw [hf] at e;cases e
       | some y=>rw [hf] at e;rw [mP (ih k) _ _ _ hf];exact e
    ·rw [if_neg hd] at e;cases e
  ·rw [if_neg h91] at e ⊢
   by_cases h63 : c.toNat = 63
   ·rw [if_pos h63] at e ⊢
    cases s with
    | nil=>exact e
    | cons d s' =>
     dsimp only at e ⊢
     by_cases hd : d.toNat = 45
     ·rw [if_pos hd] at e ⊢;exact e
     ·rw [if_neg hd] at e ⊢
      by_cases hd2 : d.toNat = 43
      ·rw [if_pos hd2] at e ⊢
       cases hf : f k s' with
       | none=>rw [hf] at e;cases e
       | some y=>rw [hf] at e;rw [ih k s' y hf];exact e
      ·rw [if_neg hd2] at e;cases e
   ·rw [if_neg h63] at e ⊢
    cases hr : a8 ts (c :: k) with
    | none=>rw [hr] at e;exact e
    | some t=>rw [hr] at e;exact sv ih t s e
theorem uA {ts : List Ty} : ∀ (n : Nat) (k s : adB) {x : V × adB},rd ts n k s = some x → rd ts (n + 1) k s = some x
 | 0,_,_,_,e=>by cases e
 | n + 1,k,s,_,e=>xF (fun k s _ e=>uA n k s e) k s e
theorem yG {ts : List Ty} {n m : Nat} (h : n ≤ m) {k s : adB} {x : V × adB} (e : rd ts n k s = some x) : rd ts m k s = some x:=by
  induction m with
  | zero => have : n = 0 := oM
            subst this;exact e
  | succ m ih =>
    by_cases hn : n = m + 1
    · subst hn;exact e
    · exact uA m k s (ih oM)
theorem V.deep_mem : ∀ {ks : List V} {v : V},v ∈ ks → V.deep v ≤ V.deeps ks
 | [],_,h=>by cases h
 | u :: ks,v,h=>by
  rw [V.deeps]
  rcases List.mem_cons.1 h with rfl | h
  ·exact Nat.le_max_left _ _
  ·exact Nat.le_trans (V.deep_mem h) (Nat.le_max_right _ _)
theorem V.deeps_le : ∀ {ks : List V} {n : Nat},(∀ v ∈ ks,V.deep v ≤ n) → V.deeps ks ≤ n
 | [],_,_=>by rw [V.deeps];exact Nat.zero_le _
 | u :: ks,n,h=>by
  rw [V.deeps]
  exact Nat.max_le.2 ⟨h u (.head _),V.deeps_le fun v hv=>h v (.tail _ hv)⟩
theorem eg {w : Nat} {x : adB} {t : Int} {ks : List V} (h : ¬ w = 61) : V.deep (.nd w x t ks) = V.deeps ks + 1:=by rw [V.deep,if_neg h]
theorem kv {t : Int} {v : V} : V.deep (.nd 61 [] t [v]) = V.deep v:=by rw [V.deep,if_pos rfl,V.deeps,V.deeps,Nat.max_zero]
theorem i7 {f : adB → Option (V × adB)} {p : V → Prop} (h : ∀ s x,f s = some x → p x.1) : ∀ (m : Nat) (s : adB) (acc : List V) {x : List V × adB},bJ f m s acc = some x → (∀ v ∈ acc,p v) → ∀ v ∈ x.1,p v
 | 0,_,_,_,e,_=>by cases e
 | m + 1,s,acc,x,e,ha=>by
  unfold bJ at e
  cases hf : f s with
  | none=>rw [hf] at e;cases e
  | some y =>
   rw [hf] at e
   have hy:=h s y hf
   obtain ⟨v,r⟩:=y
   have ha' : ∀ u ∈ acc ++ [v],p u:=fun u hu=>by
    rcases List.mem_append.1 hu with hu | hu
    ·exact ha u hu
    ·simp only [List.mem_singleton] at hu;subst hu;exact hy
   cases r with
   | nil=>cases e
   | cons c r =>
    dsimp only at e
    split at e
    ·exact i7 h m r _ e ha'
    ·split at e
     ·simp only [Option.some.injEq] at e;subst e;exact ha'
     ·cases e
theorem nZ {f g : adB → Option (V × adB)} : ∀ (m : Nat) (s : adB) (acc : List V) {x : List V × adB},bJ f m s acc = some x → (∀ s y,f s = some y → y.1 ∈ x.1 → g s = some y) → bJ g m s acc = some x ∧ ∀ v ∈ acc,v ∈ x.1
 | 0,_,_,_,e,_=>by cases e
 | m + 1,s,acc,x,e,h=>by
  unfold bJ at e ⊢
  cases hf : f s with
  | none=>rw [hf] at e;cases e
  | some y =>
   rw [hf] at e
   have hy:=h s y hf
   obtain ⟨v,r⟩:=y
   cases r with
   | nil=>cases e
   | cons c r =>
    dsimp only at e hy
    split at e
    ·rename_i hc
     obtain ⟨h1,h2⟩:=nZ m r _ e h
     rw [hy (h2 v (by simp))]
     dsimp only
     rw [if_pos hc]
     exact ⟨h1,fun u hu=>h2 u (List.mem_append_left _ hu)⟩
    ·rename_i hc
     split at e
     ·rename_i hc2
      simp only [Option.some.injEq] at e;subst e
      rw [hy (by simp)]
      dsimp only
      rw [if_neg hc,if_pos hc2]
      exact ⟨F,fun u hu=>List.mem_append_left _ hu⟩
     ·cases e
theorem gg {f : adB → adB → Option (V × adB)} {t : Ty} {s : adB} {x : (Fld × V) × adB} (e : aY f t s = some x) : x.1.1 ∈ t.fields ∧ ∃ s',f x.1.1.kind s' = some (x.1.2,x.2):=by
 unfold aY at e
 cases hn : cM 200 s with
 | none=>rw [hn] at e;cases e
 | some y =>
  rw [hn] at e
  obtain ⟨n,r⟩:=y
  dsimp only at e
  cases hd : co t.fields n with
  | none=>rw [hd] at e;cases e
  | some d =>
   rw [hd] at e
   cases r with
   | nil=>cases e
   | cons c r' =>
    dsimp only at e
    by_cases hc : c.toNat = 61
    ·rw [if_pos hc] at e
     cases hf : f d.kind r' with
     | none=>rw [hf] at e;cases e
     | some y =>
      rw [hf] at e
      simp only [Option.map_some,Option.some.injEq] at e
      subst e
      exact ⟨List.mem_of_find?_eq_some hd,r',hf⟩
    ·rw [if_neg hc] at e;cases e
theorem k4 {f g : adB → adB → Option (V × adB)} {t : Ty} {s : adB} {x : (Fld × V) × adB} (e : aY f t s = some x) (h : ∀ k s y,f k s = some y → y.1 = x.1.2 → g k s = some y) : aY g t s = some x:=by
 unfold aY at e ⊢
 cases hn : cM 200 s with
 | none=>rw [hn] at e;cases e
 | some y =>
  rw [hn] at e
  obtain ⟨n,r⟩:=y
  dsimp only at e ⊢
  cases hd : co t.fields n with
  | none=>rw [hd] at e;cases e
  | some d =>
   rw [hd] at e
   cases r with
   | nil=>cases e
   | cons c r' =>
    dsimp only at e ⊢
    by_cases hc : c.toNat = 61
    ·rw [if_pos hc] at e ⊢
     cases hf : f d.kind r' with
     | none=>rw [hf] at e;cases e
     | some y =>
      rw [hf] at e
      simp only [Option.map_some,Option.some.injEq] at e
      subst e
      rw [h _ _ _ hf rfl];rfl
    ·rw [if_neg hc] at e;cases e
theorem pD {ts : List Ty} {f : adB → adB → Option (V × adB)} {t : Ty} {p : V → Prop} (h : ∀ k s x,f k s = some x → ∀ n,p (.nd 61 [] n [x.1])) : ∀ (m : Nat) (last : Int) (s : adB) (acc : List V) {x : List V × adB},ck ts f t m last s acc = some x → (∀ v ∈ acc,p v) → ∀ v ∈ x.1,p v
 | 0,_,_,_,_,e,_=>by cases e
 | m + 1,last,s,acc,x,e,ha=>by
  unfold ck at e
  cases hf : aY f t s with
  | none=>rw [hf] at e;cases e
  | some y =>
   rw [hf] at e
   obtain ⟨_,s',hs'⟩:=gg hf
   have hy:=h _ s' _ hs'
   obtain ⟨⟨d,v⟩,r⟩:=y
   dsimp only at e hy
   have ha' : ∀ u ∈ acc ++ [V.nd 61 [] d.tag [v]],p u:=fun u hu=>by
    rcases List.mem_append.1 hu with hu | hu
    ·exact ha u hu
    ·simp only [List.mem_singleton] at hu;subst hu;exact hy d.tag
   split at e
   ·cases e
   ·cases r with
    | nil=>cases e
    | cons c r =>
     dsimp only at e
     split at e
     ·exact pD h m _ r _ e ha'
     ·split at e
      ·simp only [Option.some.injEq] at e;subst e;exact ha'
      ·cases e
theorem pC {ts : List Ty} {f g : adB → adB → Option (V × adB)} {t : Ty} : ∀ (m : Nat) (last : Int) (s : adB) (acc : List V) {x : List V × adB},ck ts f t m last s acc = some x → (∀ k s y,f k s = some y → (∃ n,V.nd 61 [] n [y.1] ∈ x.1) → g k s = some y) → ck ts g t m last s acc = some x ∧ ∀ v ∈ acc,v ∈ x.1
 | 0,_,_,_,_,e,_=>by cases e
 | m + 1,last,s,acc,x,e,h=>by
  unfold ck at e ⊢
  cases hf : aY f t s with
  | none=>rw [hf] at e;cases e
  | some y =>
   rw [hf] at e
   obtain ⟨⟨d,v⟩,r⟩:=y
   dsimp only at e
   split at e
   ·cases e
   ·rename_i hd
    cases r with
    | nil=>cases e
    | cons c r =>
     dsimp only at e
     split at e
     ·rename_i hc
      obtain ⟨h1,h2⟩:=pC m _ r _ e h
      have hg:=k4 (g:=g) hf (fun k s y hy e2=>h k s y hy ⟨d.tag,by rw [e2];exact h2 _ (by simp)⟩)
      rw [hg]
      dsimp only
      rw [if_neg hd,if_pos hc]
      exact ⟨h1,fun u hu=>h2 u (List.mem_append_left _ hu)⟩
     ·rename_i hc
      split at e
      ·rename_i hc2
       simp only [Option.some.injEq] at e;subst e
       have hg:=k4 (g:=g) hf (fun k s y hy e2=>h k s y hy ⟨d.tag,by rw [e2];simp⟩)
       rw [hg]
       dsimp only
       rw [if_neg hd,if_neg hc,if_pos hc2]
       exact ⟨F,fun u hu=>List.mem_append_left _ hu⟩
      ·cases e
theorem uB {ts : List Ty} {f g : adB → adB → Option (V × adB)} : ∀ (k s : adB) {x : V × adB},fJ ts f k s = some x → ∃ w tx tg ks,x.1 = .nd w tx tg ks ∧ ¬ w = 61 ∧ ((∀ k s y,f k s = some y → V.deep y.1 ≤ V.deeps ks → g k s = some y) → fJ ts g k s = some x) ∧ ∀ n,(∀ k s y,f k s = some y → V.deep y.1 ≤ n) → V.deeps ks ≤ n
 | [],_,_,e=>by cases e
 | c :: k,s,x,e=>by
  unfold fJ at e ⊢
  dsimp only at e ⊢
  have leaf : ∀ {w : Nat} {tx : adB} {tg : Int} {q : Prop},x.1 = .nd w tx tg [] → ¬ w = 61 → q → ∃ w tx tg ks,x.1 = .nd w tx tg ks ∧ ¬ w = 61 ∧ ((∀ k s y,f k s = some y → V.deep y.1 ≤ V.deeps ks → g k s = some y) → q) ∧ ∀ n,(∀ k s y,f k s = some y → V.deep y.1 ≤ n) → V.deeps ks ≤ n :=
   fun h1 h2 h3=>⟨_,_,_,[],h1,h2,fun _=>h3,fun n _=>by rw [V.deeps];exact Nat.zero_le n⟩
  by_cases h91 : c.toNat = 91
  ·simp only [if_pos h91] at e ⊢
   cases s with
   | nil=>cases e
   | cons d s' =>
    dsimp only at e ⊢
    by_cases hd : d.toNat = 91
    ·simp only [if_pos hd] at e ⊢
     cases s' with
     | nil=>cases e
     | cons e' r =>
      dsimp only at e ⊢
      by_cases he : e'.toNat = 93
      ·simp only [if_pos he] at e ⊢
       have e2:=e
       simp only [Option.some.injEq] at e2;subst e2
       exact leaf F dC F
      ·simp only [if_neg he] at e ⊢
       cases hf : bJ (f k) 20 (e' :: r) [] with
       | none=>rw [hf] at e;cases e
       | some y =>
        rw [hf] at e
        simp only [Option.map_some,Option.some.injEq] at e;subst e
        refine ⟨91,[],0,y.1,F,by decide,fun h=>?_,fun n h=>?_⟩
        ·rw [(nZ (g:=g k) _ _ _ hf fun s u hu hm=>h k s u hu (V.deep_mem hm)).1];rfl
        ·exact V.deeps_le fun v hv=>i7 (p:=fun v=>V.deep v ≤ n) (fun s u hu=>h k s u hu) _ _ _ hf (by simp) v hv
    ·simp only [if_neg hd] at e;cases e
  ·simp only [if_neg h91] at e ⊢
   by_cases h63 : c.toNat = 63
   ·simp only [if_pos h63] at e ⊢
    cases s with
    | nil=>cases e
    | cons d s' =>
     dsimp only at e ⊢
     by_cases hd : d.toNat = 45
     ·simp only [if_pos hd] at e ⊢
      have e2:=e
      simp only [Option.some.injEq] at e2;subst e2
      exact leaf F dC F
     ·simp only [if_neg hd] at e ⊢
      by_cases hd2 : d.toNat = 43
      ·simp only [if_pos hd2] at e ⊢
       cases hf : f k s' with
       | none=>rw [hf] at e;cases e
       | some y =>
        rw [hf] at e
        simp only [Option.map_some,Option.some.injEq] at e;subst e
        refine ⟨63,[],0,[y.1],F,by decide,fun h=>?_,fun n h=>?_⟩
        ·rw [h k s' y hf (V.deep_mem (by simp))];rfl
        ·exact V.deeps_le fun v hv=>by simp only [List.mem_singleton] at hv;subst hv;exact h k s' y hf
      ·simp only [if_neg hd2] at e;cases e
   ·simp only [if_neg h63] at e ⊢
    cases hr : a8 ts (c :: k) with
    | none =>
     rw [hr] at e
     dsimp only at e ⊢
     by_cases h1 : c.toNat = 110
     ·simp only [if_pos h1] at e ⊢
      cases hn : cM 999999 s with
      | none=>rw [hn] at e;cases e
      | some y =>
       rw [hn] at e
       have e2:=e
       simp only [Option.map_some,Option.some.injEq] at e2;subst e2
       exact leaf F dC F
     ·simp only [if_neg h1] at e ⊢
      by_cases h2 : c.toNat = 116
      ·simp only [if_pos h2] at e ⊢
       refine leaf (w:=116) (tx:=x.1.text) (tg:=0) ?_ dC e
       unfold dP at e
       split at e
       ·cases e
       ·split at e
        ·split at e
         ·split at e
          ·simp only [Option.some.injEq] at e;subst e;rfl
          ·cases e
         ·cases e
        ·cases e
      ·simp only [if_neg h2] at e ⊢
       by_cases h3 : c.toNat = 102
       ·simp only [if_pos h3] at e ⊢
        refine leaf (w:=102) (tx:=x.1.text) (tg:=0) ?_ dC e
        unfold eO at e
        split at e
        ·simp only [Option.some.injEq] at e;subst e;rfl
        ·split at e
         ·simp only [Option.some.injEq] at e;subst e;rfl
         ·cases e
       ·simp only [if_neg h3] at e;cases e
    | some t =>
     rw [hr] at e
     dsimp only at e ⊢
     unfold bA at e ⊢
     cases s with
     | nil=>cases e
     | cons d s =>
      dsimp only at e ⊢
      by_cases h82 : t.sort = 82
      ·simp only [if_pos h82] at e ⊢
       by_cases hd : d.toNat = 123
       ·simp only [if_pos hd] at e ⊢
        cases s with
        | nil=>cases e
        | cons d' r =>
         dsimp only at e ⊢
         by_cases hd' : d'.toNat = 125
         ·simp only [if_pos hd'] at e ⊢
          have e2:=e
          simp only [Option.some.injEq] at e2;subst e2
          exact leaf F dC F
         ·simp only [if_neg hd'] at e ⊢
          cases hf : ck ts f t ((d' :: r).length + 1) 0 (d' :: r) [] with
          | none=>rw [hf] at e;cases e
          | some y =>
           rw [hf] at e
           simp only [Option.map_some,Option.some.injEq] at e;subst e
           refine ⟨82,[],0,y.1,F,by decide,fun h=>?_,fun n h=>?_⟩
           ·rw [(pC (g:=g) _ _ _ _ hf fun k s u hu hm=>h k s u hu (by obtain ⟨n,hm⟩:=hm;have:=V.deep_mem hm;rwa [kv] at this)).1];rfl
           ·exact V.deeps_le fun v hv=>pD (p:=fun v=>V.deep v ≤ n) (fun k s u hu m=>by rw [kv];exact h k s u hu) _ _ _ _ hf (by simp) v hv
       ·simp only [if_neg hd] at e;cases e
      ·simp only [if_neg h82] at e ⊢
       by_cases h69 : t.sort = 69
       ·simp only [if_pos h69] at e ⊢
        refine leaf (w:=69) (tx:=[]) (tg:=x.1.tag) ?_ dC e
        split at e
        ·split at e
         ·cases e
         ·split at e
          ·simp only [Option.some.injEq] at e;subst e;rfl
          ·cases e
        ·cases e
       ·simp only [if_neg h69] at e ⊢
        by_cases hd : d.toNat = 60
        ·simp only [if_pos hd] at e ⊢
         cases hf : aY f t s with
         | none=>rw [hf] at e;cases e
         | some y =>
          rw [hf] at e
          obtain ⟨⟨fd,v⟩,r⟩:=y
          cases r with
          | nil=>cases e
          | cons c' r =>
           dsimp only at e
           by_cases hc' : c'.toNat = 62
           ·simp only [if_pos hc',Option.some.injEq] at e;subst e
            refine ⟨85,[],fd.tag,[v],F,by decide,fun h=>?_,fun n h=>?_⟩
            ·rw [k4 (g:=g) hf fun k s u hu e2=>h k s u hu (by rw [e2];exact V.deep_mem (by simp))]
             dsimp only
             rw [if_pos hc']
            ·obtain ⟨_,s',hs'⟩:=gg hf
             exact V.deeps_le fun u hu=>by simp only [List.mem_singleton] at hu;subst hu;exact h _ _ _ hs'
           ·simp only [if_neg hc'] at e;cases e
        ·simp only [if_neg hd] at e;cases e
theorem jx {ts : List Ty} : ∀ (n : Nat) (k s : adB) (x : V × adB),rd ts n k s = some x → V.deep x.1 ≤ n
 | 0,_,_,_,e=>by cases e
 | n + 1,k,s,x,e=>by
  obtain ⟨w,tx,tg,ks,h1,h2,_,h4⟩:=uB (g:=rd ts n) k s e
  rw [h1,eg h2]
  have:=h4 n fun k s y hy=>jx n k s y hy
  omega
theorem yH {ts : List Ty} : ∀ (n m : Nat) (k s : adB) (x : V × adB),rd ts n k s = some x → V.deep x.1 ≤ m → rd ts m k s = some x
 | 0,_,_,_,_,e,_=>by cases e
 | n + 1,m,k,s,x,e,hm=>by
  obtain ⟨w,tx,tg,ks,h1,h2,h3,_⟩:=uB (g:=rd ts (m - 1)) k s e
  rw [h1,eg h2] at hm
  obtain ⟨m,rfl⟩ : ∃ j,m = j + 1:=⟨m - 1,oM⟩
  exact h3 fun k s y hy hd=>yH n m k s y hy oM
theorem bX {c : UInt8} {n : Nat} (h : c.toNat = n) (hn : n < 256) : c = UInt8.ofNat n:=by
 apply UInt8.toNat_inj.1;rw [h,UInt8.toNat_ofNat'];omega
theorem kI {top : Int} {s r : adB} {n : Int} (h : cM top s = some (n,r)) : s = be n ++ r:=by
 unfold cM at h
 cases hn : aN (s.takeWhile br) top with
 | none=>rw [hn] at h;cases h
 | some q =>
  rw [hn] at h
  simp only [Option.map_some,Option.some.injEq,Prod.mk.injEq] at h
  obtain ⟨rfl,rfl⟩:=h
  rw [← (ed hn).2.1,List.takeWhile_append_dropWhile]
theorem nY {f : adB → Option (V × adB)} (h : ∀ s y,f s = some y → s = y.1.out ++ y.2) : ∀ (m : Nat) (s : adB) (acc : List V) {x : List V × adB},bJ f m s acc = some x → ∃ vs,vs ≠ [] ∧ x.1 = acc ++ vs ∧ s = aO 44 (vs.map V.out) ++ 93 :: x.2
 | 0,_,_,_,e=>by cases e
 | m + 1,s,acc,x,e=>by
  unfold bJ at e
  cases hf : f s with
  | none=>rw [hf] at e;cases e
  | some y =>
   rw [hf] at e
   have hy:=h s y hf
   obtain ⟨v,r⟩:=y
   cases r with
   | nil=>cases e
   | cons c r =>
    dsimp only at e hy
    split at e
    ·rename_i hc
     obtain ⟨vs,h1,h2,h3⟩:=nY h m r _ e
     have hc2:=bX hc dC
     refine ⟨v :: vs,by simp,by rw [h2];simp,?_⟩
     rw [hy,h3,List.map_cons,lY _ _ (by simpa using h1),hc2]
     simp
    ·split at e
     ·rename_i hc2
      have hc3:=bX hc2 dC
      simp only [Option.some.injEq] at e;subst e
      exact ⟨[v],by simp,F,by rw [hy,hc3];rfl⟩
     ·cases e
theorem gh {t : Int} {v : V} : V.out (.nd 61 [] t [v]) = be t ++ 61 :: v.out:=by
 rw [V.out,V.outs,V.outs];simp [c5,aO]
theorem n5 {f : adB → adB → Option (V × adB)} (h : ∀ k s y,f k s = some y → s = y.1.out ++ y.2) {t : Ty} {s : adB} {x : (Fld × V) × adB} (e : aY f t s = some x) : s = be x.1.1.tag ++ 61 :: (x.1.2.out ++ x.2):=by
 unfold aY at e
 cases hn : cM 200 s with
 | none=>rw [hn] at e;cases e
 | some y =>
  rw [hn] at e
  obtain ⟨n,r⟩:=y
  have h1:=kI hn
  dsimp only at e
  cases hd : co t.fields n with
  | none=>rw [hd] at e;cases e
  | some d =>
   rw [hd] at e
   have h2 : d.tag = n:=by have:=List.find?_some hd;simpa using this
   cases r with
   | nil=>cases e
   | cons c r' =>
    dsimp only at e
    by_cases hc : c.toNat = 61
    ·rw [if_pos hc] at e
     cases hf : f d.kind r' with
     | none=>rw [hf] at e;cases e
     | some y =>
      rw [hf] at e
      simp only [Option.map_some,Option.some.injEq] at e
      subst e
      have h3:=h _ _ _ hf
      dsimp only
      rw [h1,h2,h3,bX hc dC];rfl
    ·rw [if_neg hc] at e;cases e
theorem pB {ts : List Ty} {f : adB → adB → Option (V × adB)} (h : ∀ k s y,f k s = some y → s = y.1.out ++ y.2) {t : Ty} : ∀ (m : Nat) (last : Int) (s : adB) (acc : List V) {x : List V × adB},ck ts f t m last s acc = some x → ∃ vs,vs ≠ [] ∧ x.1 = acc ++ vs ∧ s = aO 44 (vs.map V.out) ++ 125 :: x.2
 | 0,_,_,_,_,e=>by cases e
 | m + 1,last,s,acc,x,e=>by
  unfold ck at e
  cases hf : aY f t s with
  | none=>rw [hf] at e;cases e
  | some y =>
   rw [hf] at e
   have hy:=n5 h hf
   obtain ⟨⟨d,v⟩,r⟩:=y
   dsimp only at e hy
   split at e
   ·cases e
   ·cases r with
    | nil=>cases e
    | cons c r =>
     dsimp only at e
     split at e
     ·rename_i hc
      obtain ⟨vs,h1,h2,h3⟩:=pB h m _ r _ e
      have hc2:=bX hc dC
      refine ⟨V.nd 61 [] d.tag [v] :: vs,by simp,by rw [h2];simp,?_⟩
      rw [hy,h3,List.map_cons,lY _ _ (by simpa using h1),hc2,gh]
      simp
     ·split at e
      ·rename_i hc2
       have hc3:=bX hc2 dC
       simp only [Option.some.injEq] at e;subst e
       exact ⟨[V.nd 61 [] d.tag [v]],by simp,F,by rw [hy,hc3];simp [aO,gh]⟩
      ·cases e
theorem rJ {k : Nat} {c : UInt8} (hc : c.toNat = k) : ∀ {s x r : adB},aH k s = (x,r,true) → s = x ++ c :: r
 | [],_,_,h=>by cases h
 | d :: s,x,r,h=>by
  unfold aH at h
  split at h
  ·rename_i hd
   simp only [Prod.mk.injEq,and_true] at h
   obtain ⟨rfl,rfl⟩:=h
   have : d = c:=UInt8.toNat_inj.1 (by rw [hd,hc])
   rw [this];rfl
  ·simp only [Prod.mk.injEq] at h
   obtain ⟨h1,h2,h3⟩:=h
   have ih:=rJ hc (s:=s) (x:=(aH k s).1) (r:=(aH k s).2.1) (by rw [← h3])
   rw [← h1,← h2,List.cons_append,← ih]
theorem qt {p s : adB} (h : p.isPrefixOf s = true) : s = p ++ s.drop p.length:=by
 rw [List.isPrefixOf_iff_prefix] at h
 obtain ⟨t,rfl⟩:=h
 simp
theorem nW {s : adB} {x : V × adB} (e : dP s = some x) : s = x.1.out ++ x.2:=by
 unfold dP at e
 cases s with
 | nil=>cases e
 | cons c s =>
  dsimp only at e
  by_cases hc : c.toNat = 39
  ·rw [if_pos hc] at e
   rcases hq : aH 39 s with ⟨y,r,b⟩
   rw [hq] at e
   cases b with
   | false=>cases e
   | true =>
    dsimp only at e
    split at e
    ·simp only [Option.some.injEq] at e;subst e
     have h1:=rJ (c:=39) rfl hq
     rw [h1,bX hc dC]
     simp [V.out,c5]
    ·cases e
  ·rw [if_neg hc] at e;cases e
theorem pE {s : adB} {x : V × adB} (e : eO s = some x) : s = x.1.out ++ x.2:=by
 unfold eO at e
 split at e
 ·rename_i h
  simp only [Option.some.injEq] at e;subst e
  have:=qt h
  simpa [V.out,c5] using this
 ·split at e
  ·rename_i h
   simp only [Option.some.injEq] at e;subst e
   have:=qt h
   simpa [V.out,c5] using this
  ·cases e
theorem oG {ks : List V} {r : adB} : V.out (.nd 91 [] 0 ks) ++ r = 91 :: (aO 44 (ks.map V.out) ++ 93 :: r):=by
 rw [V.out,V.outs_map];simp [c5]
theorem qu {ks : List V} {r : adB} : V.out (.nd 82 [] 0 ks) ++ r = 123 :: (aO 44 (ks.map V.out) ++ 125 :: r):=by
 rw [V.out,V.outs_map];simp [c5]
theorem uJ {v : V} {r : adB} : V.out (.nd 63 [] 0 [v]) ++ r = 43 :: (v.out ++ r):=by
 rw [V.out,V.outs_map];simp [c5,aO]
theorem nG {v : V} {n : Int} {r : adB} : V.out (.nd 85 [] n [v]) ++ r = 60 :: (be n ++ 61 :: (v.out ++ 62 :: r)):=by
 rw [V.out,V.outs_map];simp [c5,aO]
theorem zn {ts : List Ty} {f : adB → adB → Option (V × adB)} (h : ∀ k s y,f k s = some y → s = y.1.out ++ y.2) : ∀ (k s : adB) {x : V × adB},fJ ts f k s = some x → s = x.1.out ++ x.2
 | [],_,_,e=>by cases e
 | c :: k,s,x,e=>by
  unfold fJ at e
  dsimp only at e
  by_cases h91 : c.toNat = 91
  ·simp only [if_pos h91] at e
   cases s with
   | nil=>cases e
   | cons d s' =>
    dsimp only at e
    by_cases hd : d.toNat = 91
    ·simp only [if_pos hd] at e
     cases s' with
     | nil=>cases e
     | cons e' r =>
      dsimp only at e
      by_cases he : e'.toNat = 93
      ·simp only [if_pos he,Option.some.injEq] at e;subst e
       rw [oG,bX hd dC,bX he dC];rfl
      ·simp only [if_neg he] at e
       cases hf : bJ (f k) 20 (e' :: r) [] with
       | none=>rw [hf] at e;cases e
       | some y =>
        rw [hf] at e
        simp only [Option.map_some,Option.some.injEq] at e;subst e
        obtain ⟨vs,_,h2,h3⟩:=nY (h k) _ _ _ hf
        rw [oG,h2,h3,bX hd dC];rfl
    ·simp only [if_neg hd] at e;cases e
  ·simp only [if_neg h91] at e
   by_cases h63 : c.toNat = 63
   ·simp only [if_pos h63] at e
    cases s with
    | nil=>cases e
    | cons d s' =>
     dsimp only at e
     by_cases hd : d.toNat = 45
     ·simp only [if_pos hd,Option.some.injEq] at e;subst e
      rw [bX hd dC];simp [V.out,c5]
     ·simp only [if_neg hd] at e
      by_cases hd2 : d.toNat = 43
      ·simp only [if_pos hd2] at e
       cases hf : f k s' with
       | none=>rw [hf] at e;cases e
       | some y =>
        rw [hf] at e
        simp only [Option.map_some,Option.some.injEq] at e;subst e
        rw [uJ,← h k s' y hf,bX hd2 dC];rfl
      ·simp only [if_neg hd2] at e;cases e
   ·simp only [if_neg h63] at e
    cases hr : a8 ts (c :: k) with
    | none =>
     rw [hr] at e
     dsimp only at e
     by_cases h1 : c.toNat = 110
     ·simp only [if_pos h1] at e
      cases hn : cM 999999 s with
      | none=>rw [hn] at e;cases e
      | some y =>
       rw [hn] at e
       simp only [Option.map_some,Option.some.injEq] at e;subst e
       rw [kI hn];simp [V.out,c5]
     ·simp only [if_neg h1] at e
      by_cases h2 : c.toNat = 116
      ·simp only [if_pos h2] at e;exact nW e
      ·simp only [if_neg h2] at e
       by_cases h3 : c.toNat = 102
       ·simp only [if_pos h3] at e;exact pE e
       ·simp only [if_neg h3] at e;cases e
    | some t =>
     rw [hr] at e
     dsimp only at e
     unfold bA at e
     cases s with
     | nil=>cases e
     | cons d s =>
      dsimp only at e
      by_cases h82 : t.sort = 82
      ·simp only [if_pos h82] at e
       by_cases hd : d.toNat = 123
       ·simp only [if_pos hd] at e
        cases s with
        | nil=>cases e
        | cons d' r =>
         dsimp only at e
         by_cases hd' : d'.toNat = 125
         ·simp only [if_pos hd',Option.some.injEq] at e;subst e
          rw [qu,bX hd dC,bX hd' dC];rfl
         ·simp only [if_neg hd'] at e
          cases hf : ck ts f t ((d' :: r).length + 1) 0 (d' :: r) [] with
          | none=>rw [hf] at e;cases e
          | some y =>
           rw [hf] at e
           simp only [Option.map_some,Option.some.injEq] at e;subst e
           obtain ⟨vs,_,h2,h3⟩:=pB h _ _ _ _ hf
           rw [qu,h2,h3,bX hd dC];rfl
       ·simp only [if_neg hd] at e;cases e
      ·simp only [if_neg h82] at e
       by_cases h69 : t.sort = 69
       ·simp only [if_pos h69] at e
        by_cases hd : d.toNat = 35
        ·simp only [if_pos hd] at e
         cases hn : cM 200 s with
         | none=>rw [hn] at e;cases e
         | some y =>
          rw [hn] at e
          obtain ⟨n,r⟩:=y
          dsimp only at e
          split at e
          ·simp only [Option.some.injEq] at e;subst e
           rw [kI hn,bX hd dC];simp [V.out,c5]
          ·cases e
        ·simp only [if_neg hd] at e;cases e
       ·simp only [if_neg h69] at e
        by_cases hd : d.toNat = 60
        ·simp only [if_pos hd] at e
         cases hf : aY f t s with
         | none=>rw [hf] at e;cases e
         | some y =>
          rw [hf] at e
          have h3:=n5 h hf
          obtain ⟨⟨fd,v⟩,r⟩:=y
          cases r with
          | nil=>cases e
          | cons c' r =>
           dsimp only at e h3
           by_cases hc' : c'.toNat = 62
           ·simp only [if_pos hc',Option.some.injEq] at e;subst e
            rw [nG,h3,bX hd dC,bX hc' dC];rfl
           ·simp only [if_neg hc'] at e;cases e
        ·simp only [if_neg hd] at e;cases e
theorem px {ts : List Ty} : ∀ (n : Nat) (k s : adB) (x : V × adB),rd ts n k s = some x → s = x.1.out ++ x.2
 | 0,_,_,_,e=>by cases e
 | n + 1,k,s,x,e=>zn (fun k s y hy=>px n k s y hy) k s e
theorem eU {ts : List Ty} {k s : adB} {v : V} (h : cq ts k s = some v) : v.out = s ∧ s.length ≤ 400 ∧ V.deep v ≤ 12:=by
 unfold cq at h
 split at h
 ·rename_i hl
  split at h
  ·rename_i w hw
   simp only [Option.some.injEq] at h;subst h
   have h1:=px _ _ _ _ hw
   have h2:=jx _ _ _ _ hw
   simp only [List.append_nil] at h1
   exact ⟨h1.symm,hl,h2⟩
  ·cases h
 ·cases h
inductive RdK (ts : List Ty) (f : adB → adB → Option (V × adB)) : adB → adB → V → adB → Prop
 | lst0 (k r : adB) : RdK ts f (91 :: k) (91 :: 93 :: r) (.nd 91 [] 0 []) r
 | lst (k s r : adB) (vs : List V) : bJ (f k) 20 s [] = some (vs,r) → RdK ts f (91 :: k) (91 :: s) (.nd 91 [] 0 vs) r
 | non (k r : adB) : RdK ts f (63 :: k) (45 :: r) (.nd 63 [] 0 []) r
 | opt (k s r : adB) (v : V) : f k s = some (v,r) → RdK ts f (63 :: k) (43 :: s) (.nd 63 [] 0 [v]) r
 | num (k s r : adB) (n : Int) : a8 ts (110 :: k) = none → cM 999999 s = some (n,r) → RdK ts f (110 :: k) s (.nd 110 (be n) 0 []) r
 | txt (k s r : adB) (v : V) : a8 ts (116 :: k) = none → dP s = some (v,r) → RdK ts f (116 :: k) s v r
 | flg (k s r : adB) (v : V) : a8 ts (102 :: k) = none → eO s = some (v,r) → RdK ts f (102 :: k) s v r
 | recd0 (k r : adB) (t : Ty) : a8 ts k = some t → t.sort = 82 → RdK ts f k (123 :: 125 :: r) (.nd 82 [] 0 []) r
 | recd (k s r : adB) (t : Ty) (vs : List V) : a8 ts k = some t → t.sort = 82 → ck ts f t (s.length + 1) 0 s [] = some (vs,r) → RdK ts f k (123 :: s) (.nd 82 [] 0 vs) r
 | enm (k s r : adB) (t : Ty) (n : Int) : a8 ts k = some t → t.sort = 69 → cM 200 s = some (n,r) → (co t.fields n).isSome = true → RdK ts f k (35 :: s) (.nd 69 [] n []) r
 | uni (k s r : adB) (t : Ty) (d : Fld) (v : V) : a8 ts k = some t → t.sort ≠ 82 → t.sort ≠ 69 → aY f t s = some ((d,v),62 :: r) → RdK ts f k (60 :: s) (.nd 85 [] d.tag [v]) r
theorem qr {ts : List Ty} {f : adB → adB → Option (V × adB)} : ∀ (k s : adB) {x : V × adB},fJ ts f k s = some x → RdK ts f k s x.1 x.2
 | [],_,_,e=>by cases e
 | c :: k,s,x,e=>by
  unfold fJ at e
  dsimp only at e
  by_cases h91 : c.toNat = 91
  ·simp only [if_pos h91] at e
   obtain rfl:=bX h91 dC
   cases s with
   | nil=>cases e
   | cons d s' =>
    dsimp only at e
    by_cases hd : d.toNat = 91
    ·simp only [if_pos hd] at e
     obtain rfl:=bX hd dC
     cases s' with
     | nil=>cases e
     | cons e' r =>
      dsimp only at e
      by_cases he : e'.toNat = 93
      ·simp only [if_pos he,Option.some.injEq] at e;subst e
       obtain rfl:=bX he dC
       exact .lst0 _ _
      ·simp only [if_neg he] at e
       cases hf : bJ (f k) 20 (e' :: r) [] with
       | none=>rw [hf] at e;cases e
       | some y =>
        rw [hf] at e
        simp only [Option.map_some,Option.some.injEq] at e;subst e
        exact .lst _ _ _ _ hf
    ·simp only [if_neg hd] at e;cases e
  ·simp only [if_neg h91] at e
   by_cases h63 : c.toNat = 63
   ·simp only [if_pos h63] at e
    obtain rfl:=bX h63 dC
    cases s with
    | nil=>cases e
    | cons d s' =>
     dsimp only at e
     by_cases hd : d.toNat = 45
     ·simp only [if_pos hd,Option.some.injEq] at e;subst e
      obtain rfl:=bX hd dC
      exact .non _ _
     ·simp only [if_neg hd] at e
      by_cases hd2 : d.toNat = 43
      ·simp only [if_pos hd2] at e
       obtain rfl:=bX hd2 dC
       cases hf : f k s' with
       | none=>rw [hf] at e;cases e
       | some y =>
        rw [hf] at e
        simp only [Option.map_some,Option.some.injEq] at e;subst e
        exact .opt _ _ _ _ hf
      ·simp only [if_neg hd2] at e;cases e
   ·simp only [if_neg h63] at e
    cases hr : a8 ts (c :: k) with
    | none =>
     rw [hr] at e
     dsimp only at e
     by_cases h1 : c.toNat = 110
     ·simp only [if_pos h1] at e
      obtain rfl:=bX h1 dC
      cases hn : cM 999999 s with
      | none=>rw [hn] at e;cases e
      | some y =>
       rw [hn] at e
       simp only [Option.map_some,Option.some.injEq] at e;subst e
       exact .num _ _ _ _ hr hn
     ·simp only [if_neg h1] at e
      by_cases h2 : c.toNat = 116
      ·simp only [if_pos h2] at e
       obtain rfl:=bX h2 dC
       exact .txt _ _ _ _ hr e
      ·simp only [if_neg h2] at e
       by_cases h3 : c.toNat = 102
       ·simp only [if_pos h3] at e
        obtain rfl:=bX h3 dC
        exact .flg _ _ _ _ hr e
       ·simp only [if_neg h3] at e;cases e
    | some t =>
     rw [hr] at e
     dsimp only at e
     unfold bA at e
     cases s with
     | nil=>cases e
     | cons d s =>
      dsimp only at e
      by_cases h82 : t.sort = 82
      ·simp only [if_pos h82] at e
       by_cases hd : d.toNat = 123
       ·simp only [if_pos hd] at e
        obtain rfl:=bX hd dC
        cases s with
        | nil=>cases e
        | cons d' r =>
         dsimp only at e
         by_cases hd' : d'.toNat = 125
         ·simp only [if_pos hd',Option.some.injEq] at e;subst e
          obtain rfl:=bX hd' dC
          exact .recd0 _ _ t hr h82
         ·simp only [if_neg hd'] at e
          cases hf : ck ts f t ((d' :: r).length + 1) 0 (d' :: r) [] with
          | none=>rw [hf] at e;cases e
          | some y =>
           rw [hf] at e
           simp only [Option.map_some,Option.some.injEq] at e;subst e
           exact .recd _ _ _ t _ hr h82 hf
       ·simp only [if_neg hd] at e;cases e
      ·simp only [if_neg h82] at e
       by_cases h69 : t.sort = 69
       ·simp only [if_pos h69] at e
        by_cases hd : d.toNat = 35
        ·simp only [if_pos hd] at e
         obtain rfl:=bX hd dC
         cases hn : cM 200 s with
         | none=>rw [hn] at e;cases e
         | some y =>
          rw [hn] at e
          obtain ⟨n,r⟩:=y
          dsimp only at e
          split at e
          ·rename_i hs
           simp only [Option.some.injEq] at e;subst e
           exact .enm _ _ _ t _ hr h69 hn hs
          ·cases e
        ·simp only [if_neg hd] at e;cases e
       ·simp only [if_neg h69] at e
        by_cases hd : d.toNat = 60
        ·simp only [if_pos hd] at e
         obtain rfl:=bX hd dC
         cases hf : aY f t s with
         | none=>rw [hf] at e;cases e
         | some y =>
          rw [hf] at e
          obtain ⟨⟨fd,v⟩,r⟩:=y
          cases r with
          | nil=>cases e
          | cons c' r =>
           dsimp only at e
           by_cases hc' : c'.toNat = 62
           ·simp only [if_pos hc',Option.some.injEq] at e;subst e
            obtain rfl:=bX hc' dC
            exact .uni _ _ _ t _ _ hr h82 h69 hf
           ·simp only [if_neg hc'] at e;cases e
        ·simp only [if_neg hd] at e;cases e
mutual
def V.tot : V → Nat
 | .nd _ x _ ks=>20 + x.length + V.tots ks
def V.tots : List V → Nat
 | []=>0
 | v :: r=>V.tot v + V.tots r
end
theorem fE : ∀ (a b : List V),V.tots (a ++ b) = V.tots a + V.tots b
 | [],b=>by simp [V.tots]
 | v :: a,b=>by simp only [List.cons_append,V.tots,fE a b];omega
theorem iJ (v : V) : 20 ≤ v.tot:=by obtain ⟨w,x,t,ks⟩:=v;rw [V.tot];omega
theorem ot : ∀ {ks : List V} {v : V},v ∈ ks → V.tot v ≤ V.tots ks
 | u :: ks,v,h=>by
  rw [V.tots]
  rcases List.mem_cons.1 h with rfl | h
  ·omega
  ·have:=ot h;omega
theorem dk : ∀ (ks : List V),20 * ks.length ≤ V.tots ks
 | []=>by simp [V.tots]
 | u :: ks=>by rw [V.tots,List.length_cons];have:=dk ks;have:=iJ u;omega
theorem gy (n : Int) : 1 ≤ (be n).length:=by
 by_cases h : n < 10
 ·by_cases h0 : 0 ≤ n
  ·rw [dZ h h0];simp
  ·have : n.toNat = (0 : Int).toNat:=oM
   have e : be n = be 0:=by unfold be;rw [this]
   rw [e,dZ dC dC];simp
 ·rw [iU h];simp
theorem mN {top : Int} {s r : adB} {n : Int} (h : cM top s = some (n,r)) : (be n).length + r.length = s.length ∧ 1 ≤ (be n).length:=by
 have:=kI h
 exact ⟨by rw [this];simp,gy n⟩
theorem nX {f : adB → Option (V × adB)} (h : ∀ s y,f s = some y → y.1.tot + 100 * y.2.length ≤ 100 * s.length) : ∀ (m : Nat) (s : adB) (acc : List V) {x : List V × adB},bJ f m s acc = some x → V.tots x.1 + 100 * (x.2.length + 1) ≤ V.tots acc + 100 * s.length
 | 0,_,_,_,e=>by cases e
 | m + 1,s,acc,x,e=>by
  unfold bJ at e
  cases hf : f s with
  | none=>rw [hf] at e;cases e
  | some y =>
   rw [hf] at e
   have hy:=h s y hf
   obtain ⟨v,r⟩:=y
   cases r with
   | nil=>cases e
   | cons c r =>
    dsimp only at e hy
    have e2 : V.tots (acc ++ [v]) = V.tots acc + v.tot:=by simp [fE,V.tots]
    rw [List.length_cons] at hy
    split at e
    ·have:=nX h m r _ e
     omega
    ·split at e
     ·simp only [Option.some.injEq] at e;subst e
      dsimp only;omega
     ·cases e
theorem n4 {f : adB → adB → Option (V × adB)} (h : ∀ k s y,f k s = some y → y.1.tot + 100 * y.2.length ≤ 100 * s.length) {t : Ty} {s : adB} {x : (Fld × V) × adB} (e : aY f t s = some x) : x.1.2.tot + 100 * x.2.length + 200 ≤ 100 * s.length:=by
 unfold aY at e
 cases hn : cM 200 s with
 | none=>rw [hn] at e;cases e
 | some y =>
  rw [hn] at e
  obtain ⟨n,r⟩:=y
  obtain ⟨h1,h2⟩:=mN hn
  dsimp only at e
  cases hd : co t.fields n with
  | none=>rw [hd] at e;cases e
  | some d =>
   rw [hd] at e
   cases r with
   | nil=>cases e
   | cons c r' =>
    dsimp only at e
    rw [List.length_cons] at h1
    by_cases hc : c.toNat = 61
    ·rw [if_pos hc] at e
     cases hf : f d.kind r' with
     | none=>rw [hf] at e;cases e
     | some y =>
      rw [hf] at e
      simp only [Option.map_some,Option.some.injEq] at e
      subst e
      have h3:=h _ _ _ hf
      dsimp only
      omega
    ·rw [if_neg hc] at e;cases e
theorem pA {ts : List Ty} {f : adB → adB → Option (V × adB)} (h : ∀ k s y,f k s = some y → y.1.tot + 100 * y.2.length ≤ 100 * s.length) {t : Ty} : ∀ (m : Nat) (last : Int) (s : adB) (acc : List V) {x : List V × adB},ck ts f t m last s acc = some x → V.tots x.1 + 100 * (x.2.length + 1) ≤ V.tots acc + 100 * s.length
 | 0,_,_,_,_,e=>by cases e
 | m + 1,last,s,acc,x,e=>by
  unfold ck at e
  cases hf : aY f t s with
  | none=>rw [hf] at e;cases e
  | some y =>
   rw [hf] at e
   have hy:=n4 h hf
   obtain ⟨⟨d,v⟩,r⟩:=y
   dsimp only at e hy
   split at e
   ·cases e
   ·cases r with
    | nil=>cases e
    | cons c r =>
     dsimp only at e
     have e2 : V.tots (acc ++ [V.nd 61 [] d.tag [v]]) = V.tots acc + (20 + v.tot):=by simp [fE,V.tots,V.tot]
     rw [List.length_cons] at hy
     split at e
     ·have:=pA h m _ r _ e
      omega
     ·split at e
      ·simp only [Option.some.injEq] at e;subst e
       dsimp only;omega
      ·cases e
theorem gr {ts : List Ty} : ∀ (n : Nat) (k s : adB) (x : V × adB),rd ts n k s = some x → x.1.tot + 100 * x.2.length ≤ 100 * s.length
 | 0,_,_,_,e=>by cases e
 | n + 1,k,s,x,e=>by
  have ih : ∀ k s y,rd ts n k s = some y → y.1.tot + 100 * y.2.length ≤ 100 * s.length:=fun k s y hy=>gr n k s y hy
  have h:=qr k s (x:=x) e
  obtain ⟨v,r⟩:=x
  dsimp only at h ⊢
  cases h with
  | lst0=>simp only [V.tot,V.tots,List.length_cons,List.length_nil];omega
  | lst k s r vs h =>
   have:=nX (ih k) _ _ _ h
   simp only [V.tot,V.tots,List.length_cons,List.length_nil] at this ⊢;omega
  | non=>simp only [V.tot,V.tots,List.length_cons,List.length_nil];omega
  | opt k s r v h =>
   have:=ih _ _ _ h
   simp only [V.tot,V.tots,List.length_cons,List.length_nil] at this ⊢;omega
  | num k s r n _ h =>
   have:=mN h
   simp only [V.tot,V.tots];omega
  | txt k s r v _ h =>
   have e1:=nW h
   have h2 : v.out.length = 2 + v.text.length ∧ v.tot = 20 + v.text.length:=by
    unfold dP at h
    split at h
    ·cases h
    ·split at h
     ·split at h
      ·split at h
       ·simp only [Option.some.injEq,Prod.mk.injEq] at h
        obtain ⟨rfl,_⟩:=h
        simp [V.out,c5,V.text,V.tot,V.tots];omega
       ·cases h
      ·cases h
     ·cases h
   rw [e1]
   simp only [List.length_append]
   omega
  | flg k s r v _ h =>
   have e1:=pE h
   have h2 : 2 ≤ v.out.length ∧ v.tot ≤ 23:=by
    unfold eO at h
    split at h
    ·simp only [Option.some.injEq,Prod.mk.injEq] at h
     obtain ⟨rfl,_⟩:=h
     simp [V.out,c5,V.tot,V.tots]
    ·split at h
     ·simp only [Option.some.injEq,Prod.mk.injEq] at h
      obtain ⟨rfl,_⟩:=h
      simp [V.out,c5,V.tot,V.tots]
     ·cases h
   rw [e1]
   simp only [List.length_append]
   omega
  | recd0=>simp only [V.tot,V.tots,List.length_cons,List.length_nil];omega
  | recd k s r t vs _ _ h =>
   have:=pA ih _ _ _ _ h
   simp only [V.tot,V.tots,List.length_cons,List.length_nil] at this ⊢;omega
  | enm k s r t n _ _ h _ =>
   have:=mN h
   simp only [V.tot,V.tots,List.length_cons,List.length_nil];omega
  | uni k s r t d v _ _ _ h =>
   have:=n4 ih h
   simp only [V.tot,V.tots,List.length_cons,List.length_nil] at this ⊢;omega
abbrev g0 : TypeId:=178
abbrev lF : TypeId:=5
theorem abM {n : Nat} {D : List Deferred} {E : bN} {B : Base} {L : List Own} {K : Act → World → Prop} {Q : Exit → Act → World → Prop} {ty : TypeId} {pos : String} {aft : Array Edge} {gd : Option (Nat × Bool)} {d : Nat} {fo x : Operand} {ag : Array TypeId} {m : Nat}
  (hf : ev E fo = some (.func (.func 173) #[] #[])) (hx : ev E x = some (I (m : Nat))) (hlt : Nat.blt d n = true) (hm : 0 < m ∧ m ≤ 1000000000)
  (k : ∀ b cap,m ≤ cap + 1 → Nx n D ((d,.slice (some ⟨b,0,none⟩) m (cap + 1)) :: E) B G (.acc (.slice (some ⟨b,0,none⟩) 0 (cap + 1)) lF 1 0 [] :: L) K) : Nx n D E B G L (ow adA ⟨some d,.call ⟨.value fo,[x].toArray,ag⟩,ty,pos,aft,gd⟩ Q K) :=
 acI (ps:=#[3]) hf hx hlt Tryz.func173 kR kR kR kR (TI.und (T:=28)) hm k
theorem acL {b : Nat} {v : Value} : dO adA 150 [Pt b 0] G [.blk b (.cells (List.toArray [.pointer none,v]) g0 (0,0))] (fun r L'=>L' = [.blk b (.cells (List.toArray [Pt b 0,v]) g0 (0,0))]):=by
 have hx : ∀ w,(callFunc 172 [Pt b 0].toArray).run adA w = .ok (.value (Pt b 0)) w:=fun w=>by
  rw [run_callFunc_extern Tryz.func172 kR kR kR (e:=Extern.AbiNoEscape.same) kR]
  rw [Lib.run_noEscape];rfl
 refine jH [(0,_)] Tryz.func150 Tryz.ntmps150 fun B hB hW=>?_
 repeat' (first | refine jR ?_ | (refine jo ?_;first | refine aB F ?_ | refine jV (dh F F) ?_ | refine jV (ack kR F F F) ?_) | refine ac F F ?_)
 refine vG F (kX (oK F F F hx) F F ?_)
 repeat' (first | refine jR ?_ | (refine jo ?_;first | refine jV (zG kR F kR) ?_ | refine jD F F F ?_))
 exact ku (vs:=[]) F trivial F a7 ⟨F,F⟩
theorem acK {b : Nat} {v : Value} : dO adA 150 [Pt b 0] G [.blk b (.cells (List.toArray [Pt b 0,v]) g0 (0,0))] (fun r L'=>L' = [.blk b (.cells (List.toArray [Pt b 0,v]) g0 (0,0))]):=by
 refine jH [(0,_)] Tryz.func150 Tryz.ntmps150 fun B hB hW=>?_
 repeat' (first | refine jR ?_ | (refine jo ?_;first | refine aB F ?_ | refine jV (dh F F) ?_ | refine jV (aa9 F F) ?_) | refine ad F F ?_)
 exact ku (vs:=[]) F trivial F a7 ⟨F,F⟩
theorem aam {b m : Nat} (hm : 0 < m ∧ m ≤ 1000000000) : dO adA 151 [Pt b 0,I (m : Nat)] G [.blk b (.cells (List.toArray [Pt b 0,aK]) g0 (0,0))] (fun r L'=>∃ b2 c2,L' = [.acc (.slice (some ⟨b2,0,none⟩) 0 (c2 + 1)) lF 1 0 [],.blk b (.cells (List.toArray [Pt b 0,.slice (some ⟨b2,0,none⟩) 0 (c2 + 1)]) g0 (0,0))]):=by
 refine jH [(0,_),(1,_)] Tryz.func151 Tryz.ntmps151 fun B hB hW=>?_
 repeat' (first | refine jR ?_ | (refine jo ?_;first | refine aB F ?_ | refine jV (zJ F F) ?_ | refine jD F F F ?_) | (refine an (ao (id:=0) _ (fun _ h=>h) am ?_);refine jT 9 [0,1,2,6,9,10,11] (aa 16 3655) ?_;(refine jG (aa 16 3663) 3 F (aX F F F) ?_);(refine jG (aa 16 3679) 4 F (yU F) ?_);refine jW 5 [5,7] (aa 16 3839) ?_;(refine jG (aa 16 7935) 12 F (aX F F F) ?_);(refine jG (aa 16 16127) 13 F (af F) ?_);refine jA 8 F ?_;(refine abM F F F oM (fun _ _ _=>?_));refine jS (aa 16 16383) ?_;(refine jG (aa 16 32767) 14 F (s5 F F oM) ?_);refine jT 0 [15] (aa 16 65535) ?_;refine jQ ?_))
 exact ku (vs:=[]) F trivial F (List.Sublist.refl _) ⟨F,_,_,F⟩
theorem aap {b m : Nat} (hm : 0 < m ∧ m ≤ 1000000000) : dO adA 112 [Pt b 0,I (m : Nat)] G [.blk b (.cells (List.toArray [.pointer none,aK]) g0 (0,0))] (fun r L'=>∃ b2 c2,L' = [.acc (.slice (some ⟨b2,0,none⟩) 0 (c2 + 1)) lF 1 0 [],.blk b (.cells (List.toArray [Pt b 0,.slice (some ⟨b2,0,none⟩) 0 (c2 + 1)]) g0 (0,0))]):=by
 refine jH [(0,_),(1,_)] Tryz.func112 Tryz.ntmps112 fun B hB hW=>?_
 repeat' (first | refine jR ?_ | (refine jo ?_;first | (refine aL F F F acL F ?_;rintro _ _ rfl;dsimp only [zA,fA]) | (refine aL F F F (aam oM) F ?_;rintro _ _ ⟨b2,c2,hb2,rfl⟩;dsimp only [zA,fA])) | refine ac F (ax oM) ?_ | refine ad F F ?_ | (refine an (ao (id:=3) _ (fun _ h=>h) am ?_);refine jT 6 [0,1,2,5,6,7,11] (aa 13 2279) ?_;(refine jG (aa 13 2287) 3 F (aX F F F) ?_);(refine jG (aa 13 2303) 4 F (yU F) ?_);(refine jG (aa 13 2559) 8 F (aX F F F) ?_);(refine jG (aa 13 3071) 9 F (af F) ?_);refine jW 0 [10,12] (aa 13 8191) ?_;refine jQ ?_))
 exact ku (vs:=[]) F trivial F (List.Sublist.refl _) ⟨F,_,_,F⟩
theorem wS {b b1 c1 m : Nat} {xs : List Value} {l : adB} (hm : m + l.length ≤ 1000000000) : dO adA 113 [Pt b 0,S l] G [.blk b (.cells (List.toArray [Pt b 0,.slice (some ⟨b1,0,none⟩) m (c1 + 1)]) g0 (0,0)),.acc (.slice (some ⟨b1,0,none⟩) m (c1 + 1)) lF 1 m xs]
  (fun r L'=>∃ b2 c2,r = Tu [I l.length,.nilIface] ∧ L' = [.acc (.slice (some ⟨b2,0,none⟩) (m + l.length) (c2 + 1)) lF 1 (m + l.length) (xs ++ cE l),.blk b (.cells (List.toArray [Pt b 0,.slice (some ⟨b2,0,none⟩) (m + l.length) (c2 + 1)]) g0 (0,0))]):=by
 refine jH [(0,_),(1,_)] Tryz.func113 Tryz.ntmps113 fun B hB hW=>?_
 repeat' (first | refine jR ?_ | (refine jo ?_;first | refine aB F ?_ | refine acQ F F F oM fun _ _=>?_ | refine jD F F F ?_ | (refine aL F F F acK F ?_;rintro _ _ rfl;dsimp only [zA,fA])))
 exact aW (vs:=[_,_]) F ⟨F,F,trivial⟩ F (List.Sublist.refl _) ⟨F,_,_,F,F⟩
theorem abT {b b1 c1 m : Nat} {l : adB} (hm : m ≤ 1000000000) : dO adA 114 [Pt b 0] G [.blk b (.cells (List.toArray [Pt b 0,.slice (some ⟨b1,0,none⟩) m (c1 + 1)]) g0 (0,0)),.acc (.slice (some ⟨b1,0,none⟩) m (c1 + 1)) lF 1 m (cE l)]
  (fun r L'=>r = S l ∧ L' = []):=by
 refine jH [(0,_)] Tryz.func114 Tryz.ntmps114 fun B hB hW=>?_
 repeat' (refine jR ?_)
 (refine an (ao (id:=1) [.blk b (.cells (List.toArray [Pt b 0,.slice (some ⟨b1,0,none⟩) m (c1 + 1)]) g0 (0,0))] (by intro y hy;simp only [List.mem_cons,List.not_mem_nil,or_false] at hy ⊢;simp [hy]) am ?_);refine jW 6 [0,1,2,5,6,7] (aa 12 231) ?_;(refine jG (aa 12 239) 3 F (aX F F F) ?_);(refine jG (aa 12 255) 4 F (aa7 F F) ?_);(refine jG (aa 12 511) 8 F (aX F F F) ?_);(refine jG (aa 12 1023) 9 F (af F) ?_);refine jA 10 F ?_;(refine abD kR F F F oM ?_);refine jS (aa 12 2047) ?_;refine jT 0 [11] (aa 12 4095) ?_;refine jQ ?_)
 repeat' (refine jR ?_)
 refine jZ (vs:=[_]) F ⟨F,trivial⟩ F ⟨F,F,?_⟩
 rfl
def dt (xs : List adB) : Nat:=(xs.map List.length).sum
theorem vD (xs : List adB) (x : adB) : dt (xs ++ [x]) = dt xs + x.length:=by simp [dt]
theorem fq : ∀ (xs : List adB) (i : Nat),dt (xs.take i) ≤ dt xs
 | [],i=>by simp [dt]
 | x :: xs,0=>by simp [dt]
 | x :: xs,i + 1=>by
  have:=fq xs i
  simp only [dt,List.take_succ_cons,List.map_cons,List.sum_cons] at this ⊢;omega
theorem lX (c : UInt8) (y : adB) : ∀ (xs : List adB),xs ≠ [] → aO c (xs ++ [y]) = aO c xs ++ c :: y
 | [],h=>absurd rfl h
 | [x],_=>by simp [aO]
 | x :: z :: r,_=>by
  have:=lX c y (z :: r) (by simp)
  simp only [List.cons_append,aO] at this ⊢
  rw [this];simp
theorem gv (c : UInt8) : ∀ (xs : List adB),(aO c xs).length ≤ dt xs + xs.length
 | []=>by simp [aO]
 | [x]=>by simp [aO,dt]
 | x :: z :: r=>by
  have:=gv c (z :: r)
  simp only [aO,dt,List.map_cons,List.sum_cons,List.length_append,List.length_cons] at this ⊢;omega
theorem Nx.cast {n : Nat} {D : List Deferred} {E : bN} {B : Base} {L L' : List Own} {K : Act → World → Prop} (e : L = L') (h : Nx n D E B G L' K) : Nx n D E B G L K:=by subst e;exact h
theorem aT.cap {G : Gh} {p : Option Addr} {c sz m : Nat} {xs : List Value} (h : aT G (.slice p m c) sz m xs) : m ≤ c:=by
 obtain ⟨_,⟨h1,h2⟩ | ⟨b,o,cap,e,h1,_⟩⟩:=h
 ·omega
 ·simp only [Value.slice.injEq,true_and] at e;omega
theorem bT.tailS {G : Gh} {b o : Nat} {xs : List adB} (h : bT G b o (ah c9 xs)) : bT G b (o + 1) (ah c9 (xs.drop 1)):=by
 cases xs with
 | nil=>obtain ⟨cs,h1,_⟩:=h;exact ⟨cs,h1,fun i v hv=>by simp [ah] at hv⟩
 | cons x r =>
  obtain ⟨cs,h1,h2⟩:=h
  refine ⟨cs,h1,fun i v hv=>?_⟩
  have:=h2 (i + 1) v (by simpa [ah,c9] using hv)
  rw [show o + 1 + i = o + (i + 1) by omega];exact this
theorem rl (xs : List adB) (i : Nat) : ab (xs.drop 1) i = ab xs (i + 1):=by
 cases xs with
 | nil=>simp [ab]
 | cons x r=>simp [ab,List.getD]
theorem mZ {xs : List adB} {i : Nat} (h : i < xs.length) : dt (xs.take (i + 1)) = dt (xs.take i) + (ab xs i).length:=by
 rw [dl h,vD]
theorem xi {v : Value} {xs : List adB} {c : UInt8} (hs : aT G v 1 xs.length (ah c9 xs)) (hl : dt xs + xs.length ≤ 100000000) : aZ adA 68 [v,S [c]] G (· = S (aO c xs)):=by
 by_cases h0 : xs = []
 ·subst h0
  refine jE [(0,_),(1,_)] Tryz.func68 Tryz.ntmps68 fun B hB=>?_
  repeat' (first | refine jR ?_ | (refine jo ?_;refine jV (eY F aS) ?_) | refine ac F F ?_)
  refine jY (vs:=[_]) ?_
  rfl
 have hpos:=List.length_pos_iff.2 h0
 obtain ⟨bv,ov,cv,rfl,hsv⟩:=hs.expl oM
 by_cases h1 : xs.length = 1
 ·obtain ⟨x,rfl⟩:=List.length_eq_one_iff.1 h1
  refine jE [(0,_),(1,_)] Tryz.func68 Tryz.ntmps68 fun B hB=>?_
  repeat' (first | refine jR ?_ | (refine jo ?_;first | refine jV (af F) ?_ | refine jV (ak F F oM) ?_ | refine jV (aj F F aS F F) ?_) | refine ac F F ?_ | refine ad F F ?_)
  refine jY (vs:=[_]) ?_
  rfl
 have hcap:=hs.cap
 have hq : ¬ (9223372036854775807 / ((xs.length : Int) - 1) ≤ ((([c] : adB).length : Nat) : Int)):=by
  have : (2 : Int) ≤ 9223372036854775807 / ((xs.length : Int) - 1):=Int.le_ediv_of_mul_le oM oM
  have e : ((([c] : adB).length : Nat) : Int) = 1:=rfl
  omega
 have e1 : ((([c] : adB).length : Nat) : Int) * ((xs.length : Int) - 1) = (xs.length : Int) - 1:=by
  have e : ((([c] : adB).length : Nat) : Int) = 1:=rfl
  rw [e];omega
 have p1 : ((([c] : adB).length : Nat) : Int) * ((xs.length : Int) - 1) ≤ 9223372036854775807:=by rw [e1];omega
 have p2 : -9223372036854775808 ≤ ((([c] : adB).length : Nat) : Int) * ((xs.length : Int) - 1):=by rw [e1];omega
 have p3 : 0 + ((([c] : adB).length : Nat) : Int) * ((xs.length : Int) - 1) ≤ 9223372036854775807:=by rw [e1];omega
 have p4 : -9223372036854775808 ≤ 0 + ((([c] : adB).length : Nat) : Int) * ((xs.length : Int) - 1):=by rw [e1];omega
 refine jE [(0,_),(1,_)] Tryz.func68 Tryz.ntmps68 fun B hB=>?_
 repeat' (first | refine jM ?_ | (refine jo ?_;refine jV (af F) ?_) | refine ac F F ?_ | (refine ad F (by refine decide_eq_false ?_;first | assumption | omega) ?_))
 refine Nx.re (d:=5) (v':=I ((xs.length : Int) - 1 + (dt (xs.take 0) : Nat))) F (congrArg (Value.int .i64) (by rw [e1];simp [dt])) ?_
 refine aV (ι:=Nat) (fun i=>i ≤ xs.length) (fun i=>[(0,.slice (some ⟨bv,ov,none⟩) xs.length cv),(1,S [c]),(39,.slice (some ⟨bv,ov,none⟩) xs.length cv),(40,I xs.length),(41,I i),(5,I ((xs.length : Int) - 1 + (dt (xs.take i) : Nat)))]) (fun _=>G) (fun i=>[]) (fun i=>xs.length - i) 0 ?_ tU F a7 (fun i Hi=>?_)
 ·exact Nat.zero_le _
 have hb1:=fq xs i
 by_cases hi : i < xs.length
 ·have hb2:=mZ hi
  have hb3:=fq xs (i + 1)
  repeat' (first | refine jM ?_ | (refine jo ?_;first | refine jV (ak F F oM) ?_ | (refine jV (fN F F aS ?_) ?_;focus omega)) | refine ac F (ax oM) ?_ | refine ad F (aF oM) ?_)
  refine Nx.re (d:=5) (v':=I ((xs.length : Int) - 1 + (dt (xs.take (i + 1)) : Nat))) F (congrArg (Value.int .i64) (by rw [hb2];omega)) ?_
  exact bm (i + 1) oM oM tU F a7
 have hin : i = xs.length:=oM
 subst hin
 rw [List.take_length] at *
 refine Nx.re (d:=5) (v':=I ((xs.length - 1 + dt xs : Nat) : Int)) F (congrArg (Value.int .i64) oM) ?_
 have hb0 : (ab xs 0).length ≤ dt xs:=by have:=mZ (i:=0) hpos;have:=fq xs (0 + 1);omega
 have hw0 : 0 + (ab xs 0).length ≤ 1000000000:=oM
 have hsv1:=hsv.tailS
 have hdl : (xs.drop 1).length = xs.length - 1:=by rw [List.length_drop]
 have eJ0 : aO c (xs.take (0 + 1)) = ab xs 0:=by rw [dl hpos];rfl
 repeat' (first | refine jR ?_ | (refine jo ?_;first | refine jV (af F) ?_ | refine jV (ak F F oM) ?_ | (refine jV (fN F F aS ?_) ?_;focus omega) | refine jL fun _=>?_ | refine jV (acm F F oM) ?_ | (refine aL F F F (aap oM) F ?_;rintro _ _ ⟨b2,c2,rfl⟩;dsimp only [zA,fA]) | (refine vW F F F (wS (by (repeat (assumption));done)) rfl ?_;rintro _ _ ⟨b3,c3,rfl,rfl⟩;dsimp only [zA,fA])) | refine ad F (aF oM) ?_)
 rename_i x _
 refine Nx.cast (L':=[.acc (.slice (some ⟨b3,0,none⟩) (aO c (xs.take (0 + 1))).length (c3 + 1)) lF 1 (aO c (xs.take (0 + 1))).length (cE (aO c (xs.take (0 + 1)))),.blk x (.cells (List.toArray [Pt x 0,.slice (some ⟨b3,0,none⟩) (aO c (xs.take (0 + 1))).length (c3 + 1)]) g0 (0,0))]) (by rw [eJ0];simp only [Nat.zero_add]) ?_
 refine aV (ι:=Nat × Nat × Nat) (fun q=>q.1 ≤ xs.length - 1) (fun q=>[(1,S [c]),(63,.slice (some ⟨bv,ov + 1,none⟩) (xs.length - 1) (cv - 1)),(64,I (xs.length - 1 : Nat)),(65,I q.1),(8,Pt x 0)]) (fun _=>G) (fun q=>[.acc (.slice (some ⟨q.2.1,0,none⟩) (aO c (xs.take (q.1 + 1))).length (q.2.2 + 1)) lF 1 (aO c (xs.take (q.1 + 1))).length (cE (aO c (xs.take (q.1 + 1)))),.blk x (.cells (List.toArray [Pt x 0,.slice (some ⟨q.2.1,0,none⟩) (aO c (xs.take (q.1 + 1))).length (q.2.2 + 1)]) g0 (0,0))]) (fun q=>xs.length - q.1) (0,b3,c3) ?_ tU F a7 (fun q Hq=>?_)
 ·exact Nat.zero_le _
 obtain ⟨i,b4,c4⟩:=q
 dsimp only at Hq ⊢
 have hj1:=gv c (xs.take (i + 1))
 have hj2:=fq xs (i + 1)
 have hj3 : (xs.take (i + 1)).length ≤ xs.length:=by rw [List.length_take];omega
 by_cases hi2 : i < xs.length - 1
 ·have hwA : (aO c (xs.take (i + 1))).length + ([c] : adB).length ≤ 1000000000:=by rw [List.length_singleton];omega
  have hy1:=mZ (xs:=xs) (i:=i + 1) oM
  have hy2:=fq xs (i + 1 + 1)
  have hwB : (aO c (xs.take (i + 1))).length + ([c] : adB).length + (ab (xs.drop 1) i).length ≤ 1000000000:=by rw [rl,List.length_singleton];omega
  have ej : aO c (xs.take (i + 1 + 1)) = aO c (xs.take (i + 1)) ++ c :: ab (xs.drop 1) i:=by
   rw [dl oM,lX c _ _ (by rw [ne_eq,List.take_eq_nil_iff];simp [h0]),rl]
  repeat' (first | refine jM ?_ | (refine jo ?_;first | refine jV (ak F F oM) ?_ | (refine jV (fN F F aS ?_) ?_;focus omega) | (refine vW F F F (wS (by (repeat (assumption));done)) rfl ?_;rintro _ _ ⟨b3,c3,rfl,rfl⟩;dsimp only [zA,fA])) | refine ac F (ax oM) ?_)
  refine Nx.cast (L':=[.acc (.slice (some ⟨b3,0,none⟩) (aO c (xs.take (i + 1 + 1))).length (c3 + 1)) lF 1 (aO c (xs.take (i + 1 + 1))).length (cE (aO c (xs.take (i + 1 + 1)))),.blk x (.cells (List.toArray [Pt x 0,.slice (some ⟨b3,0,none⟩) (aO c (xs.take (i + 1 + 1))).length (c3 + 1)]) g0 (0,0))]) (by
   have e2 : (aO c (xs.take (i + 1 + 1))).length = (aO c (xs.take (i + 1))).length + ([c] : adB).length + (ab (xs.drop 1) i).length:=by rw [ej];simp;omega
   have e3 : cE (aO c (xs.take (i + 1 + 1))) = cE (aO c (xs.take (i + 1))) ++ cE [c] ++ cE (ab (xs.drop 1) i):=by rw [ej];simp [cE]
   rw [e2,e3]) ?_
  exact bm (i + 1,b3,c3) (by dsimp only;omega) (by dsimp only;omega) tU rfl a7
 ·have ei : xs.take (i + 1) = xs:=List.take_of_length_le oM
  rw [ei] at hj1 ⊢
  repeat' (first | refine jR ?_ | (refine jo ?_;(refine vW F F F (abT oM) F ?_;rintro _ _ ⟨rfl,rfl⟩;dsimp only [zA,fA])) | refine ad F (aF oM) ?_)
  refine jY (vs:=[_]) ?_
  rfl
structure VC where
 what : Nat
 text : adB
 tag : Int
 a : Option Addr
 n : Nat
 c : Nat
instance : Inhabited VC:=⟨⟨0,[],0,none,0,0⟩⟩
abbrev VC.sl (v : VC) : Value:=.slice v.a v.n v.c
def bi (v : VC) : List Value:=[U8 (v.what : Nat),S v.text,I v.tag,v.sl]
instance : RowF bi 4:=⟨fun _=>rfl⟩
mutual
def V.rep (G : Gh) : V → VC → Prop
 | .nd w x t ks,c=>(c.what = w ∧ w ≤ 255) ∧ c.text = x ∧ (c.tag = t ∧ 0 ≤ t ∧ t ≤ 999999) ∧ (c.n = ks.length ∧ (w = 61 → ks.length = 1)) ∧ ∃ cs,aT G c.sl 4 cs.length (ah bi cs) ∧ V.reps G ks cs
def V.reps (G : Gh) : List V → List VC → Prop
 | [],cs=>cs = []
 | v :: r,cs=>∃ c cs',cs = c :: cs' ∧ V.rep G v c ∧ V.reps G r cs'
end
theorem gn {G : Gh} : ∀ {ks : List V} {cs : List VC},V.reps G ks cs → cs.length = ks.length
 | [],cs,h=>by rw [V.reps] at h;subst h;rfl
 | v :: r,cs,h=>by
  rw [V.reps] at h
  obtain ⟨c,cs',rfl,_,h2⟩:=h
  rw [List.length_cons,List.length_cons,gn h2]
theorem fV {G : Gh} : ∀ {ks : List V} {cs : List VC},V.reps G ks cs → ∀ i,i < ks.length → V.rep G (ab ks i) (ab cs i)
 | [],_,_,i,hi=>by simp at hi
 | v :: r,cs,h,i,hi=>by
  rw [V.reps] at h
  obtain ⟨c,cs',rfl,h1,h2⟩:=h
  cases i with
  | zero=>exact h1
  | succ i=>exact fV h2 i (by simpa using hi)
theorem ib {G : Gh} {v : V} {c : VC} (h2 : V.rep G v c) : ∀ {ks : List V} {cs : List VC},V.reps G ks cs → V.reps G (ks ++ [v]) (cs ++ [c])
 | [],cs,h=>by
  rw [V.reps] at h;subst h
  exact ⟨c,[],F,h2,F⟩
 | u :: r,cs,h=>by
  rw [V.reps] at h
  obtain ⟨d,cs',rfl,h1,h3⟩:=h
  exact ⟨d,cs' ++ [c],F,h1,ib h2 h3⟩
mutual
theorem aD {G G' : Gh} (hl : Gh.le G G') : ∀ {v : V} {c : VC},V.rep G v c → V.rep G' v c
 | .nd w x t ks,c,h=>by
  rw [V.rep] at h ⊢
  obtain ⟨h1,h2,h3,h4,cs,h5,h6⟩:=h
  exact ⟨h1,h2,h3,h4,cs,h5.mono hl,cL hl h6⟩
theorem cL {G G' : Gh} (hl : Gh.le G G') : ∀ {ks : List V} {cs : List VC},V.reps G ks cs → V.reps G' ks cs
 | [],cs,h=>h
 | v :: r,cs,h=>by
  rw [V.reps] at h ⊢
  obtain ⟨c,cs',e,h1,h2⟩:=h
  exact ⟨c,cs',e,aD hl h1,cL hl h2⟩
end
theorem cS {G : Gh} {w : Nat} {x : adB} {t : Int} {ks : List V} {c : VC} (h : V.rep G (.nd w x t ks) c) : ∃ (a : Option Addr) (k : Nat) (cs : List VC),c = ⟨w,x,t,a,ks.length,k⟩ ∧ w ≤ 255 ∧ (0 ≤ t ∧ t ≤ 999999) ∧ (w = 61 → ks.length = 1) ∧ cs.length = ks.length ∧ aT G (.slice a ks.length k) 4 cs.length (ah bi cs) ∧ V.reps G ks cs:=by
 rw [V.rep] at h
 obtain ⟨⟨h1,h1'⟩,h2,⟨h3,h3'⟩,⟨h4,h4'⟩,cs,h5,h6⟩:=h
 obtain ⟨w',x',t',a,n,k⟩:=c
 dsimp only at h1 h2 h3 h4 h5
 subst h1;subst h2;subst h3;subst h4
 exact ⟨a,k,cs,F,h1',h3',h4',gn h6,h5,h6⟩
theorem dV {G : Gh} {w : Nat} {x : adB} {t : Int} {ks : List V} {a : Option Addr} {k m : Nat} {cs : List VC} (hw : w ≤ 255) (ht : 0 ≤ t ∧ t ≤ 999999) (h61 : w = 61 → ks.length = 1) (hm : m = ks.length) (hs : aT G (.slice a m k) 4 cs.length (ah bi cs)) (hk : V.reps G ks cs) : V.rep G (.nd w x t ks) ⟨w,x,t,a,m,k⟩:=by
 rw [V.rep];exact ⟨⟨F,hw⟩,F,⟨F,ht⟩,⟨hm,h61⟩,cs,hs,hk⟩
theorem zh {G : Gh} : aT G aK 4 ([] : List VC).length (ah bi []):=⟨rfl,.inl ⟨rfl,rfl⟩⟩
theorem c7 {G : Gh} {w : Nat} {x : adB} {t : Int} (hw : w ≤ 255 ∧ w ≠ 61) (ht : 0 ≤ t ∧ t ≤ 999999) : V.rep G (.nd w x t []) ⟨w,x,t,none,0,0⟩:=dV hw.1 ht (fun h=>absurd h hw.2) rfl zh rfl
theorem lP : ∀ {ks : List V} {i : Nat},i < ks.length → ab (V.outs ks) i = (ab ks i).out
 | [],i,h=>by simp at h
 | v :: r,0,_=>rfl
 | v :: r,i + 1,h=>by
  have:=lP (ks:=r) (i:=i) (by simpa using h)
  simpa [V.outs,ab] using this
theorem kl (ks : List V) : (V.outs ks).length = ks.length:=by rw [V.outs_map];simp
theorem j4 {ks : List V} {i : Nat} (h : i < ks.length) : V.tot (ab ks i) ≤ V.tots ks:=by
 rw [aI h];exact ot (List.getElem_mem h)
theorem gL {t : Int} (h : t ≤ 999999) : (be t).length ≤ 19:=gz oM
theorem sO {w : Nat} {x : adB} {t : Int} {e : Bool} {j : adB} (ht : t ≤ 999999) : (c5 w x t e j).length ≤ 25 + x.length + j.length:=by
 have hd:=gL ht
 unfold c5
 split
 ·simp;omega
 split
 ·simp;omega
 split
 ·split
  ·simp;omega
  ·simp;omega
 split
 ·simp;omega
 split
 ·simp;omega
 split
 ·simp;omega
 split
 ·simp;omega
 ·omega
mutual
theorem uI {G : Gh} : ∀ {v : V} {c : VC},V.rep G v c → v.out.length + 1 ≤ 2 * v.tot
 | .nd w x t ks,c,h=>by
  rw [V.rep] at h
  obtain ⟨_,_,⟨_,h3⟩,_,cs,_,h6⟩:=h
  have h1:=oF h6
  have h2:=gv 44 (V.outs ks)
  rw [kl] at h2
  have h4:=sO (w:=w) (x:=x) (e:=ks.isEmpty) (j:=aO 44 (V.outs ks)) h3.2
  have h5:=dk ks
  rw [V.out,V.tot]
  omega
theorem oF {G : Gh} : ∀ {ks : List V} {cs : List VC},V.reps G ks cs → dt (V.outs ks) + ks.length ≤ 2 * V.tots ks
 | [],cs,h=>by simp [V.outs,dt]
 | v :: r,cs,h=>by
  rw [V.reps] at h
  obtain ⟨c,cs',_,h1,h2⟩:=h
  have h3:=uI h1
  have h4:=oF h2
  simp only [V.outs,dt,List.map_cons,List.sum_cons,V.tots,List.length_cons] at *
  omega
end
end Go.E
