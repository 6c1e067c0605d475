/- Contracts and plain laws that the statement rests on, part 4. Conditions: as each says. -/
import Derived.Test.YtlkjjgmfhafnaaaGreatDoorT3
set_option linter.unusedVariables false
set_option linter.unusedSimpArgs false
namespace Go.E
set_option maxRecDepth 20000
set_option maxHeartbeats 2000000
open Go.Proofs
variable {G : Gh}
theorem dX (vs : List bU) (k : adE) : (d8 vs k).map (·.2) = aX (af vs) k:=by
 unfold d8 aX
 cases bH k with
 | none=>rfl
 | some n=>simp only [Option.bind_some];exact sI vs n
theorem eI {vs : List bU} {k : adE} {x : bU} (h : d8 vs k = some x) : x ∈ vs:=by
 unfold d8 at h
 cases hr : bH k with
 | none=>rw [hr] at h;cases h
 | some n=>rw [hr] at h;exact (wr h).1
theorem cm {s : adE} (h : bC s = true) : d9 s = true ∧ s.length ≤ 12:=by
 unfold bC at h;simp only [Bool.and_eq_true,decide_eq_true_eq] at h;exact ⟨h.2,h.1⟩
theorem abS {u : Value} {vs : List bU} {x0 : bU} (h : SchR G u vs) (hn : vs.length ≤ 1000) (hw : ∀ x ∈ vs,TyW x.2) (hx : x0 ∈ vs) :
  aG adD 193 [u,Ag (j3 x0)] G (· = Bo (bR (af vs) (vs.length + 1) x0.2)):=by
 have hsl:=h.sl
 refine jE [(0,_),(1,_)] Tryz.func193 Tryz.ntmps193 fun B hB=>?_
 repeat' (first | refine jR ?_ | (refine jo ?_;refine jO fun _=>?_))
 rename_i b0
 refine aU (ι:=bU × Nat) (fun i=>i.1 ∈ vs ∧ i.2 ≤ vs.length + 1 ∧ bR (af vs) (vs.length + 1 - i.2) i.1.2 = bR (af vs) (vs.length + 1) x0.2) (fun i=>[(0,u),(3,Pt b0 0),(5,I i.2)]) (fun _=>G) (fun i=>[.blk b0 (.cells (j3 i.1).toArray qS (0,0))]) (fun i=>vs.length + 1 - i.2) (x0,0) ?_ tU F aZ (fun i Hi=>?_)
 ·exact ⟨hx,Nat.zero_le _,F⟩
 obtain ⟨⟨⟨a,ca⟩,t⟩,n⟩:=i
 dsimp only at Hi ⊢
 obtain ⟨hxm,hnl,he⟩:=Hi
 have hW:=hw _ hxm
 dsimp only at hW
 by_cases hlt : n ≤ vs.length
 case neg =>
  have e0 : vs.length + 1 - n = 0:=oM
  rw [e0] at he
  repeat' (first | refine jR ?_ | (refine jo ?_;refine jV (f6 F aS) ?_) | refine ad F (aE oM) ?_)
  refine jY (vs:=[_]) ?_
  rw [← he];rfl
 obtain ⟨m,hm⟩ : ∃ m,vs.length + 1 - n = m + 1:=⟨vs.length - n,oM⟩
 rw [hm,bR] at he
 by_cases hU : t.sort = 85
 case neg =>
  rw [if_pos hU] at he
  repeat' (first | refine jR ?_ | (refine jo ?_;first | refine jV (f6 F aS) ?_ | refine al F ?_) | (refine ab F ?_ ?_;(focus ((first | (refine decide_eq_true ?_;(omega)) | (simp;omega));done))))
  refine jY (vs:=[_]) ?_
  rw [← he];rfl
 rw [if_neg (by simp [hU])] at he
 have hne:=hW.ne oM
 have h0 : 0 < t.fields.length:=List.length_pos_iff.2 hne
 obtain ⟨bf,of,cf,ef,hsf⟩:=(h.fl _ hxm).expl h0
 simp only [fY,Value.slice.injEq] at ef
 obtain ⟨rfl,-,rfl⟩:=ef
 dsimp only at hsf
 have hk0 : fV t = (ae t.fields 0).kind:=by
  unfold fV ae
  cases t.fields with
  | nil=>rfl
  | cons f r=>rfl
 have hkk:=cm ((hW.fld _ (bh h0)).kind oM)
 rw [hk0] at he
 have href:=dX vs (ae t.fields 0).kind
 have cx_rf:=gE (k:=(ae t.fields 0).kind) h oM hkk.1 oM
 rcases hr : d8 vs (ae t.fields 0).kind with _ | ⟨⟨a2,c2⟩,t2⟩
 ·rw [hr] at href cx_rf
  rw [← href] at he
  repeat' (first | refine jR ?_ | (refine jo ?_;first | refine jV (f6 F aS) ?_ | refine al F ?_ | (refine jV (b7 F F aS ?_ F F) ?_;focus omega) | refine jV (aq F F oM) ?_ | refine jL fun _=>?_ | refine jC F F F ?_ | refine ac F F F cx_rf F ?_) | (refine ab F (by first | rfl | (refine decide_eq_true ?_;(omega))) ?_) | (refine ad F ?_ ?_;(focus ((simp [*];done);done))))
  all_goals refine jY (vs:=[_]) ?_
  all_goals (rw [← he];rfl)
 ·rw [hr] at href cx_rf
  rw [← href] at he
  repeat' (first | refine jM ?_ | (refine jo ?_;first | refine jV (f6 F aS) ?_ | refine al F ?_ | (refine jV (b7 F F aS ?_ F F) ?_;focus omega) | refine aQ F ?_ | refine jV (aq F F oM) ?_ | refine jL fun _=>?_ | refine jC F F F ?_ | refine ac F F F cx_rf F ?_) | refine ab F (aD oM) ?_ | (refine ad F ?_ ?_;(focus ((first | rfl | (simp [*];done));done))))
  refine a7 (((a2,c2),t2),n + 1) ⟨eI hr,by dsimp only;omega,?_⟩ (by dsimp only;omega) tU rfl sB
  dsimp only
  rw [show vs.length + 1 - (n + 1) = m by omega]
  exact he
theorem qj (vs : List bU) : (af vs).length = vs.length:=by simp [af]
theorem lh {vs : List bU} {i : Nat} (h : i < vs.length) : ae (af vs) i = (ae vs i).2:=by
 rw [aI h,aI (by rw [qj];exact h)];simp [af]
theorem ro {vs : List bU} {k : adE} : eL (af vs) k = (!(bH (bo k)).isSome || (fW vs ((bH (bo k)).getD [])).isSome):=by
 unfold eL
 cases bH (bo k) with
 | none=>rfl
 | some n =>
  show (gD (af vs) n).isSome = _
  rw [← sI];simp
theorem ki {k : adE} (h : d9 k = true) : d9 (bo k) = true:=by
 induction k with
 | nil=>cases h
 | cons c r ih =>
  unfold bo
  split
  ·rename_i hc;rw [d9,if_pos hc] at h;exact ih h
  ·exact h
theorem kM : ∀ s : adE,(bo s).length ≤ s.length
 | []=>Nat.le_refl _
 | c :: r=>by
  unfold bo
  split
  ·have:=kM r;simp;omega
  ·exact Nat.le_refl _
theorem zI {u : Value} {vs : List bU} (h : SchR G u vs) (hn : vs.length ≤ 1000) (hw : ∀ x ∈ vs,TyW x.2) :
    aG adD 156 [u] G (· = Bo (decide (i7 (af vs)))):=by
  have hsl:=h.sl
  have hlen:=qj vs
  refine jE [(0,_)] Tryz.func156 Tryz.ntmps156 fun B hB=>?_
  repeat' (refine jR ?_)
  refine aU (ι:=Nat) (fun i=>i ≤ vs.length ∧ ∀ j,j < i → lx (af vs) j ∧ iK (af vs) (ae (af vs) j)) (fun i=>[(0,u),(3,I i)]) (fun _=>G) (fun i=>[]) (fun i=>vs.length - i) 0 ?_ tU F aZ (fun i Hi=>?_)
  · exact ⟨Nat.zero_le _,fun j hj=>absurd hj oM⟩
  by_cases hi : i < vs.length
  case neg =>
    have ei : i = vs.length:=oM
    subst ei
    have Hall:=Hi.2
    repeat' (first | refine jR ?_ | (refine jo ?_;refine jV (f6 F aS) ?_) | refine ad F (aE oM) ?_)
    refine aU (ι:=Nat) (fun i=>i ≤ vs.length ∧ ∀ j,j < i → bR (af vs) ((af vs).length + 1) (ae (af vs) j) = true) (fun i=>[(0,u),(10,I i)]) (fun _=>G) (fun i=>[]) (fun i=>vs.length - i) 0 ?_ tU F aZ (fun i Hi=>?_)
    · exact ⟨Nat.zero_le _,fun j hj=>absurd hj oM⟩
    by_cases hi : i < vs.length
    · obtain ⟨b,o,cap,rfl,hs⟩:=hsl.expl oM
      have hm:=bh hi
      have cx_en:=abS h hn hw hm
      by_cases he : bR (af vs) (vs.length + 1) (ae vs i).2 = true
      · have he2 : (!bR (af vs) (vs.length + 1) (ae vs i).2) = false:=by rw [he];rfl
        repeat' (first | refine jM ?_ | (refine jo ?_;first | refine jV (ag F) ?_ | refine jV (aq F F oM) ?_ | (refine jV (dH F F aS ?_) ?_;focus omega) | refine ac F F F cx_en F ?_) | refine ab F (aD oM) ?_ | refine ad F ‹_› ?_)
        refine a7 (i + 1) ⟨oM,fun j hj=>?_⟩ oM tU F aZ
        rcases Nat.lt_or_ge j i with h3 | h3
        · exact Hi.2 j h3
        · have : j = i:=oM
          subst this;rw [hlen,lh hi];exact he
      · have he2 : (!bR (af vs) (vs.length + 1) (ae vs i).2) = true:=by simpa using he
        repeat' (first | refine jR ?_ | (refine jo ?_;first | refine jV (ag F) ?_ | refine jV (aq F F oM) ?_ | (refine jV (dH F F aS ?_) ?_;focus omega) | refine ac F F F cx_en F ?_) | (refine ab F (by first | assumption | (refine decide_eq_true ?_;(omega))) ?_))
        refine jY (vs:=[_]) ?_
        refine congrArg Bo (decide_eq_false fun hv=>he ?_).symm
        have:=hv.2 i oM
        rwa [hlen,lh hi] at this
    · repeat' (first | refine jR ?_ | (refine jo ?_;refine jV (f6 F aS) ?_) | refine ad F (aE oM) ?_)
      refine jY (vs:=[_]) ?_
      exact congrArg Bo (decide_eq_true ⟨fun j hj=>Hall j oM,fun j hj=>Hi.2 j oM⟩).symm
  obtain ⟨b,o,cap,rfl,hs⟩:=hsl.expl oM
  rcases hxi : ae vs i with ⟨⟨a,ca⟩,t⟩
  have hm : ((a,ca),t) ∈ vs:=by rw [← hxi];exact bh hi
  have hW:=hw _ hm
  dsimp only at hW
  have hti : ae (af vs) i = t:=by rw [lh hi,hxi]
  have hE1 : (((a,ca),t) : bU).2.sort = t.sort:=rfl
  have hE2 : (((a,ca),t) : bU).2.fields.length = t.fields.length:=rfl
  have h8:=hW.len
  have hfl:=h.fl _ hm
  repeat' (first | refine jR ?_ | (refine jo ?_;refine jV (ag F) ?_) | refine ab F (aD oM) ?_)
  refine aU (ι:=Nat) (fun k=>k ≤ i ∧ ∀ j,j < k → (ae (af vs) j).name ≠ (ae (af vs) i).name) (fun k=>[(0,.slice (some ⟨b,o,none⟩) vs.length cap),(3,I i),(4,I k)]) (fun _=>G) (fun k=>[]) (fun k=>i - k) 0 ?_ tU F aZ (fun k Hk=>?_)
  · exact ⟨Nat.zero_le _,fun j hj=>absurd hj oM⟩
  by_cases hk : k < i
  · have hkv : k < vs.length:=oM
    by_cases hnm : (ae vs k).2.name = t.name
    · repeat' (first | refine jR ?_ | (refine ab F (by refine decide_eq_true ?_;first | assumption | omega) ?_) | (refine ak (ar (id:=7) _ (fun _ h=>h) aj ?_);refine jT 7 [0,1,5,6] (aa 11 99) ?_;(refine jG (aa 11 103) 2 F (aq F F oM) ?_);refine jT 5 [3] (aa 11 111) ?_;((refine jG (aa 11 127) 4 F (b7 F F aS ?_ F F) ?_;focus omega));(refine jG (aa 11 255) 7 F (aq F F oM) ?_);refine jT 2 [8] (aa 11 511) ?_;((refine jG (aa 11 1023) 9 F (jI F F aS ?_ aS F F) ?_;focus omega));refine jT 0 [10] (aa 11 2047) ?_;refine jQ ?_))
      refine jY (vs:=[_]) ?_
      refine congrArg Bo (decide_eq_false fun hv=>?_).symm
      have:=(hv.1 i oM).1 k hk
      rw [lh hkv,hti] at this
      exact this hnm
    · repeat' (first | refine jM ?_ | refine ab F (aD oM) ?_ | refine ad F (aE ‹_›) ?_ | (refine ak (ar (id:=7) _ (fun _ h=>h) aj ?_);refine jT 7 [0,1,5,6] (aa 11 99) ?_;(refine jG (aa 11 103) 2 F (aq F F oM) ?_);refine jT 5 [3] (aa 11 111) ?_;((refine jG (aa 11 127) 4 F (b7 F F aS ?_ F F) ?_;focus omega));(refine jG (aa 11 255) 7 F (aq F F oM) ?_);refine jT 2 [8] (aa 11 511) ?_;((refine jG (aa 11 1023) 9 F (jI F F aS ?_ aS F F) ?_;focus omega));refine jT 0 [10] (aa 11 2047) ?_;refine jQ ?_))
      refine a7 (k + 1) ⟨oM,fun j hj=>?_⟩ oM tU F aZ
      rcases Nat.lt_or_ge j k with h3 | h3
      · exact Hk.2 j h3
      · have : j = k:=oM
        subst this;rw [lh hkv,hti];exact hnm
  have hna : lx (af vs) i:=fun j hj=>Hk.2 j oM
  repeat' (first | refine jR ?_ | refine ad F (aE oM) ?_)
  refine aU (ι:=Nat) (fun k=>(t.sort = 69 ∨ ∀ j,j < k → eL (af vs) (ae t.fields j).kind = true) ∧ k ≤ t.fields.length) (fun k=>[(0,.slice (some ⟨b,o,none⟩) vs.length cap),(3,I i),(5,I k)]) (fun _=>G) (fun k=>[]) (fun k=>t.fields.length - k) 0 ?_ tU F aZ (fun k Hk=>?_)
  · exact ⟨.inr fun j hj=>absurd hj oM,Nat.zero_le _⟩
  by_cases hk : k < t.fields.length ∧ t.sort ≠ 69
  case neg =>
    have hko : iK (af vs) (ae (af vs) i):=by
      rw [hti]
      by_cases h69 : t.sort = 69
      · exact .inl h69
      · refine .inr fun j hj=>?_
        rcases Hk.1 with h3 | h3
        · exact absurd h3 h69
        · exact h3 j oM
    repeat' (first | refine jM ?_ | (refine jo ?_;first | refine jV (ag F) ?_ | refine jV (aq F F oM) ?_ | (refine jV (jI F F aS ?_ aS F F) ?_;focus omega) | refine aK F ?_ | refine aw F ?_) | refine eD F F (fun _=>?_) (fun _=>?_) | (refine ad F (by first | rfl | (refine decide_eq_false ?_;(omega))) ?_))
    all_goals refine a7 (i + 1) ⟨oM,fun j hj=>?_⟩ oM tU F aZ
    all_goals (rcases Nat.lt_or_ge j i with h3 | h3;· exact Hi.2 j h3)
    all_goals (have : j = i:=by omega)
    all_goals (subst this;exact ⟨hna,hko⟩)
  obtain ⟨hk1,hk2⟩:=hk
  obtain ⟨bf,of,cf,ef,hsf⟩:=hfl.expl (by dsimp only;omega)
  simp only [fY,Value.slice.injEq] at ef
  obtain ⟨rfl,-,rfl⟩:=ef
  dsimp only at hsf
  have hE1 : (((some ⟨bf,of,none⟩,ca),t) : bU).2.sort = t.sort:=rfl
  have hE2 : (((some ⟨bf,of,none⟩,ca),t) : bU).2.fields.length = t.fields.length:=rfl
  have hkk:=cm ((hW.fld _ (bh hk1)).kind hk2)
  have hkk1:=hkk.1
  have hcl:=kM (ae t.fields k).kind
  have cx_ref : aG adD 118 [S (bo (ae t.fields k).kind)] G (· = Tu [S ((bH (bo (ae t.fields k).kind)).getD []),Bo (bH (bo (ae t.fields k).kind)).isSome]):=mn (ki hkk1) oM
  have hhas:=ro (vs:=vs) (k:=(ae t.fields k).kind)
  repeat' (first | refine jM ?_ | (refine jo ?_;first | refine jV (ag F) ?_ | refine jV (aq F F oM) ?_ | (refine jV (jI F F aS ?_ aS F F) ?_;focus omega) | (refine jV (b7 F F aS ?_ F F) ?_;focus omega) | refine aK F ?_ | refine aw F ?_ | refine jL fun _=>?_ | refine jC F F F ?_ | (refine ac F F F (s7 (by (repeat (assumption));done)) rfl ?_) | refine ac F F F cx_ref F ?_ | (refine ac F F F (te (by (repeat (assumption));done) oM) rfl ?_)) | refine aA F F (aD oM) ?_ | refine oQ F F (fun _=>?_) (fun _=>?_) | refine ab F (aD oM) ?_ | refine ad F F ?_ | refine sy F (fun _=>?_) (fun _=>?_))
  all_goals first
    | (rename_i h1 h2
       have hK : eL (af vs) (ae t.fields k).kind = false:=by rw [hhas,h1];simpa using h2
       refine jY (vs:=[_]) ?_
       refine congrArg Bo (decide_eq_false fun hv=>?_).symm
       have h5:=(hv.1 i oM).2
       rw [hti] at h5
       rcases h5 with h3 | h3
       · exact hk2 h3
       · have h6:=h3 k hk1
         rw [hK] at h6;cases h6)
    | (have hK : eL (af vs) (ae t.fields k).kind = true:=by rw [hhas];simp_all
       refine a7 (k + 1) ⟨.inr fun j hj=>?_,oM⟩ oM tU F (by repeat (exact List.nil_sublist _))
       rcases Nat.lt_or_ge j k with h3 | h3
       · rcases Hk.1 with h4 | h4
         · exact absurd h4 hk2
         · exact h4 j h3
       · have : j = k:=oM
         subst this;exact hK)
theorem hZ : ∀ {xs : List adE} {ts : List Ty} {x : adE},cb xs = some ts → cb (xs ++ [x]) = (dh x).map (fun t=>ts ++ [t])
 | [],ts,x,h=>by
  simp only [cb,Option.some.injEq] at h;subst h
  simp only [List.nil_append,cb]
  cases dh x <;> rfl
 | y :: xs,ts,x,h=>by
  unfold cb at h
  rw [List.cons_append,cb]
  cases hy : dh y with
  | none=>rw [hy] at h;cases h
  | some t =>
   rw [hy] at h
   dsimp only at h ⊢
   cases hr : cb xs with
   | none=>rw [hr] at h;cases h
   | some us =>
    rw [hr] at h
    simp only [Option.map_some,Option.some.injEq] at h;subst h
    rw [hZ hr]
    cases dh x <;> rfl
theorem gG : ∀ {xs ys : List adE},cb xs = none → cb (xs ++ ys) = none
 | [],ys,h=>by cases h
 | y :: xs,ys,h=>by
  unfold cb at h
  rw [List.cons_append,cb]
  cases hy : dh y with
  | none=>rfl
  | some t =>
   rw [hy] at h
   dsimp only at h ⊢
   cases hr : cb xs with
   | none=>rw [gG hr];rfl
   | some us=>rw [hr] at h;cases h
def tF (s : adE) (v : Value) (G : Gh) : Prop:=∃ u vs,v = Tu [u,Bo (aP s).isSome] ∧ SchR G u vs ∧ vs.length ≤ 8 ∧ ∀ ts,aP s = some ts → af vs = ts
theorem SchR.nil : SchR G aN []:=⟨bq.nil0,by simp⟩
theorem wU {s : adE} {k : Nat} (h : s.length ≤ 100000000) : bd adD 82 [S s,U8 k] G (fun v G'=>∃ b o cap,v = .slice (some ⟨b,o,none⟩) (aY k s).length cap ∧ cH G' b o (ax bY (aY k s))):=by
 refine (ml (G:=G) (k:=k) h).mono ?_
 rintro v G' L' ⟨h1,h2,h3⟩
 obtain ⟨b,o,cap,rfl,hs⟩:=h3.expl dZ
 exact ⟨h1,h2,b,o,cap,F,hs⟩
theorem rK {s : adE} (h : s.length ≤ 1000) : bd adD 155 [S s] G (fun v G'=>∃ (x : bU) (ok : Bool),v = Tu [Ag [U8 x.2.sort,S x.2.name,.slice x.1.1 x.2.fields.length x.1.2],Bo ok] ∧ (dh s = if ok = true then some x.2 else none) ∧ bq G' (fY x) 4 x.2.fields.length (ax gP x.2.fields)):=by
 refine (s6 (G:=G) h).mono ?_
 rintro v G' L' ⟨h1,h2,fv,t,ok,rfl,h3,h4⟩
 obtain ⟨a,cap,rfl⟩:=h4.sl
 exact ⟨h1,h2,((a,cap),t),ok,F,h3,h4⟩
theorem z7 {s : adE} (h : s.length ≤ 10000000) (hb : ¬ (s.length ≤ 400 ∧ (aY 10 s).length ≤ 9 ∧ ae (aY 10 s) ((aY 10 s).length - 1) = [])) (hno : aP s = none) : bd adD 116 [S s] G (tF s):=by
 have hpos:=dZ (k:=10) (s:=s)
 have hcnt:=g8 (k:=10) (s:=s)
 have cx_cutE:=wU (G:=G) (s:=s) (k:=10) oM
 generalize aY 10 s = xs at *
 have e1 : (((xs.length : Nat) : Int) - 1).toNat = xs.length - 1:=oM
 refine jB [(0,_)] Tryz.func116 Tryz.ntmps116 fun B hok hB hW=>?_
 by_cases h1 : s.length ≤ 400
 case neg =>
  repeat' (first | refine jR ?_ | (refine jo ?_;first | refine aK F ?_ | (refine aF F F F cx_cutE F ?_;rintro _ G hle ⟨b1,o1,cap1,rfl,hseg⟩;skip)) | (refine aA F F (by first | rfl | (refine decide_eq_true ?_;(omega))) ?_) | refine ab F F ?_)
  all_goals refine jZ (vs:=[_,_]) F ⟨F,F,trivial⟩ F ⟨hle,F,?_⟩
  all_goals exact ⟨aN,[],by rw [hno];rfl,SchR.nil,by simp,fun ts h=>by rw [hno] at h;cases h⟩
 by_cases h2 : xs.length ≤ 9
 case neg =>
  repeat' (first | refine jR ?_ | (refine jo ?_;first | refine jV (ag F) ?_ | refine aK F ?_ | refine aw F ?_ | (refine aF F F F cx_cutE F ?_;rintro _ G hle ⟨b1,o1,cap1,rfl,hseg⟩;skip)) | refine aA F F (aD oM) ?_ | refine am F F (aE oM) ?_ | refine ab F F ?_)
  all_goals refine jZ (vs:=[_,_]) F ⟨F,F,trivial⟩ F ⟨hle,F,?_⟩
  all_goals exact ⟨aN,[],by rw [hno];rfl,SchR.nil,by simp,fun ts h=>by rw [hno] at h;cases h⟩
 have h3 : ¬ ae xs (((xs.length : Nat) : Int) - 1).toNat = []:=by rw [e1];exact fun h=>hb ⟨h1,h2,h⟩
 clear hb
 repeat' (first | refine jM ?_ | (refine jo ?_;first | refine jV (ag F) ?_ | refine aw F ?_ | refine jV (aT F F oM) ?_ | (refine jV (ew F F aS ?_) ?_;focus omega) | (refine aF F F F cx_cutE F ?_;rintro _ G hle ⟨b1,o1,cap1,rfl,hseg⟩;skip)) | refine am F F (aE oM) ?_ | refine ab F (aD ‹_›) ?_)
 all_goals refine jZ (vs:=[_,_]) F ⟨F,F,trivial⟩ F ⟨hle,F,?_⟩
 all_goals exact ⟨aN,[],by rw [hno];rfl,SchR.nil,by simp,fun ts h=>by rw [hno] at h;cases h⟩
theorem z6 {s : adE} (h : s.length ≤ 400) (h2 : (aY 10 s).length ≤ 9) (h3 : ae (aY 10 s) ((aY 10 s).length - 1) = []) (hsc : aP s = match cb ((aY 10 s).take ((aY 10 s).length - 1)) with
    | some ts=>if i7 ts then some ts else none
    | none=>none) : bd adD 116 [S s] G (tF s):=by
  have hpos:=dZ (k:=10) (s:=s)
  have hall : ∀ y ∈ aY 10 s,y.length ≤ s.length:=fun y hy=>c6 hy
  have cx_cutE:=wU (G:=G) (s:=s) (k:=10) oM
  generalize aY 10 s = xs at *
  have e1 : (((xs.length : Nat) : Int) - 1).toNat = xs.length - 1:=oM
  have h4 : ae xs (((xs.length : Nat) : Int) - 1).toNat = []:=by rw [e1];exact h3
  have h5 : ¬ ae xs (((xs.length : Nat) : Int) - 1).toNat ≠ []:=fun h=>h h4
  clear e1 h3 h4
  refine jB [(0,_)] Tryz.func116 Tryz.ntmps116 fun B hok hB hW=>?_
  repeat' (first | refine jM ?_ | (refine jo ?_;first | refine jV (ag F) ?_ | refine aw F ?_ | refine jV (aT F F oM) ?_ | (refine jV (ew F F aS ?_) ?_;focus omega) | refine jF fun _=>?_ | (refine aF F F F cx_cutE F ?_;rintro _ G hle ⟨b1,o1,cap1,rfl,hseg⟩;skip)) | refine am F F (aE oM) ?_ | refine ad F (aE ‹_›) ?_)
  rename_i x0
  refine Nx.blkAcc (m:=0) (sz:=3) .here F ?_
  refine aU (ι:=Value × List bU × Nat × Gh) (fun i=>((i.2.2.1 + 1 ≤ xs.length ∧ i.2.1.length = i.2.2.1) ∧ cb (xs.take i.2.2.1) = some (af i.2.1)) ∧ (∀ y ∈ i.2.1,bq i.2.2.2 (fY y) 4 y.2.fields.length (ax gP y.2.fields)) ∧ Gh.le G i.2.2.2) (fun i=>[(4,.slice (some ⟨b1,o1,none⟩) xs.length cap1),(5,i.1),(6,I i.2.2.1)]) (fun i=>i.2.2.2) (fun i=>[.acc i.1 qS 3 i.2.1.length (ax j3 i.2.1)]) (fun i=>xs.length - i.2.2.1) (.slice (some ⟨x0,0,none⟩) 0 0,[],0,G) ?_ tU F aZ (fun i Hi=>?_)
  · exact ⟨⟨⟨by dsimp only;omega,rfl⟩,rfl⟩,by simp,Gh.le.refl _⟩
  obtain ⟨u,vs,i,Gk⟩:=i
  dsimp only at Hi ⊢
  obtain ⟨⟨⟨hi1,hi2⟩,hty⟩,hfs,hgk⟩:=Hi
  have hsk:=hseg.mono hgk
  have hle0:=hle
  by_cases hix : i + 1 < xs.length
  case neg =>
    have ei : i = xs.length - 1:=oM
    rw [← ei,hty] at hsc
    dsimp only at hsc
    refine Nx.sealS (v:=u) fun G1 hle1 hsl=>?_
    have hS : SchR G1 u vs:=⟨hsl,fun x hx=>(hfs x hx).mono hle1⟩
    have hw : ∀ x ∈ vs,TyW x.2:=fun x hx=>(iT hty).1 x.2 (show x.2 ∈ vs.map (fun y=>y.2) from List.mem_map_of_mem hx)
    have cx_val:=zI hS oM hw
    repeat' (first | refine jM ?_ | (refine jo ?_;first | refine jV (ag F) ?_ | refine ac F F F cx_val F ?_) | refine ad F (aE oM) ?_)
    all_goals refine jZ (vs:=[_,_]) F ⟨F,F,trivial⟩ F ⟨(hle0.trans hgk).trans hle1,F,?_⟩
    all_goals refine ⟨u,vs,?_,hS,oM,fun ts h=>?_⟩
    · rw [hsc,eC]
      by_cases hv : i7 (af vs)
      · rw [if_pos hv,decide_eq_true hv];rfl
      · rw [if_neg hv,decide_eq_false hv];rfl
    · rw [hsc] at h
      split at h
      · exact Option.some.inj h
      · cases h
  have hx2 : (ae xs i).length ≤ 1000:=by have:=hall _ (bh (show i < xs.length by omega));omega
  have hsn:=hZ (x:=ae xs i) hty
  rw [← cr oM] at hsn
  repeat' (first | refine jM ?_ | (refine jo ?_;first | refine jV (ag F) ?_ | refine jV (aq F F oM) ?_ | refine aQ F ?_ | (refine jV (ew F F aS ?_) ?_;focus omega) | refine jF fun _=>?_ | refine jL fun _=>?_ | refine jC F F F ?_ | refine ci F F F F F F F F F oM fun _ _=>?_ | (refine aF F F F (rK oM) F ?_;rintro _ G hle ⟨x,ok,rfl,htyp,hfl⟩;skip)) | refine ab F (aD oM) ?_ | refine sy F (fun _=>?_) (fun _=>?_))
  all_goals first
    | (rename_i hq
       have hq2 : ok = false:=by simpa using hq
       subst hq2
       have hf0 : dh (ae xs i) = none:=htyp
       have hno : aP s = none:=by
         rw [hf0] at hsn
         have e2 : xs.take (xs.length - 1) = xs.take (i + 1) ++ (xs.take (xs.length - 1)).drop (i + 1):=by
           have:=List.take_append_drop (i + 1) (xs.take (xs.length - 1))
           rw [List.take_take,Nat.min_eq_left oM] at this
           exact this.symm
         rw [hsc,e2,gG hsn]
       refine jZ (vs:=[_,_]) F ⟨F,F,trivial⟩ F ⟨(hle0.trans hgk).trans hle,F,?_⟩
       exact ⟨aN,[],by rw [hno];rfl,SchR.nil,by simp,fun ts h=>by rw [hno] at h;cases h⟩)
    | (rename_i z hq w b2 c2
       have hq2 : ok = true:=by simpa using hq
       subst hq2
       have hf1 : dh (ae xs i) = some x.2:=htyp
       rw [hf1] at hsn
       have e3 : ax j3 vs ++ [U8 x.2.sort,S x.2.name,.slice x.1.1 x.2.fields.length x.1.2] = ax j3 (vs ++ [x]):=(b5 j3 vs x).symm
       refine a7 (.slice (some ⟨b2,0,none⟩) (vs.length + 1) c2,vs ++ [x],i + 1,G) ⟨⟨⟨by dsimp only;omega,by simp;omega⟩,?_⟩,?_,hgk.trans hle⟩ (by dsimp only;omega) tU rfl (by dsimp only;rw [e3];simp only [List.length_append,List.length_cons,List.length_nil,Nat.zero_add];repeat (first | exact List.nil_sublist _ | apply List.Sublist.cons_cons))
       · dsimp only;rw [hsn];simp [af]
       · intro y hy
         rcases List.mem_append.1 hy with hy | hy
         · exact (hfs y hy).mono hle
         · simp only [List.mem_singleton] at hy;subst hy;exact hfl)
theorem p7 {s : adE} (h : s.length ≤ 10000000) : bd adD 116 [S s] G (tF s):=by
 have hpos:=dZ (k:=10) (s:=s)
 have hlast : (aY 10 s).getLastD [] = ae (aY 10 s) ((aY 10 s).length - 1):=by
  rw [aI oM,List.getLastD_eq_getLast?,List.getLast?_eq_getElem?]
  rw [List.getElem?_eq_getElem oM];rfl
 by_cases hc : s.length ≤ 400 ∧ (aY 10 s).length ≤ 9 ∧ ae (aY 10 s) ((aY 10 s).length - 1) = []
 ·refine z6 hc.1 hc.2.1 hc.2.2 ?_
  unfold aP
  rw [hlast,if_pos hc,List.dropLast_eq_take]
  (rfl)
 ·refine z7 h hc ?_
  unfold aP
  rw [hlast,if_neg hc]
def cz (s k : adE) : Bool:=match aP s with
 | some ts=>aB ts k
 | none=>false
theorem tS {s : adE} (h : s.length ≤ 10000000) : aG adD 107 [S s] G (· = Bo (aP s).isSome):=by
 refine jB (Post:=fun v G' L'=>G' = G ∧ L' = [] ∧ _) [(0,_)] Tryz.func107 Tryz.ntmps107 fun B hok hB hW=>?_
 repeat' (first | refine jR ?_ | (refine jo ?_;(refine aF F F F (p7 oM) F ?_;rintro _ G hle ⟨u,vs,rfl,hsch,hvl,hvs⟩;skip)))
 refine Nx.base hok hB ?_
 refine jY (vs:=[_]) ?_
 rfl
def yd (s k : adE) (v : Value) (G : Gh) : Prop:=∃ u vs,v = Tu [u,Bo (cz s k)] ∧ SchR G u vs ∧ vs.length ≤ 8 ∧ ∀ ts,aP s = some ts → aB ts k = true → af vs = ts
theorem fc {s k : adE} (h : s.length ≤ 10000000) (hk : k.length ≤ 10000000) : bd adD 83 [S s,S k] G (yd s k):=by
  cases hs : aP s with
  | none =>
    have hno : cz s k = false:=by unfold cz;rw [hs]
    have e1 : (!(aP s).isSome) = true:=by rw [hs];rfl
    refine jB [(0,_),(1,_)] Tryz.func83 Tryz.ntmps83 fun B hok hB hW=>?_
    repeat' (first | refine jR ?_ | (refine jo ?_;first | refine aK F ?_ | (refine aF F F F (p7 oM) F ?_;rintro _ G hle ⟨u,vs,rfl,hsch,hvl,hvs⟩;skip)) | refine aA F F ‹_› ?_ | refine ab F F ?_)
    all_goals refine jZ (vs:=[_,_]) F ⟨F,F,trivial⟩ F ⟨hle,F,?_⟩
    all_goals exact ⟨aN,[],by rw [hno];rfl,SchR.nil,by simp,fun ts h=>by rw [hs] at h;cases h⟩
  | some ts =>
    have e1 : (!(aP s).isSome) = false:=by rw [hs];rfl
    by_cases hko : bC k = true
    case neg =>
      have hno : cz s k = false:=by unfold cz aB;rw [hs];simp [hko]
      have e2 : (!bC k) = true:=by simpa using hko
      refine jB [(0,_),(1,_)] Tryz.func83 Tryz.ntmps83 fun B hok hB hW=>?_
      repeat' (first | refine jR ?_ | (refine jo ?_;first | refine aw F ?_ | (refine aF F F F (p7 oM) F ?_;rintro _ G hle ⟨u,vs,rfl,hsch,hvl,hvs⟩;skip) | refine ac F F F ny F ?_) | refine am F F ‹_› ?_ | refine ab F ‹_› ?_)
      all_goals refine jZ (vs:=[_,_]) F ⟨F,F,trivial⟩ F ⟨hle,F,?_⟩
      all_goals exact ⟨aN,[],by rw [hno];rfl,SchR.nil,by simp,fun ts h1 h2=>by unfold aB at h2;simp [hko] at h2⟩
    have e2 : (!bC k) = false:=by rw [hko];rfl
    have hkk:=cm hko
    have hkk1:=hkk.1
    have hcl:=kM k
    have cx_rf2 : ∀ G,aG adD 118 [S (bo k)] G (· = Tu [S ((bH (bo k)).getD []),Bo (bH (bo k)).isSome]):=fun G=>mn (ki hkk1) oM
    refine jB [(0,_),(1,_)] Tryz.func83 Tryz.ntmps83 fun B hok hB hW=>?_
    repeat' (first | refine jR ?_ | (refine jo ?_;first | refine aK F ?_ | refine aw F ?_ | refine jL fun _=>?_ | refine jC F F F ?_ | (refine aF F F F (p7 oM) F ?_;rintro _ G hle ⟨u,vs,rfl,hsch,hvl,hvs⟩;skip) | refine ac F F F ny F ?_ | (refine ac F F F (s7 (by (repeat (assumption));done)) rfl ?_) | refine ac F F F (cx_rf2 _) F ?_ | (refine ac F F F (te (by (repeat (assumption));done) oM) rfl ?_)) | refine am F F ‹_› ?_ | refine oQ F F (fun _=>?_) (fun _=>?_) | refine ad F ‹_› ?_)
    all_goals rename_i hq
    all_goals refine jZ (vs:=[_,_]) F ⟨F,F,trivial⟩ F ⟨hle,F,?_⟩
    all_goals have hks : cz s k = (!(bH (bo k)).isSome || (fW vs ((bH (bo k)).getD [])).isSome) := by
                unfold cz aB
                rw [hs]
                dsimp only
                rw [hko,Bool.true_and,← hvs ts hs,ro]
    all_goals exact ⟨u,vs,by rw [hks,hq];rfl,hsch,hvl,fun ts' h1 _=>hvs ts' h1⟩
abbrev cC:=Nat × Ty
def t9 (q : cC) : List Value:=[Pt q.1 0]
instance : RowF t9 1:=⟨fun _=>rfl⟩
def ig (qs : List cC) : List (adE × Value):=qs.map fun q=>(q.2.name,Pt q.1 0)
def ah (qs : List cC) : List Ty:=qs.map (·.2)
def eK (qs : List cC) (n : adE) : Option cC:=qs.find? fun q=>decide (n = q.2.name)
theorem gN (qs : List cC) (n : adE) : mB (ig qs) n = (eK qs n).map fun q=>Pt q.1 0:=by
 unfold mB ig eK
 induction qs with
 | nil=>rfl
 | cons q qs ih =>
  simp only [List.map_cons,List.find?_cons]
  by_cases h : n = q.2.name
  ·simp [h]
  ·simp only [h,decide_false];exact ih
theorem gQ (qs : List cC) (n : adE) : (eK qs n).map (·.2) = gD (ah qs) n:=by
 unfold eK gD ah
 induction qs with
 | nil=>rfl
 | cons q qs ih =>
  simp only [List.map_cons,List.find?_cons]
  by_cases h : n = q.2.name
  ·simp [h]
  ·have h2 : ¬ q.2.name = n:=fun e=>h e.symm
   simp only [h,h2,decide_false];exact ih
theorem gZ {qs : List cC} {n : adE} {q : cC} (h : eK qs n = some q) : q ∈ qs:=List.mem_of_find?_eq_some h
structure ScI (G : Gh) (b : Nat) (qs : List cC) : Prop where
 at' : ∃ u m,cH G b 0 [u,.map (some m)] ∧ bq G u 1 qs.length (ax t9 qs) ∧ G m = some (.ex (fb (ig qs)))
 ty : ∀ q ∈ qs,i8 G q.1 q.2
theorem ScI.mono {G G' : Gh} {b : Nat} {qs : List cC} (h : ScI G b qs) (hl : Gh.le G G') : ScI G' b qs:=by
 obtain ⟨u,m,h1,h2,h3⟩:=h.at'
 exact ⟨⟨u,m,h1.mono hl,h2.mono hl,hl _ _ h3⟩,fun q hq=>(h.ty q hq).mono hl⟩
theorem jr {k : adE} (h : bC k = true) : bs k = [64] ↔ (bH (bo k)).isSome = true:=by
 have hk:=ki (cm h).1
 unfold bs
 cases hc : bo k with
 | nil=>rw [hc] at hk;cases hk
 | cons c r =>
  unfold oo bH
  by_cases h64 : c.toNat = 64
  ·simp [h64]
  ·simp only [h64,if_false]
   constructor
   ·intro e;simp only [List.cons.injEq] at e;exact absurd (by rw [e.1];rfl) h64
   ·intro e;cases e
theorem vE {b : Nat} {qs : List cC} {k : adE} (h : ScI G b qs) (hk : bC k = true) : aG adD 91 [Pt b 0,Ag [S (sg k),S (bs k),S (nm k)]] G (· = Bo (eL (ah qs) k)):=by
 obtain ⟨u,m,h1,h2,h3⟩:=h.at'
 have hat:=jr hk
 rcases hr : bH (bo k) with _ | n
 ·have hb : ¬ bs k = [64]:=by rw [hat,hr];simp
  have e : eL (ah qs) k = true:=by unfold eL;rw [hr]
  clear hat hr
  rw [e]
  refine jE [(0,_),(1,_)] Tryz.func91 Tryz.ntmps91 fun B hB=>?_
  repeat' (first | refine jR ?_ | (refine jo ?_;refine jO fun _=>?_) | (refine ak (ar (id:=1) _ (fun _ h=>h) aj ?_);refine jT 13 [0] (aa 14 1) ?_;(refine jG (aa 14 3) 1 F (aC F F F) ?_);refine jT 10 [2,3] (aa 14 15) ?_;(try (refine Nx.re (d:=8) (v':=Bo true) F (congrArg Value.bool (aD ‹_›)) ?_));refine jT 6 [4,5,6,8] (aa 14 383) ?_;(refine jN (aa 14 511) 7 F ?_);(refine jN (aa 14 1023) 9 F ?_);(refine jN (aa 14 2047) 10 F ?_);(refine jN (aa 14 4095) 11 F ?_);(refine jG (aa 14 8191) 12 F (bJ F F F) ?_);refine jT 0 [13] (aa 14 16383) ?_;refine jQ ?_))
  all_goals refine jY (vs:=[_]) ?_
  all_goals rfl
 ·have hb : ¬ (bs k ≠ [64]):=fun h=>h (by rw [hat,hr];rfl)
  have hn : nm k = n:=by unfold nm;rw [hr];rfl
  have e : eL (ah qs) k = (eK qs (nm k)).isSome:=by unfold eL;rw [hr,hn];dsimp only;rw [← gQ];simp
  rw [e]
  clear hat hr hn e
  have hkv:=gN qs (nm k)
  cases hf : eK qs (nm k) with
  | none =>
   rw [hf] at hkv
   dsimp only [Option.map_none] at hkv
   refine jE [(0,_),(1,_)] Tryz.func91 Tryz.ntmps91 fun B hB=>?_
   repeat' (first | refine jR ?_ | (refine jo ?_;refine jO fun _=>?_) | (refine ak (ar (id:=1) _ (fun _ h=>h) aj ?_);refine jT 13 [0] (aa 14 1) ?_;(refine jG (aa 14 3) 1 F (aC F F F) ?_);refine jT 10 [2,3] (aa 14 15) ?_;(try (refine Nx.re (d:=8) (v':=Bo false) F (congrArg Value.bool (aE ‹_›)) ?_));refine jT 6 [4,5,6,8] (aa 14 383) ?_;(refine jG (aa 14 511) 7 F (an F F aS F F) ?_);(refine jG (aa 14 1023) 9 F (aC F F F) ?_);((refine jG (aa 14 2047) 10 F (cg F F (d5 aS) aS F) ?_));(refine jG (aa 14 4095) 11 F (ij F F) ?_);(refine jG (aa 14 8191) 12 F (bm F F F) ?_);refine jT 0 [13] (aa 14 16383) ?_;refine jQ ?_))
   all_goals refine jY (vs:=[_]) ?_
   all_goals rfl
  | some q =>
   rw [hf] at hkv
   dsimp only [Option.map_some] at hkv
   refine jE [(0,_),(1,_)] Tryz.func91 Tryz.ntmps91 fun B hB=>?_
   repeat' (first | refine jR ?_ | (refine jo ?_;refine jO fun _=>?_) | (refine ak (ar (id:=1) _ (fun _ h=>h) aj ?_);refine jT 13 [0] (aa 14 1) ?_;(refine jG (aa 14 3) 1 F (aC F F F) ?_);refine jT 10 [2,3] (aa 14 15) ?_;(try (refine Nx.re (d:=8) (v':=Bo false) F (congrArg Value.bool (aE ‹_›)) ?_));refine jT 6 [4,5,6,8] (aa 14 383) ?_;(refine jG (aa 14 511) 7 F (an F F aS F F) ?_);(refine jG (aa 14 1023) 9 F (aC F F F) ?_);((refine jG (aa 14 2047) 10 F (cg F F (d5 aS) aS F) ?_));(refine jG (aa 14 4095) 11 F (ij F F) ?_);(refine jG (aa 14 8191) 12 F (bm F F F) ?_);refine jT 0 [13] (aa 14 16383) ?_;refine jQ ?_))
   all_goals refine jY (vs:=[_]) ?_
   all_goals rfl
theorem yS {k : adE} (h : bC k = true) : bH k = if sg k = [] ∧ bs k = [64] then some (nm k) else none:=by
 have hat:=jr h
 match k,h with
 | c :: r,h =>
  by_cases h1 : c.toNat = 91 ∨ c.toNat = 63
  ·have hs : ¬ (sg (c :: r) = [] ∧ bs (c :: r) = [64]):=by
    rintro ⟨e,_⟩
    unfold sg at e
    rw [bo,if_pos h1] at e
    have:=ma r
    have e2:=congrArg List.length e
    simp only [List.length_take,List.length_cons,List.length_nil] at e2
    omega
   rw [if_neg hs]
   simp only [bH]
   rw [if_neg oM]
  ·have hc : bo (c :: r) = c :: r:=by rw [bo,if_neg h1]
   have hs : sg (c :: r) = []:=by unfold sg;rw [hc];simp
   have hn : nm (c :: r) = (bH (c :: r)).getD []:=by unfold nm;rw [hc]
   rw [hc] at hat
   rw [hn,hs]
   cases hr : bH (c :: r) with
   | none=>rw [hr] at hat;rw [if_neg];rintro ⟨_,e⟩;have:=hat.1 e;cases this
   | some n=>rw [hr] at hat;rw [if_pos ⟨rfl,hat.2 rfl⟩];rfl
theorem aaa {b : Nat} {qs : List cC} {q0 : cC} (h : ScI G b qs) (hw : ∀ q ∈ qs,TyW q.2) (hk : ∀ q ∈ qs,iK (ah qs) q.2) (hq : q0 ∈ qs) :
  aG adD 128 [Pt b 0,Pt q0.1 0] G (· = Bo (bR (ah qs) 9 q0.2)):=by
 obtain ⟨u,m,h1,h2,h3⟩:=h.at'
 refine jE [(0,_),(1,_)] Tryz.func128 Tryz.ntmps128 fun B hB=>?_
 repeat' (refine jR ?_)
 refine aU (ι:=cC × Nat) (fun i=>i.1 ∈ qs ∧ i.2 ≤ 9 ∧ bR (ah qs) (9 - i.2) i.1.2 = bR (ah qs) 9 q0.2) (fun i=>[(0,Pt b 0),(1,Pt i.1.1 0),(6,I i.2)]) (fun _=>G) (fun i=>[]) (fun i=>9 - i.2) (q0,0) ?_ tU F aZ (fun i Hi=>?_)
 ·exact ⟨hq,Nat.zero_le _,F⟩
 obtain ⟨⟨p,t⟩,i⟩:=i
 dsimp only at Hi ⊢
 obtain ⟨hqm,hi9,he⟩:=Hi
 have hW:=hw _ hqm
 obtain ⟨fv,ln,hsg,hfv⟩:=h.ty _ hqm
 dsimp only at hW hsg hfv
 by_cases hlt : i < 9
 case neg =>
  have e0 : 9 - i = 0:=oM
  rw [e0] at he
  repeat' (first | refine jR ?_ | refine ad F (aE oM) ?_)
  refine jY (vs:=[_]) ?_
  rw [← he];rfl
 obtain ⟨j,hj⟩ : ∃ j,9 - i = j + 1:=⟨8 - i,oM⟩
 rw [hj,bR] at he
 by_cases hU : t.sort = 85
 case neg =>
  rw [if_pos hU] at he
  repeat' (first | refine jR ?_ | (refine jo ?_;refine jV (an F F aS F F) ?_) | refine ab F (aD oM) ?_)
  refine jY (vs:=[_]) ?_
  rw [← he];rfl
 rw [if_neg (by simp [hU])] at he
 have hne:=hW.ne oM
 have h0 : 0 < t.fields.length:=List.length_pos_iff.2 hne
 obtain ⟨bf,of,cf,rfl,hsf⟩:=hfv.expl h0
 have hk0 : fV t = (ae t.fields 0).kind:=by
  unfold fV ae
  cases t.fields with
  | nil=>rfl
  | cons f r=>rfl
 have hko:=(hW.fld _ (bh h0)).kind oM
 have hrs:=yS hko
 have hhas : eL (ah qs) (ae t.fields 0).kind = true:=by
  rcases hk _ hqm with h5 | h5
  ·dsimp only at h5;omega
  ·exact h5 0 h0
 rw [hk0] at he
 by_cases hs1 : sg (ae t.fields 0).kind = []
 case neg =>
  rw [if_neg fun h=>hs1 h.1] at hrs
  unfold aX at he
  rw [hrs] at he
  repeat' (first | refine jR ?_ | (refine jo ?_;first | refine al F ?_ | refine jV (an F F aS F F) ?_ | (refine jV (f8 F F aS ?_ F F) ?_;focus omega) | refine jV (aq F F oM) ?_ | refine jL fun _=>?_ | refine jC F F F ?_ | refine aK F ?_) | refine aA F F (aD ‹_›) ?_ | (refine ab F (by first | rfl | (refine decide_eq_true ?_;(omega))) ?_) | refine ad F (aE oM) ?_)
  all_goals refine jY (vs:=[_]) ?_
  all_goals (rw [← he];rfl)
 by_cases hs2 : bs (ae t.fields 0).kind = [64]
 case neg =>
  rw [if_neg fun h=>hs2 h.2] at hrs
  unfold aX at he
  rw [hrs] at he
  repeat' (first | refine jR ?_ | (refine jo ?_;first | refine al F ?_ | refine jV (an F F aS F F) ?_ | (refine jV (f8 F F aS ?_ F F) ?_;focus omega) | refine jV (aq F F oM) ?_ | refine jL fun _=>?_ | refine jC F F F ?_ | refine aw F ?_) | (refine am F F ?_ ?_;(focus ((simp [*];done);done))) | (refine ab F (by refine decide_eq_true ?_;first | assumption | omega) ?_) | refine ad F (aE oM) ?_)
  all_goals refine jY (vs:=[_]) ?_
  all_goals (rw [← he];rfl)
 rw [if_pos ⟨hs1,hs2⟩] at hrs
 unfold aX at he
 rw [hrs,Option.bind_some,← gQ] at he
 have hkv:=gN qs (nm (ae t.fields 0).kind)
 have hr2 : bH (bo (ae t.fields 0).kind) = some (nm (ae t.fields 0).kind):=by
  have:=(jr hko).1 hs2
  unfold nm
  cases hx : bH (bo (ae t.fields 0).kind) with
  | none=>rw [hx] at this;cases this
  | some n=>rfl
 unfold eL at hhas
 rw [hr2] at hhas
 dsimp only at hhas
 rw [← gQ] at hhas
 cases hf : eK qs (nm (ae t.fields 0).kind) with
 | none=>rw [hf] at hhas;cases hhas
 | some q =>
  rw [hf] at hkv he
  dsimp only [Option.map_some] at hkv he
  have hb1 : ¬ sg (ae t.fields 0).kind ≠ []:=fun h=>h hs1
  have hb2 : ¬ bs (ae t.fields 0).kind ≠ [64]:=fun h=>h hs2
  clear hs1 hs2 hrs hr2
  repeat' (first | refine jM ?_ | (refine jo ?_;first | refine al F ?_ | refine jV (an F F aS F F) ?_ | (refine jV (f8 F F aS ?_ F F) ?_;focus omega) | refine jV (aq F F oM) ?_ | refine jL fun _=>?_ | refine jC F F F ?_ | refine aw F ?_) | refine am F F (aE ‹_›) ?_ | refine ab F (aD oM) ?_ | (refine ad F (by refine decide_eq_false ?_;first | assumption | omega) ?_) | (refine ak (ar (id:=8) _ (fun _ h=>h) aj ?_);refine jT 4 [0,1,2,4] (aa 8 23) ?_;(refine jG (aa 8 31) 3 F (an F F aS F F) ?_);(refine jG (aa 8 63) 5 F (aC F F F) ?_);((refine jG (aa 8 127) 6 F (cg F F (d5 aS) aS F) ?_));refine jT 0 [7] (aa 8 255) ?_;refine jQ ?_))
  refine a7 (q,i + 1) ⟨gZ hf,by dsimp only;omega,?_⟩ (by dsimp only;omega) tU rfl (by repeat (exact List.nil_sublist _))
  dsimp only
  rw [show 9 - (i + 1) = j by omega]
  exact he
structure Rdg (s : adE) (ls : List adE) (ts : List Ty) (t : adE) : Prop where
 cutE : aY 10 s = ls ++ aY 10 t
 tyE : cb ls = some ts
theorem Rdg.start (s : adE) : Rdg s [] [] s:=⟨rfl,rfl⟩
theorem Rdg.len {s : adE} {ls : List adE} {ts : List Ty} {t : adE} (h : Rdg s ls ts t) : ts.length = ls.length:=(iT h.tyE).2
theorem l7 {t line rest : adE} (h : aJ 10 t = (line,rest,true)) : aY 10 t = line :: aY 10 rest:=by rw [kg,h];rfl
theorem Rdg.step {s : adE} {ls : List adE} {ts : List Ty} {t line rest : adE} {x : Ty} (h : Rdg s ls ts t) (hc : aJ 10 t = (line,rest,true)) (hx : dh line = some x) : Rdg s (ls ++ [line]) (ts ++ [x]) rest :=
 ⟨by rw [h.cutE,l7 hc];simp,by rw [hZ h.tyE,hx];rfl⟩
theorem Rdg.fin {s : adE} {ls : List adE} {ts : List Ty} (h : Rdg s ls ts []) (hl : s.length ≤ 400) (h8 : ts.length ≤ 8) : aP s = if i7 ts then some ts else none:=by
 have hlen:=h.len
 have e : aY 10 s = ls ++ [[]]:=h.cutE
 unfold aP
 rw [e,if_pos ⟨hl,by simp;omega,by simp⟩,List.dropLast_concat,h.tyE]
theorem u6 {s : adE} (h : ¬ s.length ≤ 400) : aP s = none:=by
 unfold aP
 exact if_neg fun h2=>h h2.1
theorem Rdg.noend {s : adE} {ls : List adE} {ts : List Ty} {t : adE} (h : Rdg s ls ts t) (ht : t ≠ []) (hc : (aJ 10 t).2.2 = false) : aP s = none:=by
 have e : aY 10 s = ls ++ [t]:=by rw [h.cutE,kg,hc];rfl
 unfold aP
 rw [e,if_neg]
 rintro ⟨_,_,h3⟩
 simp at h3
 exact ht h3
theorem Rdg.many {s : adE} {ls : List adE} {ts : List Ty} {t line rest : adE} (h : Rdg s ls ts t) (hc : aJ 10 t = (line,rest,true)) (h8 : ts.length = 8) : aP s = none:=by
 have hlen:=h.len
 have hp:=dZ (k:=10) (s:=rest)
 unfold aP
 rw [h.cutE,l7 hc,if_neg]
 rintro ⟨_,h3,_⟩
 simp at h3
 omega
theorem rv {ls : List adE} {line rest : adE} : (ls ++ line :: aY 10 rest).dropLast = (ls ++ [line]) ++ (aY 10 rest).dropLast:=by
 have hp:=dZ (k:=10) (s:=rest)
 have hne : aY 10 rest ≠ []:=fun e=>by rw [e] at hp;simp at hp
 rw [List.dropLast_append_of_ne_nil (by simp),List.dropLast_cons_of_ne_nil hne];simp
theorem Rdg.bad {s : adE} {ls : List adE} {ts : List Ty} {t line rest : adE} (h : Rdg s ls ts t) (hc : aJ 10 t = (line,rest,true)) (hx : dh line = none) : aP s = none:=by
 have hn : cb (ls ++ [line]) = none:=by rw [hZ h.tyE,hx];rfl
 unfold aP
 split
 ·rw [h.cutE,l7 hc,rv,gG hn]
 ·rfl
theorem nP : ∀ {xs ys : List adE} {ts us : List Ty},cb xs = some ts → cb (xs ++ ys) = some us → ∃ vs,us = ts ++ vs
 | [],ys,ts,us,h,h2=>by simp only [cb,Option.some.injEq] at h;subst h;exact ⟨us,F⟩
 | x :: xs,ys,ts,us,h,h2=>by
  unfold cb at h
  rw [List.cons_append,cb] at h2
  cases hx : dh x with
  | none=>rw [hx] at h;cases h
  | some t =>
   rw [hx] at h h2
   dsimp only at h h2
   cases hr : cb xs with
   | none=>rw [hr] at h;cases h
   | some ws =>
    rw [hr] at h
    simp only [Option.map_some,Option.some.injEq] at h;subst h
    cases hq : cb (xs ++ ys) with
    | none=>rw [hq] at h2;cases h2
    | some zs =>
     rw [hq] at h2
     simp only [Option.map_some,Option.some.injEq] at h2;subst h2
     obtain ⟨vs,rfl⟩:=nP hr hq
     exact ⟨vs,F⟩
theorem jw {α : Type} [Inhabited α] {xs ys : List α} {i : Nat} (h : i < xs.length) : ae (xs ++ ys) i = ae xs i:=by
 rw [aI h,aI (by simp;omega),List.getElem_append_left h]
theorem Rdg.dup {s : adE} {ls : List adE} {ts : List Ty} {t line rest : adE} {x : Ty} (h : Rdg s ls ts t) (hc : aJ 10 t = (line,rest,true)) (hx : dh line = some x) (i : Nat) (hi : i < ts.length) (hd : (ae ts i).name = x.name) : aP s = none:=by
 have h2:=h.step hc hx
 unfold aP
 split
 ·rw [h.cutE,l7 hc,rv]
  cases hr : cb (ls ++ [line] ++ (aY 10 rest).dropLast) with
  | none=>rfl
  | some us =>
   obtain ⟨vs,rfl⟩:=nP h2.tyE hr
   dsimp only
   rw [if_neg]
   intro hv
   have h3:=(hv.1 ts.length (by simp)).1 i hi
   have e1 : ae (ts ++ [x] ++ vs) i = ae ts i:=by rw [jw (by simp;omega),jw hi]
   have e2 : ae (ts ++ [x] ++ vs) ts.length = x:=by rw [jw (by simp),aI (by simp)];simp
   rw [e1,e2] at h3
   exact h3 hd
 ·rfl
abbrev tPT : TypeId:=160
abbrev tSc : TypeId:=158
def abY (s : adE) (v : Value) (G : Gh) : Prop:=(aP s = none ∧ ∃ p,v = Tu [p,Bo false]) ∨ ∃ b qs,v = Tu [Pt b 0,Bo true] ∧ aP s = some (ah qs) ∧ ScI G b qs
theorem fK (qs : List cC) : (ah qs).length = qs.length:=by simp [ah]
theorem li {qs : List cC} {i : Nat} (h : i < qs.length) : ae (ah qs) i = (ae qs i).2:=by
 rw [aI h,aI (by rw [fK];exact h)];simp [ah]
theorem vu {qs : List cC} {n : adE} {q : cC} (h : eK qs n = some q) : ∃ i,i < (ah qs).length ∧ (ae (ah qs) i).name = n:=by
 have h1:=gZ h
 have h2 : n = q.2.name:=by unfold eK at h;simpa using List.find?_some h
 obtain ⟨i,hi,rfl⟩:=nK h1
 exact ⟨i,by rw [fK];exact hi,by rw [li hi,h2]⟩
theorem vv {qs : List cC} {n : adE} (h : eK qs n = none) : ∀ i,i < qs.length → (ae (ah qs) i).name ≠ n:=by
 intro i hi e
 unfold eK at h
 rw [List.find?_eq_none] at h
 have:=h _ (bh hi)
 rw [li hi] at e
 simp [e] at this
theorem nv {s : adE} (h : s.length ≤ 10000000) : bd adD 89 [S s] G (abY s):=by
 by_cases hl : s.length ≤ 400
 case neg =>
  have hno:=u6 hl
  refine jB [(0,_)] Tryz.func89 Tryz.ntmps89 fun B hok hB hW=>?_
  repeat' (first | refine jR ?_ | refine ab F (aD oM) ?_)
  all_goals refine jZ (vs:=[_,_]) F ⟨F,F,trivial⟩ F ⟨Gh.le.refl _,F,?_⟩
  all_goals exact .inl ⟨hno,_,F⟩
 refine jB [(0,_)] Tryz.func89 Tryz.ntmps89 fun B hok hB hW=>?_
 repeat' (first | refine jR ?_ | (refine jo ?_;first | refine acP F fun _=>?_ | refine jV (ao F F) ?_ | refine jO fun _=>?_) | refine ad F (aE oM) ?_)
 rename_i m x
 refine Nx.addNil tPT 1 ?_
 refine aU (ι:=Value × List cC × List adE × adE × Gh) (fun i=>Rdg s i.2.2.1 (ah i.2.1) i.2.2.2.1 ∧ (i.2.1.length ≤ 8 ∧ i.2.2.2.1.length ≤ s.length) ∧ (∀ a,a < i.2.1.length → lx (ah i.2.1) a) ∧ (∀ q ∈ i.2.1,i8 i.2.2.2.2 q.1 q.2) ∧ Gh.le G i.2.2.2.2) (fun i=>[(0,S i.2.2.2.1),(4,Pt x 0)]) (fun i=>i.2.2.2.2) (fun i=>[.acc i.1 tPT 1 i.2.1.length (ax t9 i.2.1),.blk x (.cells [i.1,.map (some m)].toArray tSc (0,0)),.blk m (fb (ig i.2.1))]) (fun i=>i.2.2.2.1.length) (aN,[],[],s,G) ?_ tU F aZ (fun i Hi=>?_)
 ·exact ⟨Rdg.start s,⟨by simp,Nat.le_refl _⟩,fun a ha=>absurd ha (by simp),by simp,Gh.le.refl _⟩
 obtain ⟨u,qs,ls,t,Gk⟩:=i
 dsimp only at Hi ⊢
 obtain ⟨hR,⟨h8,htl⟩,hna,hti,hgk⟩:=Hi
 refine Nx.shp (v:=u) (.head _) fun hsh=>?_
 have hsh2:=hsh
 obtain ⟨au,cu,rfl⟩:=hsh.sl
 by_cases ht : t = []
 case neg =>
  have cx_cut : ∀ G,aG adD 126 [S t,S [10]] G (· = Tu [S (aJ 10 t).1,S (aJ 10 t).2.1,Bo (aJ 10 t).2.2]):=fun G=>qc (c:=10) oM
  have hcl:=kh (k:=10) (s:=t)
  cases hc : (aJ 10 t).2.2 with
  | false =>
   have hno:=hR.noend ht hc
   have hc2 : (!(aJ 10 t).2.2) = true:=by rw [hc];rfl
   repeat' (first | refine jR ?_ | (refine jo ?_;first | refine aK F ?_ | refine ac F F F (cx_cut _) F ?_) | refine aA F F ‹_› ?_ | (refine ab F (by first | rfl | (refine decide_eq_true ?_;(assumption))) ?_))
   all_goals refine jZ (vs:=[_,_]) F ⟨F,F,trivial⟩ F ⟨hgk,F,?_⟩
   all_goals exact .inl ⟨hno,_,F⟩
  | true =>
   have hce : aJ 10 t = ((aJ 10 t).1,(aJ 10 t).2.1,true):=by rw [← hc]
   have hlt : (aJ 10 t).2.1.length < t.length:=by
    obtain ⟨d,_,e⟩:=g9 hce
    have:=congrArg List.length e
    simp at this;omega
   rw [hc] at cx_cut
   generalize (aJ 10 t).1 = line at *
   generalize (aJ 10 t).2.1 = rest at *
   clear hc
   by_cases h9 : qs.length = 8
   ·have hno:=hR.many hce (by rw [fK];exact h9)
    repeat' (first | refine jR ?_ | (refine jo ?_;first | refine al F ?_ | refine jV (ag F) ?_ | refine aw F ?_ | refine ac F F F (cx_cut _) F ?_) | refine am F F F ?_ | (refine ab F (by refine decide_eq_true ?_;first | assumption | omega) ?_))
    all_goals refine jZ (vs:=[_,_]) F ⟨F,F,trivial⟩ F ⟨hgk,F,?_⟩
    all_goals exact .inl ⟨hno,_,F⟩
   have hle1 : line.length ≤ 1000:=oM
   cases hty : dh line with
   | none =>
    have hno:=hR.bad hce hty
    have cx_rt0 : ∀ G,bd adD 127 [S line] G (fun v _=>∃ p,v = Tu [p,Bo false]):=fun G=>by
     refine (pZ (G:=G) hle1).mono ?_
     rintro v G' L' ⟨h1,h2,⟨_,p,rfl⟩ | ⟨_,_,_,h4,_⟩⟩
     ·exact ⟨h1,h2,p,F⟩
     ·rw [hty] at h4;cases h4
    repeat' (first | refine jR ?_ | (refine jo ?_;first | refine al F ?_ | refine jV (ag F) ?_ | refine aw F ?_ | refine ac F F F (cx_cut _) F ?_ | (refine aF F F F (cx_rt0 _) F ?_;rintro _ G hle ⟨p,rfl⟩;skip)) | refine am F F F ?_ | (refine ab F (by first | rfl | (refine decide_eq_true ?_;(assumption))) ?_) | refine ad F (aE oM) ?_ | (refine ak (ar (id:=9) _ (fun _ h=>h) aj ?_);refine jT 11 [0,1,2] (aa 14 7) ?_;(try (refine Nx.re (d:=47) (v':=Bo true) F (congrArg Value.bool F) ?_));refine jT 5 [3,4,5,7,8,9] (aa 14 959) ?_;(refine jN (aa 14 1023) 6 F ?_);(refine jN (aa 14 2047) 10 F ?_);(refine jN (aa 14 4095) 11 F ?_);(refine jN (aa 14 8191) 12 F ?_);(refine jG (aa 14 16383) 13 F (bJ F F F) ?_);refine jQ ?_))
    all_goals refine jZ (vs:=[_,_]) F ⟨F,F,trivial⟩ F ⟨hgk.trans hle,F,?_⟩
    all_goals exact .inl ⟨hno,_,F⟩
   | some ty =>
   have cx_rt1 : ∀ G,bd adD 127 [S line] G (fun v G'=>∃ b fv ln,v = Tu [Pt b 0,Bo true] ∧ cH G' b 0 [U8 ty.sort,S ty.name,fv,S ln] ∧ bq G' fv 6 ty.fields.length (ax jh ty.fields)):=fun G=>by
    refine (pZ (G:=G) hle1).mono ?_
    rintro v G' L' ⟨h1,h2,⟨h4,_⟩ | ⟨b,t2,rfl,h4,fv,ln,h5,h6⟩⟩
    ·rw [hty] at h4;cases h4
    ·rw [hty] at h4;simp only [Option.some.injEq] at h4;subst h4
     exact ⟨h1,h2,b,fv,ln,F,h5,h6⟩
   have hkv:=gN qs ty.name
   cases hf : eK qs ty.name with
   | some q =>
    rw [hf] at hkv
    dsimp only [Option.map_some] at hkv
    obtain ⟨i,hi,hn⟩:=vu hf
    have hno:=hR.dup hce hty i hi hn
    repeat' (first | refine jR ?_ | (refine jo ?_;first | refine al F ?_ | refine jV (ag F) ?_ | refine aw F ?_ | refine ac F F F (cx_cut _) F ?_ | (refine aF F F F (cx_rt1 _) F ?_;rintro _ G hle ⟨b,fv,ln,rfl,hsg,hfv⟩;skip)) | refine am F F F ?_ | (refine ab F (by first | rfl | (refine decide_eq_true ?_;(assumption))) ?_) | refine ad F (aE oM) ?_ | (refine ak (ar (id:=9) _ (fun _ h=>h) aj ?_);refine jT 11 [0,1,2] (aa 14 7) ?_;(try (refine Nx.re (d:=47) (v':=Bo false) F (congrArg Value.bool F) ?_));refine jT 5 [3,4,5,7,8,9] (aa 14 959) ?_;(refine jG (aa 14 1023) 6 F (aC F F F) ?_);(refine jG (aa 14 2047) 10 F (an F F aS F F) ?_);(refine jG (aa 14 4095) 11 F (cg F F (ue MapI.mem) aS F) ?_);(refine jG (aa 14 8191) 12 F (ij F F) ?_);(refine jG (aa 14 16383) 13 F (bm F F F) ?_);refine jQ ?_))
    all_goals refine jZ (vs:=[_,_]) F ⟨F,F,trivial⟩ F ⟨hgk.trans hle,F,?_⟩
    all_goals exact .inl ⟨hno,_,F⟩
   | none =>
    rw [hf] at hkv
    dsimp only [Option.map_none] at hkv
    repeat' (first | refine jR ?_ | (refine jo ?_;first | refine al F ?_ | refine jV (ag F) ?_ | refine aw F ?_ | refine ac F F F (cx_cut _) F ?_ | (refine aF F F F (cx_rt1 _) F ?_;rintro _ G hle ⟨b,fv,ln,rfl,hsg,hfv⟩;skip)) | refine am F F F ?_ | refine ab F (aD ‹_›) ?_ | refine ad F (aE oM) ?_)
    (refine ak (ar (id:=9) _ (fun _ h=>h) aj ?_);refine jT 11 [0,1,2] (aa 14 7) ?_;(try (refine Nx.re (d:=47) (v':=Bo false) F (congrArg Value.bool F) ?_));refine jT 5 [3,4,5,7,8,9] (aa 14 959) ?_;(refine jG (aa 14 1023) 6 F (aC F F F) ?_);(refine jG (aa 14 2047) 10 F (an F F aS F F) ?_);(refine jG (aa 14 4095) 11 F (cg F F (ue MapI.mem) aS F) ?_);(refine jG (aa 14 8191) 12 F (ij F F) ?_);(refine jG (aa 14 16383) 13 F (bm F F F) ?_);refine jQ ?_)
    repeat' (first | refine jR ?_ | (refine jo ?_;first | refine al F ?_ | refine jF fun _=>?_ | refine ci F F F F F F F F F oM fun _ _=>?_ | refine jD F F F ?_) | refine ad F F ?_)
    rename_i w b2 c2
    (refine ak (ar (id:=12) [.blk x (.cells [.slice (some ⟨b2,0,none⟩) (qs.length + 1) c2,.map (some m)].toArray tSc (0,0))] (by intro y hy;simp only [List.mem_cons,List.not_mem_nil,or_false] at hy ⊢;simp [hy]) aj ?_);refine jW 3 [0,1,2,4,5,6,8] (aa 10 375) ?_;(refine jG (aa 10 383) 3 F (aC F F F) ?_);(refine jG (aa 10 511) 7 F (an F F aS F F) ?_);refine jA 9 F ?_;(refine acN F F F F ‹_› ?_);refine jS (aa 10 1023) ?_;refine jQ ?_)
    repeat' (refine jR ?_)
    have e1 : ig qs ++ [(ty.name,Pt b 0)] = ig (qs ++ [(b,ty)]):=by simp [ig]
    have e2 : ax t9 qs ++ [Pt b 0] = ax t9 (qs ++ [(b,ty)]):=(b5 t9 qs (b,ty)).symm
    have e3 : ah (qs ++ [(b,ty)]) = ah qs ++ [ty]:=by simp [ah]
    rw [e1,e2]
    refine a7 (.slice (some ⟨b2,0,none⟩) (qs.length + 1) c2,qs ++ [(b,ty)],ls ++ [line],rest,G) ⟨?_,⟨by simp;omega,by dsimp only;omega⟩,?_,?_,hgk.trans hle⟩ (by dsimp only;omega) tU rfl (by dsimp only;simp only [List.length_append,List.length_cons,List.length_nil,Nat.zero_add];repeat (first | exact List.Sublist.refl _ | apply List.Sublist.cons_cons | apply List.Sublist.cons))
    ·dsimp only;rw [e3];exact hR.step hce hty
    ·intro a ha k hk
     dsimp only at ha ⊢
     rw [e3]
     have hlen:=fK qs
     have hal : a < qs.length + 1:=by simpa using ha
     rcases Nat.lt_or_ge a qs.length with h3 | h3
     ·rw [jw oM,jw oM];exact hna a h3 k hk
     ·have ea : a = qs.length:=oM
      have e4 : ae (ah qs ++ [ty]) a = ty:=by rw [aI (by simp;omega),List.getElem_append_right oM];simp
      rw [jw oM,e4]
      exact vv hf k oM
    ·intro q hq
     dsimp only at hq ⊢
     rcases List.mem_append.1 hq with hq | hq
     ·exact (hti q hq).mono hle
     ·simp only [List.mem_singleton] at hq;subst hq;exact ⟨fv,ln,hsg,hfv⟩
 ·subst ht
  have hfin:=hR.fin hl (by rw [fK];exact h8)
  have hw : ∀ q ∈ qs,TyW q.2:=fun q hq=>(iT hR.tyE).1 q.2 (show q.2 ∈ qs.map (fun y=>y.2) from List.mem_map_of_mem hq)
  refine Nx.sealS (v:=.slice au qs.length cu) fun G1 hl1 hsl=>?_
  refine Nx.sealC (b:=x) fun G2 hl2 hsx=>?_
  refine Nx.sealM (b:=m) fun G3 hl3 hmm=>?_
  have hS : ScI G3 x qs:=⟨⟨_,m,hsx.mono hl3,hsl.mono (hl2.trans hl3),hmm⟩,fun q hq=>(hti q hq).mono ((hl1.trans hl2).trans hl3)⟩
  have hgl : Gh.le G G3:=((hgk.trans hl1).trans hl2).trans hl3
  have hsx3:=hsx.mono hl3
  have hsl3:=hsl.mono (hl2.trans hl3)
  repeat' (first | refine jR ?_ | (refine jo ?_;first | refine jV (an F F aS F F) ?_ | refine jV (ag F) ?_) | refine ad F F ?_)
  refine aU (ι:=Nat) (fun k=>k ≤ qs.length ∧ ∀ j,j < k → iK (ah qs) (ae qs j).2) (fun k=>[(4,Pt x 0),(82,.slice au qs.length cu),(83,I qs.length),(84,I k)]) (fun k=>G3) (fun k=>[]) (fun k=>qs.length - k) 0 ?_ tU F aZ (fun k Hk=>?_)
  ·exact ⟨Nat.zero_le _,fun j hj=>absurd hj oM⟩
  by_cases hk : k < qs.length
  case neg =>
   have hko : ∀ q ∈ qs,iK (ah qs) q.2:=fun q hq=>by
    obtain ⟨j,hj,rfl⟩:=nK hq
    exact Hk.2 j oM
   repeat' (first | refine jR ?_ | (refine jo ?_;first | refine jV (an F F aS F F) ?_ | refine jV (ag F) ?_) | refine ad F (aE oM) ?_)
   refine aU (ι:=Nat) (fun k=>k ≤ qs.length ∧ ∀ j,j < k → bR (ah qs) 9 (ae qs j).2 = true) (fun k=>[(4,Pt x 0),(114,.slice au qs.length cu),(115,I qs.length),(116,I k)]) (fun k=>G3) (fun k=>[]) (fun k=>qs.length - k) 0 ?_ tU F aZ (fun k Hk=>?_)
   ·exact ⟨Nat.zero_le _,fun j hj=>absurd hj oM⟩
   have hends : ∀ j,j < qs.length → bR (ah qs) 9 (ae qs j).2 = bR (ah qs) ((ah qs).length + 1) (ae (ah qs) j):=fun j hj=>by
    rw [li hj]
    exact zz (by rw [fK];exact h8) (show (ae qs j).2 ∈ qs.map (fun y=>y.2) from List.mem_map_of_mem (bh hj))
   by_cases hk2 : k < qs.length
   case neg =>
    have hv : i7 (ah qs):=by
     refine ⟨fun j hj=>?_,fun j hj=>?_⟩
     ·rw [fK] at hj
      exact ⟨hna j hj,by rw [li hj];exact hko _ (bh hj)⟩
     ·rw [fK] at hj
      rw [← hends j hj];exact Hk.2 j oM
    repeat' (first | refine jR ?_ | refine ad F (aE oM) ?_)
    all_goals refine jZ (vs:=[_,_]) F ⟨F,F,trivial⟩ F ⟨hgl,F,?_⟩
    all_goals exact .inr ⟨x,qs,F,by rw [hfin,if_pos hv],hS⟩
   obtain ⟨ba,oa,ca,ea,hsa⟩:=hsl3.expl oM
   simp only [Value.slice.injEq] at ea
   obtain ⟨rfl,-,rfl⟩:=ea
   rcases hq : ae qs k with ⟨p,ty⟩
   have hqm : (p,ty) ∈ qs:=by rw [← hq];exact bh hk2
   have cx_en2:=aaa hS hw hko hqm
   have hek:=hends k hk2
   rw [hq] at hek
   dsimp only at hek
   by_cases he : bR (ah qs) 9 ty = true
   ·have he2 : (!bR (ah qs) 9 ty) = false:=by rw [he];rfl
    repeat' (first | refine jM ?_ | (refine jo ?_;first | (refine jV (cZ F F aS ?_ aS F) ?_;focus omega) | refine jV (aq F F oM) ?_ | refine ac F F F cx_en2 F ?_) | refine ab F (aD oM) ?_ | refine ad F ‹_› ?_)
    refine a7 (k + 1) ⟨oM,fun j hj=>?_⟩ oM tU F aZ
    rcases Nat.lt_or_ge j k with h3 | h3
    ·exact Hk.2 j h3
    ·have : j = k:=oM
     subst this;rw [hq];exact he
   ·have he2 : (!bR (ah qs) 9 ty) = true:=by simpa using he
    have hno : aP s = none:=by
     rw [hfin,if_neg]
     intro hv
     have:=hv.2 k (by rw [fK];exact hk2)
     rw [← hek] at this
     exact he this
    repeat' (first | refine jR ?_ | (refine jo ?_;first | (refine jV (cZ F F aS ?_ aS F) ?_;focus omega) | refine jV (aq F F oM) ?_ | refine ac F F F cx_en2 F ?_) | (refine ab F (by first | assumption | (refine decide_eq_true ?_;(omega))) ?_))
    all_goals refine jZ (vs:=[_,_]) F ⟨F,F,trivial⟩ F ⟨hgl,F,?_⟩
    all_goals exact .inl ⟨hno,_,F⟩
  obtain ⟨ba,oa,ca,ea,hsa⟩:=hsl3.expl oM
  simp only [Value.slice.injEq] at ea
  obtain ⟨rfl,-,rfl⟩:=ea
  rcases hq : ae qs k with ⟨p,ty⟩
  have hqm : (p,ty) ∈ qs:=by rw [← hq];exact bh hk
  obtain ⟨fv,ln,hsg,hfv⟩:=hS.ty _ hqm
  dsimp only at hsg hfv
  have hW:=hw _ hqm
  dsimp only at hW
  have h88:=hW.len
  repeat' (first | refine jR ?_ | (refine jo ?_;first | refine jV (an F F aS F F) ?_ | (refine jV (cZ F F aS ?_ aS F) ?_;focus omega) | refine jV (f6 F aS) ?_ | refine jV (aq F F oM) ?_) | refine ab F (aD oM) ?_)
  refine aU (ι:=Nat) (fun l=>l ≤ ty.fields.length ∧ (ty.sort = 69 ∨ ∀ j,j < l → eL (ah qs) (ae ty.fields j).kind = true)) (fun l=>[(4,Pt x 0),(11,Pt p 0),(82,.slice (some ⟨ba,oa,none⟩) qs.length cu),(83,I qs.length),(84,I k),(91,fv),(92,I ty.fields.length),(93,I l)]) (fun l=>G3) (fun l=>[]) (fun l=>ty.fields.length - l) 0 ?_ tU F aZ (fun l Hl=>?_)
  ·exact ⟨Nat.zero_le _,.inr fun j hj=>absurd hj oM⟩
  by_cases hl2 : l < ty.fields.length
  case neg =>
   repeat' (first | refine jM ?_ | refine ad F (aE oM) ?_)
   refine a7 (k + 1) ⟨oM,fun j hj=>?_⟩ oM tU F aZ
   rcases Nat.lt_or_ge j k with h3 | h3
   ·exact Hk.2 j h3
   ·have : j = k:=oM
    subst this
    rw [hq]
    rcases Hl.2 with h5 | h5
    ·exact .inl h5
    ·exact .inr fun j2 hj2=>h5 j2 (by dsimp only at hj2;omega)
  obtain ⟨bf,of,cf,rfl,hsf⟩:=hfv.expl oM
  by_cases h69 : ty.sort = 69
  ·repeat' (first | refine jM ?_ | (refine jo ?_;first | (refine jV (dH F F aS ?_) ?_;focus omega) | refine jV (an F F aS F F) ?_ | refine aw F ?_ | refine jC F F F ?_ | refine jV (aq F F oM) ?_ | refine jL fun _=>?_) | refine am F F (aE oM) ?_ | refine ab F (aD oM) ?_ | refine ad F F ?_)
   refine a7 (l + 1) ⟨oM,.inl h69⟩ oM tU F (by repeat (exact List.nil_sublist _))
  have hko1:=(hW.fld _ (bh hl2)).kind h69
  have cx_has:=vE hS hko1
  by_cases hh : eL (ah qs) (ae ty.fields l).kind = true
  ·have hh2 : (!eL (ah qs) (ae ty.fields l).kind) = false:=by rw [hh];rfl
   repeat' (first | refine jM ?_ | (refine jo ?_;first | (refine jV (dH F F aS ?_) ?_;focus omega) | refine aQ F ?_ | refine jV (an F F aS F F) ?_ | refine aK F ?_ | refine jC F F F ?_ | refine jV (aq F F oM) ?_ | refine jL fun _=>?_ | refine ac F F F cx_has F ?_) | refine aA F F (aD oM) ?_ | refine ab F (aD oM) ?_ | refine ad F ‹_› ?_)
   refine a7 (l + 1) ⟨oM,.inr fun j hj=>?_⟩ oM tU F (by repeat (exact List.nil_sublist _))
   rcases Nat.lt_or_ge j l with h3 | h3
   ·rcases Hl.2 with h5 | h5
    ·exact absurd h5 h69
    ·exact h5 j h3
   ·have : j = l:=oM
    subst this;exact hh
  ·have hh2 : (!eL (ah qs) (ae ty.fields l).kind) = true:=by simpa using hh
   have hno : aP s = none:=by
    rw [hfin,if_neg]
    intro hv
    have h5:=(hv.1 k (by rw [fK];exact hk)).2
    rw [li hk,hq] at h5
    rcases h5 with h6 | h6
    ·exact h69 h6
    ·exact hh (h6 l hl2)
   repeat' (first | refine jR ?_ | (refine jo ?_;first | (refine jV (dH F F aS ?_) ?_;focus omega) | refine aQ F ?_ | refine jV (an F F aS F F) ?_ | refine aK F ?_ | refine jC F F F ?_ | refine jV (aq F F oM) ?_ | refine jL fun _=>?_ | refine ac F F F cx_has F ?_) | refine aA F F (aD oM) ?_ | (refine ab F (by first | assumption | (refine decide_eq_true ?_;(omega))) ?_))
   all_goals refine jZ (vs:=[_,_]) F ⟨F,F,trivial⟩ F ⟨hgl,F,?_⟩
   all_goals exact .inl ⟨hno,_,F⟩
def ye (s k : adE) (v : Value) (G : Gh) : Prop:=(cz s k = false ∧ ∃ p a b c,v = Tu [p,Ag [S a,S b,S c],Bo false]) ∨ ∃ b qs,v = Tu [Pt b 0,Ag (c7 k),Bo true] ∧ aP s = some (ah qs) ∧ aB (ah qs) k = true ∧ ScI G b qs
theorem nx {s k : adE} (h : s.length ≤ 10000000) (hk : k.length ≤ 2000000) : bd adD 50 [S s,S k] G (ye s k):=by
 cases hs : aP s with
 | none =>
  have hno : cz s k = false:=by unfold cz;rw [hs]
  have cx_rs0 : ∀ G,bd adD 89 [S s] G (fun v _=>∃ p,v = Tu [p,Bo false]):=fun G=>by
   refine (nv (G:=G) h).mono ?_
   rintro v G' L' ⟨h1,h2,⟨_,p,rfl⟩ | ⟨_,_,_,h4,_⟩⟩
   ·exact ⟨h1,h2,p,F⟩
   ·rw [hs] at h4;cases h4
  refine jB [(0,_),(1,_)] Tryz.func50 Tryz.ntmps50 fun B hok hB hW=>?_
  repeat' (first | refine jR ?_ | (refine jo ?_;first | refine jL fun _=>?_ | refine jV (ao F F) ?_ | refine jC F F F ?_ | (refine aF F F F (cx_rs0 _) F ?_;rintro _ G hle ⟨p,rfl⟩;skip)) | refine ab F F ?_)
  all_goals refine jZ (vs:=[_,_,_]) F ⟨F,ay F F F F,F,trivial⟩ F ⟨hle,F,?_⟩
  all_goals exact .inl ⟨hno,_,[],[],[],F⟩
 | some ts =>
  have cx_rs1 : ∀ G,bd adD 89 [S s] G (fun v G'=>∃ b qs,v = Tu [Pt b 0,Bo true] ∧ ah qs = ts ∧ ScI G' b qs):=fun G=>by
   refine (nv (G:=G) h).mono ?_
   rintro v G' L' ⟨h1,h2,⟨h4,_⟩ | ⟨b,qs,rfl,h4,h5⟩⟩
   ·rw [hs] at h4;cases h4
   ·rw [hs] at h4;simp only [Option.some.injEq] at h4;exact ⟨h1,h2,b,qs,F,h4.symm,h5⟩
  by_cases hko : bC k = true
  case neg =>
   have hkc2 : bC k = false:=by simpa using hko
   have hno : cz s k = false:=by unfold cz aB;rw [hs];simp [hkc2]
   have cx_kn : ∀ G,aG adD 90 [S k] G (fun v=>∃ x y z,v = Tu [Ag [S x,S y,S z],Bo false]):=fun G=>by
    refine (mg (G:=G) (s:=k) oM).mono ?_
    rintro v G' L' ⟨h1,h2,x,y,z,rfl,_⟩
    exact ⟨h1,h2,x,y,z,by rw [hkc2]⟩
   refine jB [(0,_),(1,_)] Tryz.func50 Tryz.ntmps50 fun B hok hB hW=>?_
   repeat' (first | refine jR ?_ | (refine jo ?_;first | refine jL fun _=>?_ | refine jC F F F ?_ | (refine aF F F F (cx_rs1 _) F ?_;rintro _ G hle ⟨b,qs,rfl,hqs,hS⟩;skip) | (refine dn F F F (cx_kn _) F ?_;rintro _ ⟨x,y,z,rfl⟩)) | refine ad F F ?_ | (refine ak (dL (id:=5) (tt:=5) F aj ?_);refine jW 8 [0,2,3] (aa 11 13) ?_;(try (refine Nx.re (d:=26) (v':=Bo false) F (congrArg Value.bool F) ?_));refine jW 7 [4] (aa 11 29) ?_;(refine jG (aa 11 31) 1 F (bz F F F F) ?_);(refine jN (aa 11 63) 5 F ?_);(refine jN (aa 11 127) 6 F ?_);refine jW 3 [8] (aa 11 383) ?_;((refine jG (aa 11 511) 7 F (bm F F ?_) ?_;(focus ((rfl);done))));refine jA 9 F ?_;(refine jC F F F ?_);refine jK (aa 11 1023) ?_;refine jW 0 [10] (aa 11 2047) ?_;refine jQ ?_))
   all_goals refine jZ (vs:=[_,_,_]) F ⟨F,ay F F F F,F,trivial⟩ F ⟨hle,F,?_⟩
   all_goals exact .inl ⟨hno,_,_,_,_,F⟩
  have cx_kq : ∀ G,aG adD 90 [S k] G (· = Tu [Ag [S (sg k),S (bs k),S (nm k)],Bo true]):=fun G=>uF oM hko
  have hkk : c7 k = [S (sg k),S (bs k),S (nm k)]:=rfl
  by_cases hH : eL ts k = true
  case pos =>
   have cx_hy : ∀ G b qs,ah qs = ts → ScI G b qs → aG adD 91 [Pt b 0,Ag [S (sg k),S (bs k),S (nm k)]] G (· = Bo true):=by
    intro G b qs hq hS
    refine (vE hS hko).mono ?_
    rintro v G' L' ⟨h1,h2,rfl⟩
    exact ⟨h1,h2,by rw [hq,hH]⟩
   refine jB [(0,_),(1,_)] Tryz.func50 Tryz.ntmps50 fun B hok hB hW=>?_
   repeat' (first | refine jR ?_ | (refine jo ?_;first | refine jL fun _=>?_ | refine jC F F F ?_ | (refine aF F F F (cx_rs1 _) F ?_;rintro _ G hle ⟨b,qs,rfl,hqs,hS⟩;skip) | refine ac F F F (cx_kq _) F ?_) | refine ad F F ?_ | (refine ak (dL (id:=5) (tt:=5) F aj ?_);refine jW 8 [0,2,3] (aa 11 13) ?_;(try (refine Nx.re (d:=26) (v':=Bo true) F (congrArg Value.bool F) ?_));refine jW 7 [4] (aa 11 29) ?_;(refine jG (aa 11 31) 1 F (bz F F F F) ?_);(refine jG (aa 11 63) 5 F (bz F F F F) ?_);((refine jA 6 F ?_;((refine ac F F F ((cx_hy _ _ _) (by (repeat (assumption));done) (by (repeat (assumption));done)) rfl ?_));refine jK (aa 11 127) ?_));refine jW 3 [8] (aa 11 383) ?_;((refine jG (aa 11 511) 7 F (bJ F F ?_) ?_;(focus ((rfl);done))));refine jA 9 F ?_;(refine jC F F F ?_);refine jK (aa 11 1023) ?_;refine jW 0 [10] (aa 11 2047) ?_;refine jQ ?_))
   all_goals refine jZ (vs:=[_,_,_]) F ⟨F,ay F F F F,F,trivial⟩ F ⟨hle,F,?_⟩
   all_goals exact .inr ⟨b,qs,F,by rw [hs,hqs],by simp [aB,hqs,hko,hH],hS⟩
  case neg =>
   have hH2 : eL ts k = false:=by simpa using hH
   have hno : cz s k = false:=by unfold cz aB;rw [hs];simp [hH2]
   have cx_hn : ∀ G b qs,ah qs = ts → ScI G b qs → aG adD 91 [Pt b 0,Ag [S (sg k),S (bs k),S (nm k)]] G (· = Bo false):=by
    intro G b qs hq hS
    refine (vE hS hko).mono ?_
    rintro v G' L' ⟨h1,h2,rfl⟩
    exact ⟨h1,h2,by rw [hq,hH2]⟩
   refine jB [(0,_),(1,_)] Tryz.func50 Tryz.ntmps50 fun B hok hB hW=>?_
   repeat' (first | refine jR ?_ | (refine jo ?_;first | refine jL fun _=>?_ | refine jC F F F ?_ | (refine aF F F F (cx_rs1 _) F ?_;rintro _ G hle ⟨b,qs,rfl,hqs,hS⟩;skip) | refine ac F F F (cx_kq _) F ?_) | refine ad F F ?_ | (refine ak (dL (id:=5) (tt:=5) F aj ?_);refine jW 8 [0,2,3] (aa 11 13) ?_;(try (refine Nx.re (d:=26) (v':=Bo true) F (congrArg Value.bool F) ?_));refine jW 7 [4] (aa 11 29) ?_;(refine jG (aa 11 31) 1 F (bz F F F F) ?_);(refine jG (aa 11 63) 5 F (bz F F F F) ?_);((refine jA 6 F ?_;((refine ac F F F ((cx_hn _ _ _) (by (repeat (assumption));done) (by (repeat (assumption));done)) rfl ?_));refine jK (aa 11 127) ?_));refine jW 3 [8] (aa 11 383) ?_;((refine jG (aa 11 511) 7 F (bJ F F ?_) ?_;(focus ((rfl);done))));refine jA 9 F ?_;(refine jC F F F ?_);refine jK (aa 11 1023) ?_;refine jW 0 [10] (aa 11 2047) ?_;refine jQ ?_))
   all_goals refine jZ (vs:=[_,_,_]) F ⟨F,ay F F F F,F,trivial⟩ F ⟨hle,F,?_⟩
   all_goals exact .inl ⟨hno,_,_,_,_,F⟩
theorem iZ {t : Ty} : fV t = (ae t.fields 0).kind:=by
 unfold fV ae
 cases t.fields with
 | nil=>rfl
 | cons f r=>rfl
theorem j5 {t : Ty} : tag0 t = (ae t.fields 0).tag:=by
 unfold tag0 ae
 cases t.fields with
 | nil=>rfl
 | cons f r=>rfl
theorem nq {n : Int} (h : 0 ≤ n ∧ n ≤ 9223372036854775807) : (a8 n).length ≤ 19:=gR h.2
theorem tK (k : adE) : (gh k).length ≤ 2:=by
 unfold gh
 split
 ·simp
 ·split
  ·simp
  ·split <;> simp
theorem SchW.tag0 {ts : List Ty} (h : SchW ts) {t : Ty} (ht : t ∈ ts) : 0 ≤ Go.E.tag0 t ∧ Go.E.tag0 t ≤ 200:=by
 rw [j5]
 by_cases h0 : 0 < t.fields.length
 ·have:=((h.ty t ht).fld _ (bh h0)).tag;omega
 ·have : t.fields = []:=List.eq_nil_of_length_eq_zero oM
  rw [this];exact ⟨Int.le_refl _,by decide⟩
theorem lF {ts : List Ty} (h : SchW ts) : ∀ (n : Nat) (k : adE),(cA ts n k).length ≤ 30 * n
 | 0,k=>by simp [cA]
 | n + 1,[]=>by simp [cA]
 | n + 1,c :: r=>by
  unfold cA
  split
  ·simp;omega
  ·split
   ·simp;omega
   ·split
    ·have:=tK (c :: r);omega
    ·rename_i t ht
     have h1:=h.tag0 (bi ht)
     have h2:=nq (n:=tag0 t) oM
     have h3:=lF h n (fV t)
     split
     ·simp;omega
     ·split
      ·simp;omega
      ·simp;omega
theorem dk {ts : List Ty} (h : SchW ts) {t : Ty} (ht : t ∈ ts) (hs : t.sort ≠ 69) {f : Fld} (hf : f ∈ t.fields) : aB ts f.kind = true:=by
 unfold aB
 rw [((h.ty t ht).fld f hf).kind hs,Bool.true_and]
 obtain ⟨i,hi,rfl⟩:=List.mem_iff_getElem.1 ht
 obtain ⟨j,hj,rfl⟩:=List.mem_iff_getElem.1 hf
 have h1:=(h.valid.1 i hi).2
 rw [aI hi] at h1
 rcases h1 with h1 | h1
 ·exact absurd h1 hs
 ·have:=h1 j hj
  rwa [aI hj] at this
theorem cE {ts : List Ty} {k : adE} (h : aB ts k = true) : bC k = true:=by
 unfold aB at h;simp only [Bool.and_eq_true] at h;exact h.1
theorem eV {c : UInt8} {r : adE} (h : ¬ (c.toNat = 91 ∨ c.toNat = 63)) : bo (c :: r) = c :: r:=by rw [bo,if_neg h]
theorem qC {ts : List Ty} (h : SchW ts) {k : adE} (t : Ty) (ht : aX ts k = some t) : bR ts (ts.length + 1) t = true:=by
 obtain ⟨i,hi,rfl⟩:=List.mem_iff_getElem.1 (bi ht)
 have:=h.valid.2 i hi
 rwa [aI hi] at this
theorem wD {u : Value} {vs : List bU} (h : SchR G u vs) (hw : SchW (af vs)) : ∀ (n : Nat) {k : adE},n ≤ 1000 → aB (af vs) k = true → (∀ t,aX (af vs) k = some t → bR (af vs) n t = true) →
  aG adD 162 [u,S k] G (· = S (cA (af vs) (n + 1) k)):=by
 have hvl : vs.length ≤ 1000000:=by have:=hw.len;rw [qj] at this;omega
 intro n
 induction n with
 | zero =>
  intro k hn hk he
  have hko:=cE hk
  have hkk:=cm hko
  match k,hkk with
  | c :: r,hkk =>
   have e0:=mv c r
   by_cases h1 : c.toNat = 91
   ·refine jE [(0,_),(1,_)] Tryz.func162 Tryz.ntmps162 fun B hB=>?_
    repeat' (first | refine jX ?_ | (refine ab F ?_ ?_;(focus ((simp [*];done);done))))
    all_goals refine jY (vs:=[_]) ?_
    all_goals (rw [aH];unfold cA;rw [if_pos h1])
   by_cases h2 : c.toNat = 63
   ·refine jE [(0,_),(1,_)] Tryz.func162 Tryz.ntmps162 fun B hB=>?_
    repeat' (first | refine jX ?_ | (refine ab F ?_ ?_;(focus ((simp [*];done);done))) | (refine ad F ?_ ?_;(focus ((simp [*];done);done))))
    all_goals refine jY (vs:=[_]) ?_
    all_goals (rw [aH];unfold cA;rw [if_neg h1,if_pos h2])
   have href:=dX vs (c :: r)
   have cx_rf:=gE (k:=c :: r) h hvl hkk.1 oM
   cases hr : d8 vs (c :: r) with
   | some x=>rw [hr] at href;have:=he _ href.symm;cases this
   | none =>
    rw [hr] at href cx_rf
    refine jE [(0,_),(1,_)] Tryz.func162 Tryz.ntmps162 fun B hB=>?_
    repeat' (first | refine jX ?_ | (refine jo ?_;first | refine jL fun _=>?_ | refine jC F F F ?_ | refine ac F F F cx_rf F ?_ | refine ac F F F rG F ?_) | refine ab F F ?_ | (refine ad F ?_ ?_;(focus ((simp;omega);done))))
    all_goals refine jY (vs:=[_]) ?_
    all_goals (rw [aH];unfold cA;rw [if_neg h1,if_neg h2,← href];rfl)
 | succ n ih =>
  intro k hn hk he
  have hko:=cE hk
  have hkk:=cm hko
  match k,hkk with
  | c :: r,hkk =>
   have e0:=mv c r
   by_cases h1 : c.toNat = 91
   ·refine jE [(0,_),(1,_)] Tryz.func162 Tryz.ntmps162 fun B hB=>?_
    repeat' (first | refine jX ?_ | (refine ab F ?_ ?_;(focus ((simp [*];done);done))))
    all_goals refine jY (vs:=[_]) ?_
    all_goals (rw [aH];unfold cA;rw [if_pos h1])
   by_cases h2 : c.toNat = 63
   ·refine jE [(0,_),(1,_)] Tryz.func162 Tryz.ntmps162 fun B hB=>?_
    repeat' (first | refine jX ?_ | (refine ab F ?_ ?_;(focus ((simp [*];done);done))) | (refine ad F ?_ ?_;(focus ((simp [*];done);done))))
    all_goals refine jY (vs:=[_]) ?_
    all_goals (rw [aH];unfold cA;rw [if_neg h1,if_pos h2])
   have href:=dX vs (c :: r)
   have cx_rf:=gE (k:=c :: r) h hvl hkk.1 oM
   rcases hr : d8 vs (c :: r) with _ | ⟨⟨a,ca⟩,t⟩
   ·rw [hr] at href cx_rf
    refine jE [(0,_),(1,_)] Tryz.func162 Tryz.ntmps162 fun B hB=>?_
    repeat' (first | refine jX ?_ | (refine jo ?_;first | refine jL fun _=>?_ | refine jC F F F ?_ | refine ac F F F cx_rf F ?_ | refine ac F F F rG F ?_) | refine ab F F ?_ | (refine ad F ?_ ?_;(focus ((simp;omega);done))))
    all_goals refine jY (vs:=[_]) ?_
    all_goals (rw [aH];unfold cA;rw [if_neg h1,if_neg h2,← href];rfl)
   rw [hr] at href cx_rf
   have hrf : aX (af vs) (c :: r) = some t:=href.symm
   have htm:=bi hrf
   have hW:=hw.ty t htm
   have htg:=hw.tag0 htm
   rw [j5] at htg
   have e3 : cA (af vs) (n + 1 + 1) (c :: r) = if t.sort = 82 then [123,125] else if t.sort = 69 then 35 :: a8 (tag0 t) else 60 :: (a8 (tag0 t) ++ 61 :: (cA (af vs) (n + 1) (fV t) ++ [62])):=by
    rw [cA,if_neg h1,if_neg h2,hrf]
   rw [e3,j5,iZ]
   clear e3
   by_cases s1 : t.sort = 82
   ·rw [if_pos s1]
    refine jE [(0,_),(1,_)] Tryz.func162 Tryz.ntmps162 fun B hB=>?_
    repeat' (first | refine jX ?_ | (refine jo ?_;first | refine jL fun _=>?_ | refine jC F F F ?_ | refine al F ?_ | refine ac F F F cx_rf F ?_) | (refine ab F ?_ ?_;(focus ((simp [*];done);done))) | (refine ad F ?_ ?_;(focus ((first | rfl | (simp;omega));done))))
    all_goals refine jY (vs:=[_]) ?_
    all_goals rfl
   have h0 : 0 < t.fields.length:=List.length_pos_iff.2 (hW.ne s1)
   obtain ⟨bf,of,cf,ef,hsf⟩:=(h.fl _ (eI hr)).expl h0
   simp only [fY,Value.slice.injEq] at ef
   obtain ⟨rfl,-,rfl⟩:=ef
   dsimp only at hsf
   have cx_rf : aG adD 160 [u,S (c :: r)] G (· = Tu [Ag [U8 t.sort,S t.name,.slice (some ⟨bf,of,none⟩) t.fields.length ca],Bo true]):=cx_rf
   have hdl:=nq (n:=(ae t.fields 0).tag) oM
   rw [if_neg s1]
   by_cases s2 : t.sort = 69
   ·rw [if_pos s2]
    refine jE [(0,_),(1,_)] Tryz.func162 Tryz.ntmps162 fun B hB=>?_
    repeat' (first | refine jX ?_ | (refine jo ?_;first | refine jL fun _=>?_ | refine jC F F F ?_ | refine al F ?_ | (refine jV (b7 F F aS ?_ F F) ?_;focus omega) | refine jV (aq F F oM) ?_ | refine ac F F F cx_rf F ?_ | (refine ac F F F (dp ?_) F ?_;(focus ((simp;omega);done)))) | refine ab F (aD oM) ?_ | (refine ad F ?_ ?_;(focus ((first | rfl | (refine decide_eq_false ?_;(omega)) | (simp;omega));done))))
    all_goals refine jY (vs:=[_]) ?_
    all_goals rfl
   have hin:=dk hw htm s2 (bh h0)
   have hen : ∀ t',aX (af vs) (ae t.fields 0).kind = some t' → bR (af vs) n t' = true:=by
    intro t' ht'
    have:=he t hrf
    have s3 : t.sort = 85:=by rcases hW.sort with h | h | h <;> omega
    rw [bR,if_neg (by simp [s3]),iZ,ht'] at this
    exact this
   have cx_std:=ih (k:=(ae t.fields 0).kind) oM hin hen
   have hsl:=lF hw (n + 1) (ae t.fields 0).kind
   rw [if_neg s2]
   refine jE [(0,_),(1,_)] Tryz.func162 Tryz.ntmps162 fun B hB=>?_
   repeat' (first | refine jX ?_ | (refine jo ?_;first | refine jL fun _=>?_ | refine jC F F F ?_ | refine al F ?_ | refine ac F F F cx_rf F ?_) | (refine ad F ?_ ?_;(focus ((first | rfl | (refine decide_eq_false ?_;(omega)) | (simp;omega));done))) | (refine ak (ar (id:=13) _ (fun _ h=>h) aj ?_);refine jT 15 [0,8,9] (aa 18 769) ?_;(refine jG (aa 18 771) 1 F (aC F F F) ?_);(refine jG (aa 18 775) 2 F (aq F F oM) ?_);refine jT 12 [3] (aa 18 783) ?_;((refine jG (aa 18 799) 4 F (b7 F F aS ?_ F F) ?_;focus omega));(refine jG (aa 18 1823) 10 F (aC F F F) ?_);(refine jG (aa 18 3871) 11 F (aq F F oM) ?_);refine jT 8 [12] (aa 18 7967) ?_;((refine jG (aa 18 16159) 13 F (b7 F F aS ?_ F F) ?_;focus omega));refine jA 5 F ?_;((refine ac F F F (dp ?_) F ?_;(focus ((simp;omega);done))));refine jS (aa 18 16191) ?_;refine jW 4 [6,7] (aa 18 16383) ?_;refine jA 14 F ?_;(refine ac F F F cx_std F ?_);refine jS (aa 18 32767) ?_;refine jW 0 [15,16,17] (aa 18 262143) ?_;refine jQ ?_))
   all_goals refine jY (vs:=[_]) ?_
   all_goals (rw [aH];simp)
theorem wF {u : Value} {vs : List bU} (h : SchR G u vs) (hw : SchW (af vs)) {k : adE} (hk : aB (af vs) k = true) : aG adD 162 [u,S k] G (· = S (pi (af vs) k)) :=
 wD h hw ((af vs).length + 1) (by have:=hw.len;omega) hk (fun t ht=>qC hw t ht)
theorem lb {c : UInt8} {r : adE} (h : c.toNat = 91 ∨ c.toNat = 63) : sg (c :: r) = c :: sg r:=by
 unfold sg
 rw [bo,if_pos h]
 have:=kM r
 rw [List.length_cons,show r.length + 1 - (bo r).length = (r.length - (bo r).length) + 1 by omega]
 rfl
theorem ju {c : UInt8} {r : adE} (h : ¬ (c.toNat = 91 ∨ c.toNat = 63)) : sg (c :: r) = []:=by
 unfold sg;rw [eV h];simp
theorem dx {b c : adE} : aG adD 133 [Ag [S [],S b,S c]] G (· = U8 (0 : Nat)):=by
 refine jE [(0,_)] Tryz.func133 Tryz.ntmps133 fun B hB=>?_
 repeat' (first | refine jR ?_ | (refine jo ?_;first | refine jO fun _=>?_ | refine al F ?_) | refine ab F F ?_)
 all_goals refine jY (vs:=[_]) ?_
 all_goals rfl
theorem hJ {x : UInt8} {a b c : adE} : aG adD 133 [Ag [S (x :: a),S b,S c]] G (· = U8 (x.toNat : Nat)):=by
 have e0:=mv x a
 refine jE [(0,_)] Tryz.func133 Tryz.ntmps133 fun B hB=>?_
 repeat' (first | refine jX ?_ | (refine jo ?_;first | refine jO fun _=>?_ | refine al F ?_) | refine ad F F ?_)
 all_goals refine jY (vs:=[_]) ?_
 all_goals (rw [aH];(rfl))
theorem pb {k : adE} (hk : bC k = true) (hr : bH (bo k) = none) : bs k = [110] ∨ bs k = [116] ∨ bs k = [102]:=by
 have h:=ki (cm hk).1
 unfold bs
 cases hc : bo k with
 | nil=>rw [hc] at h;cases h
 | cons c r =>
  rw [hc] at h hr
  have h64 : ¬ c.toNat = 64:=by
   intro h64
   simp [bH,h64] at hr
  have h91 : ¬ (c.toNat = 91 ∨ c.toNat = 63):=nu hc
  have e : oo (c :: r) = c :: r:=by simp [oo,h64]
  rw [e]
  rw [d9,if_neg h91,if_neg h64] at h
  simp only [Bool.and_eq_true,Bool.or_eq_true,decide_eq_true_eq] at h
  obtain ⟨rfl,h⟩:=h
  have hu : ∀ n : Nat,c.toNat = n → n < 256 → c = UInt8.ofNat n:=fun n h1 h2=>by
   apply UInt8.toNat_inj.1;rw [h1,UInt8.toNat_ofNat'];omega
  rcases h with (h | h) | h
  ·exact .inl (by rw [hu _ h dC];rfl)
  ·exact .inr (.inl (by rw [hu _ h dC];rfl))
  ·exact .inr (.inr (by rw [hu _ h dC];rfl))
theorem ScI.W {b : Nat} {qs : List cC} (_ : ScI G b qs) (hw : SchW (ah qs)) {q : cC} (hq : q ∈ qs) : q.2 ∈ ah qs ∧ TyW q.2:=by
 have h1 : q.2 ∈ ah qs:=List.mem_map_of_mem hq
 exact ⟨h1,hw.ty _ h1⟩
theorem sd {k : adE} (hs : sg k = []) (hk : bC k = true) (hr : bH (bo k) = none) : gh k = gh (bs k):=by
 match k,hk with
 | c :: r,hk =>
  have h91 : ¬ (c.toNat = 91 ∨ c.toNat = 63):=fun h=>by rw [lb h] at hs;cases hs
  have hc:=eV (r:=r) h91
  have h64 : ¬ c.toNat = 64:=fun h64=>by rw [hc] at hr;simp [bH,h64] at hr
  unfold bs;rw [hc];simp [oo,h64]
theorem wE {b : Nat} {qs : List cC} (h : ScI G b qs) (hw : SchW (ah qs)) : ∀ (n : Nat) {k : adE},n ≤ 1000 → aB (ah qs) k = true → (∀ t,aX (ah qs) k = some t → bR (ah qs) n t = true) →
  aG adD 201 [Pt b 0,Ag [S (sg k),S (bs k),S (nm k)]] G (· = S (cA (ah qs) (n + 1) k)):=by
 obtain ⟨u,m,g1,g2,g3⟩:=h.at'
 intro n
 induction n with
 | zero =>
  intro k hn hk he
  have hko:=cE hk
  match k,hko with
  | c :: r,hko =>
   by_cases h91 : c.toNat = 91 ∨ c.toNat = 63
   ·have cx_sign:=@hJ G c (sg r) (bs (c :: r)) (nm (c :: r))
    rw [lb h91]
    by_cases h1 : c.toNat = 91
    ·refine jE [(0,_),(1,_)] Tryz.func201 Tryz.ntmps201 fun B hB=>?_
     repeat' (first | refine jR ?_ | (refine jo ?_;first | refine jO fun _=>?_ | refine aQ F ?_ | refine ac F F F cx_sign F ?_) | refine ab F (aD oM) ?_)
     all_goals refine jY (vs:=[_]) ?_
     all_goals (rw [aH];unfold cA;rw [if_pos h1])
    have h2 : c.toNat = 63:=oM
    refine jE [(0,_),(1,_)] Tryz.func201 Tryz.ntmps201 fun B hB=>?_
    repeat' (first | refine jR ?_ | (refine jo ?_;first | refine jO fun _=>?_ | refine aQ F ?_ | refine ac F F F cx_sign F ?_) | refine ab F (aD oM) ?_ | refine ad F (aE oM) ?_)
    all_goals refine jY (vs:=[_]) ?_
    all_goals (rw [aH];unfold cA;rw [if_neg h1,if_pos h2])
   have hsg:=ju (r:=r) h91
   have hcs:=eV (r:=r) h91
   rw [hsg]
   cases hrf : aX (ah qs) (c :: r) with
   | some t=>have:=he t hrf;cases this
   | none =>
    have hrn : bH (bo (c :: r)) = none:=by
     cases hx : bH (bo (c :: r)) with
     | none=>rfl
     | some x =>
      obtain ⟨t,ht⟩:=m9 hk (by rw [hx];rfl)
      rw [hcs,hrf] at ht;cases ht
    have hpl:=sd hsg hko hrn
    have e3 : cA (ah qs) (0 + 1) (c :: r) = gh (bs (c :: r)):=by
     rw [cA,if_neg oM,if_neg oM,hrf];exact hpl
    rw [e3]
    rcases pb hko hrn with e | e | e
    all_goals
     rw [e]
     refine jE [(0,_),(1,_)] Tryz.func201 Tryz.ntmps201 fun B hB=>?_
     repeat' (first | refine jR ?_ | (refine jo ?_;first | refine jO fun _=>?_ | refine al F ?_ | refine aQ F ?_ | refine ac F F F dx F ?_) | refine ab F F ?_ | refine ad F F ?_)
     all_goals refine jY (vs:=[_]) ?_
     all_goals rfl
 | succ n ih =>
  intro k hn hk he
  have hko:=cE hk
  match k,hko with
  | c :: r,hko =>
   by_cases h91 : c.toNat = 91 ∨ c.toNat = 63
   ·have cx_sign:=@hJ G c (sg r) (bs (c :: r)) (nm (c :: r))
    rw [lb h91]
    by_cases h1 : c.toNat = 91
    ·refine jE [(0,_),(1,_)] Tryz.func201 Tryz.ntmps201 fun B hB=>?_
     repeat' (first | refine jR ?_ | (refine jo ?_;first | refine jO fun _=>?_ | refine aQ F ?_ | refine ac F F F cx_sign F ?_) | refine ab F (aD oM) ?_)
     all_goals refine jY (vs:=[_]) ?_
     all_goals (rw [aH];unfold cA;rw [if_pos h1])
    have h2 : c.toNat = 63:=oM
    refine jE [(0,_),(1,_)] Tryz.func201 Tryz.ntmps201 fun B hB=>?_
    repeat' (first | refine jR ?_ | (refine jo ?_;first | refine jO fun _=>?_ | refine aQ F ?_ | refine ac F F F cx_sign F ?_) | refine ab F (aD oM) ?_ | refine ad F (aE oM) ?_)
    all_goals refine jY (vs:=[_]) ?_
    all_goals (rw [aH];unfold cA;rw [if_neg h1,if_pos h2])
   have hsg:=ju (r:=r) h91
   have hcs:=eV (r:=r) h91
   rw [hsg]
   cases hrf : aX (ah qs) (c :: r) with
   | none =>
    have hrn : bH (bo (c :: r)) = none:=by
     cases hx : bH (bo (c :: r)) with
     | none=>rfl
     | some x =>
      obtain ⟨t,ht⟩:=m9 hk (by rw [hx];rfl)
      rw [hcs,hrf] at ht;cases ht
    have hpl:=sd hsg hko hrn
    have e3 : cA (ah qs) (n + 1 + 1) (c :: r) = gh (bs (c :: r)):=by
     rw [cA,if_neg oM,if_neg oM,hrf];exact hpl
    rw [e3]
    rcases pb hko hrn with e | e | e
    all_goals
     rw [e]
     refine jE [(0,_),(1,_)] Tryz.func201 Tryz.ntmps201 fun B hB=>?_
     repeat' (first | refine jR ?_ | (refine jo ?_;first | refine jO fun _=>?_ | refine al F ?_ | refine aQ F ?_ | refine ac F F F dx F ?_) | refine ab F F ?_ | refine ad F F ?_)
     all_goals refine jY (vs:=[_]) ?_
     all_goals rfl
   | some t =>
    have hrn : (bH (bo (c :: r))).isSome = true:=by
     rw [hcs];unfold aX at hrf
     cases hx : bH (c :: r) with
     | none=>rw [hx] at hrf;cases hrf
     | some x=>rfl
    have hbs : bs (c :: r) = [64]:=(jr hko).2 hrn
    have hnm : bH (c :: r) = some (nm (c :: r)):=by
     unfold nm;rw [hcs] at hrn ⊢
     cases hx : bH (c :: r) with
     | none=>rw [hx] at hrn;cases hrn
     | some x=>rfl
    have hft : gD (ah qs) (nm (c :: r)) = some t:=by unfold aX at hrf;rw [hnm] at hrf;exact hrf
    have hkv:=gN qs (nm (c :: r))
    rw [← gQ] at hft
    rcases hfq : eK qs (nm (c :: r)) with _ | ⟨p,t'⟩
    ·rw [hfq] at hft;cases hft
    rw [hfq] at hft hkv
    dsimp only [Option.map_some] at hft hkv
    have htt : t' = t:=Option.some.inj hft
    subst htt
    have hqm:=gZ hfq
    have htm:=bi hrf
    have hW:=hw.ty t' htm
    have htg:=hw.tag0 htm
    rw [j5] at htg
    obtain ⟨fv,ln,hsg2,hfv⟩:=h.ty _ hqm
    dsimp only at hsg2 hfv
    have e3 : cA (ah qs) (n + 1 + 1) (c :: r) = if t'.sort = 82 then [123,125] else if t'.sort = 69 then 35 :: a8 (tag0 t') else 60 :: (a8 (tag0 t') ++ 61 :: (cA (ah qs) (n + 1) (fV t') ++ [62])):=by
     rw [cA,if_neg oM,if_neg oM,hrf]
    rw [e3,j5,iZ,hbs]
    clear e3 hcs hsg hrn hnm hbs
    by_cases s1 : t'.sort = 82
    ·rw [if_pos s1]
     refine jE [(0,_),(1,_)] Tryz.func201 Tryz.ntmps201 fun B hB=>?_
     repeat' (first | refine jR ?_ | (refine jo ?_;first | refine jO fun _=>?_ | refine al F ?_ | refine aQ F ?_ | refine jV (an F F aS F F) ?_ | refine ac F F F dx F ?_) | refine ab F (aD oM) ?_ | refine ad F F ?_ | (refine ak (ar (id:=13) _ (fun _ h=>h) aj ?_);refine jT 4 [0,1,2,4] (aa 8 23) ?_;(refine jG (aa 8 31) 3 F (an F F aS F F) ?_);(refine jG (aa 8 63) 5 F (aC F F F) ?_);((refine jG (aa 8 127) 6 F (cg F F (d5 aS) aS F) ?_));refine jT 0 [7] (aa 8 255) ?_;refine jQ ?_))
     all_goals refine jY (vs:=[_]) ?_
     all_goals rfl
    have h0 : 0 < t'.fields.length:=List.length_pos_iff.2 (hW.ne s1)
    obtain ⟨bf,of,cf,rfl,hsf⟩:=hfv.expl h0
    have hdl:=nq (n:=(ae t'.fields 0).tag) oM
    rw [if_neg s1]
    by_cases s2 : t'.sort = 69
    ·rw [if_pos s2]
     refine jE [(0,_),(1,_)] Tryz.func201 Tryz.ntmps201 fun B hB=>?_
     repeat' (first | refine jX ?_ | (refine jo ?_;first | refine jO fun _=>?_ | refine al F ?_ | (refine jV (b7 F F aS ?_ F F) ?_;focus omega) | refine aQ F ?_ | refine jV (an F F aS F F) ?_ | refine jV (aq F F oM) ?_ | refine ac F F F dx F ?_ | (refine ac F F F (gu ?_) F ?_;(focus ((simp;omega);done)))) | refine ab F (aD oM) ?_ | (refine ad F (by first | rfl | (refine decide_eq_false ?_;(omega))) ?_) | (refine ak (ar (id:=13) _ (fun _ h=>h) aj ?_);refine jT 4 [0,1,2,4] (aa 8 23) ?_;(refine jG (aa 8 31) 3 F (an F F aS F F) ?_);(refine jG (aa 8 63) 5 F (aC F F F) ?_);((refine jG (aa 8 127) 6 F (cg F F (d5 aS) aS F) ?_));refine jT 0 [7] (aa 8 255) ?_;refine jQ ?_))
     all_goals refine jY (vs:=[_]) ?_
     all_goals rfl
    have hin:=dk hw htm s2 (bh h0)
    have hen : ∀ t2,aX (ah qs) (ae t'.fields 0).kind = some t2 → bR (ah qs) n t2 = true:=by
     intro t2 ht2
     have:=he t' hrf
     have s3 : t'.sort = 85:=by rcases hW.sort with h | h | h <;> omega
     rw [bR,if_neg (by simp [s3]),iZ,ht2] at this
     exact this
    have cx_std:=ih (k:=(ae t'.fields 0).kind) oM hin hen
    have hsl:=lF hw (n + 1) (ae t'.fields 0).kind
    rw [if_neg s2]
    refine jE [(0,_),(1,_)] Tryz.func201 Tryz.ntmps201 fun B hB=>?_
    repeat' (first | refine jR ?_ | (refine jo ?_;first | refine jO fun _=>?_ | refine al F ?_ | refine aQ F ?_ | refine jV (an F F aS F F) ?_ | refine ac F F F dx F ?_) | (refine ad F (by first | rfl | (refine decide_eq_false ?_;(omega))) ?_) | (refine ak (ar (id:=13) _ (fun _ h=>h) aj ?_);refine jT 4 [0,1,2,4] (aa 8 23) ?_;(refine jG (aa 8 31) 3 F (an F F aS F F) ?_);(refine jG (aa 8 63) 5 F (aC F F F) ?_);((refine jG (aa 8 127) 6 F (cg F F (d5 aS) aS F) ?_));refine jT 0 [7] (aa 8 255) ?_;refine jQ ?_) | (refine ak (ar (id:=19) _ (fun _ h=>h) aj ?_);refine jT 15 [0,1,2,10,11,12,13] (aa 22 15367) ?_;(refine jG (aa 22 15375) 3 F (an F F aS F F) ?_);(refine jG (aa 22 15391) 4 F (aq F F oM) ?_);refine jT 12 [5] (aa 22 15423) ?_;((refine jG (aa 22 15487) 6 F (b7 F F aS ?_ F F) ?_;focus omega));(refine jG (aa 22 31871) 14 F (an F F aS F F) ?_);(refine jG (aa 22 64639) 15 F (aq F F oM) ?_);refine jT 8 [16] (aa 22 130175) ?_;((refine jG (aa 22 261247) 17 F (f8 F F aS ?_ F F) ?_;focus omega));refine jA 7 F ?_;((refine ac F F F (gu ?_) F ?_;(focus ((simp;omega);done))));refine jS (aa 22 261375) ?_;refine jW 4 [8,9] (aa 22 262143) ?_;refine jA 18 F ?_;(refine ac F F F cx_std F ?_);refine jS (aa 22 524287) ?_;refine jW 0 [19,20,21] (aa 22 4194303) ?_;refine jQ ?_))
    all_goals refine jY (vs:=[_]) ?_
    all_goals (rw [aH];simp)
theorem wG {b : Nat} {qs : List cC} (h : ScI G b qs) (hw : SchW (ah qs)) {k : adE} (hk : aB (ah qs) k = true) : aG adD 201 [Pt b 0,Ag [S (sg k),S (bs k),S (nm k)]] G (· = S (pi (ah qs) k)) :=
 wE h hw ((ah qs).length + 1) (by have:=hw.len;omega) hk (fun t ht=>qC hw t ht)
theorem um {α : Type} [Inhabited α] {p : α → Bool} : ∀ {l : List α} {i : Nat},i < l.length → (∀ k,k < i → p (ae l k) = false) → p (ae l i) = true → l.find? p = some (ae l i)
 | [],i,hi,_,_=>by simp at hi
 | a :: l,0,_,_,h=>by
  have h : p a = true:=h
  rw [List.find?_cons,h];rfl
 | a :: l,i + 1,hi,hno,h=>by
  have h0 : p a = false:=hno 0 oM
  rw [List.find?_cons,h0]
  exact um (l:=l) (i:=i) (by simpa using hi) (fun k hk=>hno (k + 1) oM) h
theorem zy {α : Type} [Inhabited α] {p : α → Bool} {l : List α} (hno : ∀ k,k < l.length → p (ae l k) = false) : l.find? p = none:=by
 rw [List.find?_eq_none]
 intro x hx
 obtain ⟨i,hi,rfl⟩:=List.mem_iff_getElem.1 hx
 have:=hno i hi
 rw [aI hi] at this
 simp [this]
theorem ul {fs : List Fld} {tag : Int} {i : Nat} (hi : i < fs.length) (hno : ∀ k,k < i → (ae fs k).tag ≠ tag) (h : (ae fs i).tag = tag) : bB fs tag = some (ae fs i) :=
 um hi (fun k hk=>by simpa using hno k hk) (by simpa using h)
theorem zw {fs : List Fld} {tag : Int} (hno : ∀ k,k < fs.length → (ae fs k).tag ≠ tag) : bB fs tag = none:=zy fun k hk=>by simpa using hno k hk
theorem eE {fs : List Fld} {tag : Int} {f : Fld} (h : bB fs tag = some f) : ∃ i,i < fs.length ∧ (∀ k,k < i → (ae fs k).tag ≠ tag) ∧ (ae fs i).tag = tag ∧ ae fs i = f:=by
 have hex : ∃ i,i < fs.length ∧ (ae fs i).tag = tag:=by
  have hm:=List.mem_of_find?_eq_some h
  have ht:=List.find?_some h
  obtain ⟨i,hi,rfl⟩:=List.mem_iff_getElem.1 hm
  exact ⟨i,hi,by rw [aI hi];simpa using ht⟩
 obtain ⟨i,hi,ht⟩:=hex
 induction i using Nat.strongRecOn with
 | _ i ih =>
  by_cases hc : ∃ k,k < i ∧ (ae fs k).tag = tag
  ·obtain ⟨k,hk,hkt⟩:=hc
   exact ih k hk oM hkt
  ·have hno : ∀ k,k < i → (ae fs k).tag ≠ tag:=fun k hk e=>hc ⟨k,hk,e⟩
   refine ⟨i,hi,hno,ht,?_⟩
   rw [ul hi hno ht] at h
   exact Option.some.inj h
abbrev zF : Fld:=⟨0,[],[],[]⟩
abbrev ab7 : TypeId:=150
abbrev adi : TypeId:=146
theorem gS {x : bU} {tag : Int} (hf : bq G (fY x) 4 x.2.fields.length (ax gP x.2.fields)) (hl : x.2.fields.length ≤ 1000) :
  aG adD 161 [Ag [U8 x.2.sort,S x.2.name,fY x],I tag] G (· = Tu [Ag (gP ((bB x.2.fields tag).getD zF)),Bo (bB x.2.fields tag).isSome]):=by
 obtain ⟨⟨a,ca⟩,t⟩:=x
 simp only [fY] at hf ⊢
 dsimp only at hl
 refine jE [(0,_),(1,_)] Tryz.func161 Tryz.ntmps161 fun B hB=>?_
 repeat' (first | refine jR ?_ | (refine jo ?_;first | refine jO fun _=>?_ | refine jL fun _=>?_))
 rename_i y z
 refine aU (ι:=Nat) (fun i=>i ≤ t.fields.length ∧ ∀ k,k < i → (ae t.fields k).tag ≠ tag) (fun i=>[(1,I tag),(2,Pt y 0),(4,Pt z 0),(6,I i)]) (fun _=>G) (fun i=>[.blk z (.cells [I 0,S [],S [],S []].toArray ab7 (0,0)),.blk y (.cells [U8 t.sort,S t.name,.slice a t.fields.length ca].toArray adi (0,0))]) (fun i=>t.fields.length - i) 0 ?_ tU F aZ (fun i Hi=>?_)
 ·exact ⟨Nat.zero_le _,fun k hk=>absurd hk oM⟩
 by_cases hi : i < t.fields.length
 ·obtain ⟨bf,of,cf,e,hs⟩:=hf.expl oM
  simp only [Value.slice.injEq] at e
  obtain ⟨rfl,-,rfl⟩:=e
  repeat' (first | refine jM ?_ | (refine jo ?_;first | refine al F ?_ | (refine jV (dH F F aS ?_) ?_;focus omega) | (refine jV (b7 F F aS ?_ F F) ?_;focus omega) | refine jV (ag F) ?_ | refine jV (aq F F oM) ?_ | refine jC F F F ?_) | refine ab F (aD oM) ?_ | refine dJ F (fun _=>?_) (fun _=>?_))
  ·rename_i he
   refine jZ (vs:=[_,_]) F ⟨ay F F F F,F,trivial⟩ F ⟨F,F,?_⟩
   rw [ul hi Hi.2 he];rfl
  ·rename_i he
   refine a7 (i + 1) ⟨oM,fun k hk=>?_⟩ oM tU F aZ
   rcases Nat.lt_or_ge k i with h3 | h3
   ·exact Hi.2 k h3
   ·have : k = i:=oM
    subst this;exact he
 ·repeat' (first | refine jR ?_ | (refine jo ?_;first | refine al F ?_ | refine jV (ag F) ?_ | refine jC F F F ?_ | refine jV (ao F F) ?_) | refine ad F (aE oM) ?_)
  refine jZ (vs:=[_,_]) F ⟨ay F F F F,F,trivial⟩ F ⟨F,F,?_⟩
  rw [zw fun k hk=>Hi.2 k oM];rfl
theorem ee {b : Nat} {t : Ty} {fv : Value} {ln : adE} {tag : Int} (hs : cH G b 0 [U8 t.sort,S t.name,fv,S ln]) (hf : bq G fv 6 t.fields.length (ax jh t.fields)) (hl : t.fields.length ≤ 1000) (h : bB t.fields tag = none) :
  aG adD 137 [Pt b 0,I tag] G (· = .pointer none):=by
 have hno : ∀ k,k < t.fields.length → (ae t.fields k).tag ≠ tag:=fun k hk e=>by
  have h1:=List.find?_eq_none.1 h (ae t.fields k) (bh hk)
  exact h1 (by simpa using e)
 refine jE [(0,_),(1,_)] Tryz.func137 Tryz.ntmps137 fun B hB=>?_
 repeat' (first | refine jR ?_ | (refine jo ?_;first | refine jV (an F F aS F F) ?_ | refine jV (f6 F aS) ?_))
 refine aU (ι:=Nat) (fun i=>i ≤ t.fields.length) (fun i=>[(0,Pt b 0),(1,I tag),(10,I t.fields.length),(11,I i)]) (fun _=>G) (fun i=>[]) (fun i=>t.fields.length - i) 0 ?_ tU F aZ (fun i Hi=>?_)
 ·exact Nat.zero_le _
 by_cases hi : i < t.fields.length
 ·obtain ⟨bf,of,cf,rfl,hsf⟩:=hf.expl oM
  have h2:=hno i hi
  repeat' (first | refine jM ?_ | (refine jo ?_;first | (refine jV (b7 F F aS ?_ F F) ?_;focus omega) | refine jV (an F F aS F F) ?_ | refine jV (aq F F oM) ?_) | refine ab F (aD oM) ?_ | refine ad F (aE ‹_›) ?_)
  exact a7 (i + 1) oM oM tU F aZ
 ·repeat' (first | refine jR ?_ | refine ad F (aE oM) ?_)
  refine jY (vs:=[_]) ?_
  rfl
theorem eY {b bf of cf j : Nat} {t : Ty} {ln : adE} {tag : Int} (hs : cH G b 0 [U8 t.sort,S t.name,.slice (some ⟨bf,of,none⟩) t.fields.length cf,S ln]) (hsf : cH G bf of (ax jh t.fields)) (hl : t.fields.length ≤ 1000) (hj : j < t.fields.length) (hno : ∀ k,k < j → (ae t.fields k).tag ≠ tag) (hat : (ae t.fields j).tag = tag) :
  aG adD 137 [Pt b 0,I tag] G (· = Pt bf (of + j * 6)):=by
 refine jE [(0,_),(1,_)] Tryz.func137 Tryz.ntmps137 fun B hB=>?_
 repeat' (first | refine jR ?_ | (refine jo ?_;first | refine jV (an F F aS F F) ?_ | refine jV (ag F) ?_))
 refine aU (ι:=Nat) (fun i=>i ≤ j) (fun i=>[(0,Pt b 0),(1,I tag),(10,I t.fields.length),(11,I i)]) (fun _=>G) (fun i=>[]) (fun i=>t.fields.length - i) 0 ?_ tU F aZ (fun i Hi=>?_)
 ·exact Nat.zero_le _
 by_cases hij : i = j
 ·subst hij
  repeat' (first | refine jR ?_ | (refine jo ?_;first | (refine jV (b7 F F aS ?_ F F) ?_;focus omega) | refine jV (an F F aS F F) ?_ | refine jV (aq F F oM) ?_) | (refine ab F (by refine decide_eq_true ?_;first | assumption | omega) ?_))
  all_goals refine jY (vs:=[_]) ?_
  all_goals rfl
 ·have h2:=hno i oM
  repeat' (first | refine jM ?_ | (refine jo ?_;first | (refine jV (b7 F F aS ?_ F F) ?_;focus omega) | refine jV (an F F aS F F) ?_ | refine jV (aq F F oM) ?_) | refine ab F (aD oM) ?_ | refine ad F (aE ‹_›) ?_)
  exact a7 (i + 1) oM oM tU F aZ
theorem me {u : Value} {vs : List bU} {f : Fld} (h : SchR G u vs) (hw : SchW (af vs)) (hk : aB (af vs) f.kind = true) :
  aG adD 125 [u,Ag [I f.tag,S f.name,S f.kind,S f.stand]] G (· = S (bK (af vs) f)):=by
 have cx_std:=wF h hw hk
 unfold bK
 by_cases hs : f.stand = []
 ·rw [if_pos hs,hs]
  refine jE [(0,_),(1,_)] Tryz.func125 Tryz.ntmps125 fun B hB=>?_
  repeat' (first | refine jR ?_ | (refine jo ?_;first | refine jO fun _=>?_ | refine al F ?_ | refine ac F F F cx_std F ?_) | refine ad F F ?_)
  all_goals refine jY (vs:=[_]) ?_
  all_goals rfl
 ·rw [if_neg hs]
  refine jE [(0,_),(1,_)] Tryz.func125 Tryz.ntmps125 fun B hB=>?_
  repeat' (first | refine jR ?_ | (refine jo ?_;first | refine jO fun _=>?_ | refine al F ?_) | refine ab F (aD ‹_›) ?_)
  all_goals refine jY (vs:=[_]) ?_
  all_goals rfl
theorem vA {b bf of j : Nat} {qs : List cC} {fs : List Fld} (h : ScI G b qs) (hw : SchW (ah qs)) (hsf : cH G bf of (ax jh fs)) (hj : j < fs.length) (hk : aB (ah qs) (ae fs j).kind = true) :
  aG adD 172 [Pt b 0,Pt bf (of + j * 6)] G (· = S (bK (ah qs) (ae fs j))):=by
 have cx_std:=wG h hw hk
 unfold bK
 by_cases hs : (ae fs j).stand = []
 ·rw [if_pos hs]
  have hs2 : ¬ (ae fs j).stand ≠ []:=fun h=>h hs
  refine jE [(0,_),(1,_)] Tryz.func172 Tryz.ntmps172 fun B hB=>?_
  repeat' (first | refine jR ?_ | (refine jo ?_;first | (refine jV (b7 F F aS ?_ F F) ?_;focus omega) | (refine jV (f8 F F aS ?_ F F) ?_;focus omega) | refine ac F F F cx_std F ?_) | refine ad F (aE ‹_›) ?_)
  all_goals refine jY (vs:=[_]) ?_
  all_goals rfl
 ·rw [if_neg hs]
  refine jE [(0,_),(1,_)] Tryz.func172 Tryz.ntmps172 fun B hB=>?_
  repeat' (first | refine jR ?_ | (refine jo ?_;(refine jV (b7 F F aS ?_ F F) ?_;focus omega)) | refine ab F (aD ‹_›) ?_)
  all_goals refine jY (vs:=[_]) ?_
  all_goals rfl
abbrev dI : TypeId:=76
abbrev aaq : TypeId:=9
theorem br {w : Nat} {x : adE} {t : Int} {ks : List V} : V.tot (.nd w x t ks) = 20 + x.length + V.tots ks:=by rw [V.tot]
theorem lq : ∀ (n : Nat) {v : V} {c : VC},v.tot ≤ n → v.tot ≤ 1000000 → V.rep G v c → aG adD 52 [Ag (bG c)] G (· = S v.out):=by
 intro n
 induction n with
 | zero=>intro v c h1 _ _;have:=iw v;omega
 | succ n ih =>
  intro v c h1 h2 h
  obtain ⟨w,x,t,ks⟩:=v
  rw [br] at h1 h2
  obtain ⟨a,k,cs,rfl,hw,ht,h61,hcl,hsl,hks⟩:=fL h
  have hkl:=dq ks
  have hol:=ka ks
  have hjl:=oK hks
  have hj2:=f4 44 (V.outs ks)
  rw [hol] at hj2
  simp only [bG,VC.sl]
  refine jB (Post:=fun v G' L'=>G' = G ∧ L' = [] ∧ _) [(0,_)] Tryz.func52 Tryz.ntmps52 fun B hok hB hW=>?_
  repeat' (first | refine jR ?_ | (refine jo ?_;first | refine jO fun _=>?_ | refine al F ?_ | refine jV (ag F) ?_))
  rename_i bv
  refine Nx.addNil aaq 1 ?_
  refine aU (ι:=Nat × Value) (fun q=>q.1 ≤ ks.length) (fun q=>[(1,Pt bv 0),(2,S []),(3,q.2),(8,.slice a ks.length k),(9,I ks.length),(10,I q.1)]) (fun _=>G) (fun q=>[.acc q.2 aaq 1 q.1 (ax bY ((V.outs ks).take q.1)),.blk bv (.cells (List.toArray [U8 w,S x,I t,.slice a ks.length k]) dI (0,0))]) (fun q=>ks.length - q.1) (0,aN) ?_ tU F aZ (fun q Hq=>?_)
  ·exact Nat.zero_le _
  obtain ⟨i,pv⟩:=q
  dsimp only at Hq ⊢
  by_cases hi : i < ks.length
  ·have hti:=eM hi
   have cx_pr:=ih oM oM (gJ hks i hi)
   obtain ⟨bf,of,cf,e,hs⟩:=hsl.expl oM
   simp only [Value.slice.injEq] at e
   obtain ⟨rfl,-,rfl⟩:=e
   repeat' (first | refine jM ?_ | (refine jo ?_;first | (refine jV (dH F F aS ?_) ?_;focus omega) | refine aQ F ?_ | refine jV (aq F F oM) ?_ | refine jL fun _=>?_ | refine jC F F F ?_ | refine jF fun _=>?_ | refine ci F F F F F F F F F oM fun _ _=>?_ | refine ac F F F cx_pr F ?_) | refine ab F (aD oM) ?_)
   have e2 : ax bY ((V.outs ks).take i) ++ [S (ae ks i).out] = ax bY ((V.outs ks).take (i + 1)):=by rw [cr oM,b5,lP hi];rfl
   rw [e2]
   exact a7 (i + 1,_) (by dsimp only;omega) (by dsimp only;omega) tU rfl sB
  ·have hin : i = ks.length:=oM
   subst hin
   refine Nx.sealA .here fun G1 hG1 hsP=>?_
   rw [← hol,List.take_length] at hsP
   have cx_join:=abU (c:=44) hsP oM
   have hd:=gq ht.2
   have hE : ks.isEmpty = decide (ks.length = 0):=by cases ks <;> simp
   repeat' (first | refine jX ?_ | (refine jo ?_;first | refine al F ?_ | refine jV (ag F) ?_ | refine ac F F F cx_join F ?_ | refine ac F F F (gu oM) F ?_) | refine ad F (aE oM) ?_ | refine dJ F (fun _=>?_) (fun _=>?_))
   all_goals refine Nx.base hok hB ?_
   all_goals refine jY (vs:=[_]) ?_
   all_goals (rw [aH,V.out,hE];unfold cO;simp only [decide_eq_true_eq];repeat (first | rw [if_pos oM] | rw [if_neg oM]))
   all_goals (first | rfl | (simp;done))
theorem wx {x : adE} {t : Int} {u : V} : V.deep (.nd 61 x t [u]) = u.deep:=by rw [V.deep,if_pos rfl,V.deeps,V.deeps,Nat.max_zero]
theorem pS (v : V) : ∀ (ks : List V),V.deeps (ks ++ [v]) = max (V.deeps ks) v.deep
 | []=>by simp [V.deeps]
 | u :: r=>by simp only [List.cons_append,V.deeps,pS v r];omega
mutual
theorem oV : ∀ v : V,v.deep ≤ v.tot
 | .nd w x t ks=>by
  have:=np ks
  rw [V.deep,V.tot];split <;> omega
theorem np : ∀ ks : List V,V.deeps ks ≤ V.tots ks
 | []=>by simp [V.deeps]
 | v :: r=>by
  have:=oV v
  have:=np r
  rw [V.deeps,V.tots];omega
end
theorem wS : ∀ (n : Nat) {v : V} {c : VC},v.tot ≤ n → v.tot ≤ 1000000 → V.rep G v c → aG adD 140 [Ag (bG c)] G (· = I (v.deep : Nat)):=by
 intro n
 induction n with
 | zero=>intro v c h1 _ _;have:=iw v;omega
 | succ n ih =>
  intro v c h1 h2 h
  obtain ⟨w,x,t,ks⟩:=v
  rw [br] at h1 h2
  obtain ⟨a,k,cs,rfl,hw,ht,h61,hcl,hsl,hks⟩:=fL h
  have hkl:=dq ks
  simp only [bG,VC.sl]
  by_cases hq : w = 61
  ·have hk1:=h61 hq
   have hti:=eM (ks:=ks) (i:=0) oM
   have cx_dp:=ih oM oM (gJ hks 0 oM)
   obtain ⟨bf,of,cf,e,hs⟩:=hsl.expl oM
   simp only [Value.slice.injEq] at e
   obtain ⟨rfl,-,rfl⟩:=e
   refine jE [(0,_)] Tryz.func140 Tryz.ntmps140 fun B hB=>?_
   repeat' (first | refine jR ?_ | (refine jo ?_;first | refine jO fun _=>?_ | refine al F ?_ | (refine jV (dH F F aS ?_) ?_;focus omega) | refine jV (aT F F oM) ?_ | refine ac F F F cx_dp F ?_) | refine ab F (aD oM) ?_)
   refine jY (vs:=[_]) ?_
   rw [aH]
   obtain ⟨u,rfl⟩:=List.length_eq_one_iff.1 hk1
   subst hq
   rw [wx];rfl
  ·rw [cy hq]
   refine jE [(0,_)] Tryz.func140 Tryz.ntmps140 fun B hB=>?_
   repeat' (first | refine jR ?_ | (refine jo ?_;first | refine jO fun _=>?_ | refine al F ?_ | refine jV (ag F) ?_) | refine ad F (aE oM) ?_)
   rename_i bv
   refine Nx.re (d:=3) (v':=I (V.deeps (ks.take 0) : Nat)) F F ?_
   refine aU (ι:=Nat) (fun i=>i ≤ ks.length) (fun i=>[(3,I (V.deeps (ks.take i) : Nat)),(15,.slice a ks.length k),(16,I ks.length),(17,I i)]) (fun _=>G) (fun i=>[]) (fun i=>ks.length - i) 0 ?_ tU F (by repeat (exact List.nil_sublist _)) (fun i Hi=>?_)
   ·exact Nat.zero_le _
   by_cases hi : i < ks.length
   ·have hti:=eM hi
    have cx_dp:=ih oM oM (gJ hks i hi)
    obtain ⟨bf,of,cf,e,hs⟩:=hsl.expl oM
    simp only [Value.slice.injEq] at e
    obtain ⟨rfl,-,rfl⟩:=e
    repeat' (first | refine jM ?_ | (refine jo ?_;first | (refine jV (dH F F aS ?_) ?_;focus omega) | refine aQ F ?_ | refine jV (aq F F oM) ?_ | refine jL fun _=>?_ | refine jC F F F ?_ | refine jV (acr F F) ?_ | refine ac F F F cx_dp F ?_) | refine ab F (aD oM) ?_)
    refine Nx.re (d:=3) (v':=I (V.deeps (ks.take (i + 1)) : Nat)) F (congrArg (Value.int .i64) (by rw [cr hi,pS];omega)) ?_
    exact a7 (i + 1) oM oM tU F (by repeat (exact List.nil_sublist _))
   ·have hin : i = ks.length:=oM
    subst hin
    rw [List.take_length]
    have hdt:=np ks
    repeat' (first | refine jM ?_ | refine ad F (aE oM) ?_)
    refine jY (vs:=[_]) ?_
    rw [aH];congr 1
theorem eO : ∀ (ks : List V) (i : Nat),V.tots (ks.take i) ≤ V.tots ks
 | [],i=>by simp
 | u :: r,0=>by simp [V.tots]
 | u :: r,i + 1=>by have:=eO r i;simp only [List.take_succ_cons,V.tots];omega
abbrev adk : TypeId:=187
theorem tz {s p : adE} (hs : s.length ≤ 1000000 ∧ p.length ≤ 1000000) : aG adD 216 [S s,S p] G (· = Tu [S (if p.isPrefixOf s = true then s.drop p.length else s),Bo (p.isPrefixOf s)]):=by
 have cx_hp : aG adD 170 [S s,S p] G (· = Bo (p.isPrefixOf s)):=iq
 cases hp : p.isPrefixOf s with
 | false =>
  rw [hp] at cx_hp
  refine jE [(0,_),(1,_)] Tryz.func216 Tryz.ntmps216 fun B hB=>?_
  repeat' (first | refine jR ?_ | (refine jo ?_;refine ac F F F iq F ?_) | (refine ab F ?_ ?_;(focus ((simp [*];done);done))))
  refine jY (vs:=[_,_]) ?_
  rfl
 | true =>
  rw [hp] at cx_hp
  have hl : p.length ≤ s.length:=by
   have:=List.isPrefixOf_iff_prefix.1 hp
   exact this.length_le
  refine jE [(0,_),(1,_)] Tryz.func216 Tryz.ntmps216 fun B hB=>?_
  repeat' (first | refine jM ?_ | (refine jo ?_;refine ac F F F iq F ?_) | (refine ad F ?_ ?_;(focus ((simp [*];done);done))))
  refine jY (vs:=[_,_]) ?_
  rfl
theorem tT {s p : adE} (hs : s.length ≤ 1000000 ∧ p.length ≤ 1000000) : aG adD 204 [S s,S p] G (· = Tu [S (if p.isPrefixOf s = true then s.drop p.length else s),Bo (p.isPrefixOf s)]):=by
 have cx_cp:=tz (G:=G) hs
 refine jE [(0,_),(1,_)] Tryz.func204 Tryz.ntmps204 fun B hB=>?_
 repeat' (first | refine jR ?_ | (refine jo ?_;refine ac F F F cx_cp F ?_))
 refine jY (vs:=[_,_]) ?_
 rfl
def cV (l s : adE) (b : Bool) : Bool:=!b && l.isPrefixOf s
def d7 (l s : adE) (b : Bool) : adE:=if cV l s b = true then s.drop l.length else s
abbrev eh (r sc : Nat) (s : adE) (b : Bool) : Own:=.blk r (.cells (List.toArray [Pt sc 0,S s,Bo b]) adk (0,0))
theorem im {r sc : Nat} {s l : adE} {b : Bool} (hs : s.length ≤ 1000000 ∧ l.length ≤ 1000000) : cM adD 176 [Pt r 0,S l] G [eh r sc s b] (fun v L'=>v = Bo (cV l s b) ∧ L' = [eh r sc (d7 l s b) b]):=by
 have cx_cp:=tT (G:=G) hs
 unfold d7 cV
 cases hp : l.isPrefixOf s with
 | false =>
  rw [hp] at cx_cp
  refine jH [(0,_),(1,_)] Tryz.func176 Tryz.ntmps176 fun B hB hW=>?_
  repeat' (first | refine jR ?_ | (refine jo ?_;first | refine al F ?_ | refine aw F ?_ | refine ac F F F cx_cp F ?_) | refine am F F F ?_ | refine ad F F ?_)
  exact aR (vs:=[_]) F ⟨F,trivial⟩ F (List.Sublist.refl _) ⟨F,by cases b <;> rfl,by cases b <;> rfl⟩
 | true =>
  rw [hp] at cx_cp
  cases b with
  | true =>
   refine jH [(0,_),(1,_)] Tryz.func176 Tryz.ntmps176 fun B hB hW=>?_
   repeat' (first | refine jR ?_ | (refine jo ?_;first | refine al F ?_ | refine aK F ?_ | refine ac F F F cx_cp F ?_) | refine aA F F F ?_ | refine ad F F ?_)
   exact aR (vs:=[_]) F ⟨F,trivial⟩ F (List.Sublist.refl _) ⟨F,F,F⟩
  | false =>
   refine jH [(0,_),(1,_)] Tryz.func176 Tryz.ntmps176 fun B hB hW=>?_
   repeat' (first | refine jR ?_ | (refine jo ?_;first | refine al F ?_ | refine aK F ?_ | refine jD F F F ?_ | refine ac F F F cx_cp F ?_) | refine aA F F F ?_ | refine ab F F ?_)
   exact aR (vs:=[_]) F ⟨F,trivial⟩ F (List.Sublist.refl _) ⟨F,F,F⟩
theorem dG {r sc : Nat} {s l : adE} {b : Bool} (hs : s.length ≤ 1000000 ∧ l.length ≤ 1000000) : cM adD 177 [Pt r 0,S l] G [eh r sc s b] (fun v L'=>L' = [eh r sc (d7 l s b) (!cV l s b)]):=by
 have cx_tk:=im (G:=G) (r:=r) (sc:=sc) (b:=b) hs
 cases ht : cV l s b with
 | false =>
  rw [ht] at cx_tk
  refine jH [(0,_),(1,_)] Tryz.func177 Tryz.ntmps177 fun B hB hW=>?_
  repeat' (first | refine jR ?_ | (refine jo ?_;first | refine jD F F F ?_ | (refine ai F F F cx_tk F ?_;rintro _ _ ⟨rfl,rfl⟩;dsimp only [zA,fA])) | refine ab F F ?_)
  exact oP (vs:=[]) F trivial F (List.Sublist.refl _) ⟨F,F⟩
 | true =>
  have hb : b = false:=by unfold cV at ht;cases b <;> simp_all
  subst hb
  rw [ht] at cx_tk
  refine jH [(0,_),(1,_)] Tryz.func177 Tryz.ntmps177 fun B hB hW=>?_
  repeat' (first | refine jR ?_ | (refine jo ?_;(refine ai F F F cx_tk F ?_;rintro _ _ ⟨rfl,rfl⟩;dsimp only [zA,fA])) | refine ad F F ?_)
  exact oP (vs:=[]) F trivial F (List.Sublist.refl _) ⟨F,F⟩
theorem lB {p : Nat → Bool} {q : UInt8 → Bool} (h : ∀ c : UInt8,p c.toNat = q c) : ∀ s : adE,dA p s = s.dropWhile q
 | []=>rfl
 | c :: r=>by
  rw [dA,h c,List.dropWhile_cons]
  cases q c with
  | true=>simp only [if_true];exact lB h r
  | false=>simp
theorem abl : ∀ c : UInt8,fq [48,49,50,51,52,53,54,55,56,57] c.toNat = bc c:=by
 intro c
 have : ∀ n : Nat,n < 256 → fq [48,49,50,51,52,53,54,55,56,57] n = decide (48 ≤ n ∧ n ≤ 57):=by decide +kernel
 exact this _ c.toNat_lt
def txB : adE:=[97,98,99,100,101,102,103,104,105,106,107,108,109,110,111,112,113,114,115,116,117,118,119,120,121,122,48,49,50,51,52,53,54,55,56,57,32]
def c9 (c : UInt8) : Bool:=decide (jf c.toNat)
theorem aao : ∀ c : UInt8,fq txB c.toNat = c9 c:=by
 intro c
 have : ∀ n : Nat,n < 256 → fq txB n = decide (jf n):=by decide +kernel
 exact this _ c.toNat_lt
theorem kw (q : UInt8 → Bool) (s : adE) : s.take (s.length - (s.dropWhile q).length) = s.takeWhile q:=by
 have h:=List.takeWhile_append_dropWhile (p:=q) (l:=s)
 have hl : (s.takeWhile q).length + (s.dropWhile q).length = s.length:=by
  have:=congrArg List.length h
  rwa [List.length_append] at this
 have e : s.length - (s.dropWhile q).length = (s.takeWhile q).length:=oM
 rw [e]
 have h2 : (s.takeWhile q ++ s.dropWhile q).take (s.takeWhile q).length = s.takeWhile q:=List.take_left
 rwa [h] at h2
theorem d6 (q : UInt8 → Bool) (s : adE) : (s.takeWhile q).length + (s.dropWhile q).length = s.length:=by
 have h:=List.takeWhile_append_dropWhile (p:=q) (l:=s)
 have:=congrArg List.length h
 rwa [List.length_append] at this
theorem qk (x : adE) : dc (39 :: (x ++ [39])) = true ↔ x.length ≤ 12 ∧ ∀ c ∈ x,c9 c = true:=by
 unfold dc
 rw [decide_eq_true_eq]
 unfold yF
 have e0 : bt (39 :: (x ++ [39])) 0 = 39:=a6 _ _
 have e1 : (39 :: (x ++ [39]) : adE).length = x.length + 2:=by simp
 have e2 : bt (39 :: (x ++ [39])) (x.length + 1) = 39:=by
  rw [dQ];simp [bt]
 have e3 : ∀ i,i < x.length → bt (39 :: (x ++ [39])) (i + 1) = bt x i:=fun i hi=>by
  rw [dQ];simp [bt,List.getD,List.getElem?_append_left hi]
 rw [e1,show x.length + 2 - 1 = x.length + 1 by omega]
 constructor
 ·rintro ⟨⟨_,h1⟩,_,_,h2⟩
  refine ⟨oM,fun c hc=>?_⟩
  obtain ⟨i,hi,rfl⟩:=List.mem_iff_getElem.1 hc
  have:=h2 (i + 1) oM
  rw [e3 i hi] at this
  have h3 : bt x i = (x[i]).toNat:=by simp [bt,List.getD,List.getElem?_eq_getElem hi]
  rw [h3] at this
  unfold c9
  rw [decide_eq_true_eq]
  rcases this with h | h
  ·omega
  ·exact h
 ·rintro ⟨h1,h2⟩
  refine ⟨⟨oM,oM⟩,e0,e2,fun i hi=>?_⟩
  cases i with
  | zero=>exact .inl F
  | succ i =>
   have hi' : i < x.length:=oM
   rw [e3 i hi']
   have h3 : bt x i = (x[i]).toNat:=by simp [bt,List.getD,List.getElem?_eq_getElem hi']
   rw [h3]
   have:=h2 _ (List.getElem_mem hi')
   unfold c9 at this
   rw [decide_eq_true_eq] at this
   exact .inr this
theorem aaO {c : UInt8} (h : c.toNat = 39) : c9 c = false:=by
 have : c = 39:=UInt8.toNat_inj.1 h
 subst this;decide
theorem v4 (s : adE) : dw s = match s with
  | []=>none
  | c :: r=>if c.toNat = 39 then (match r.dropWhile c9 with
   | []=>none
   | d :: t=>if d.toNat = 39 ∧ (r.takeWhile c9).length ≤ 12 then some (.nd 116 (r.takeWhile c9) 0 [],t) else none) else none:=by
 cases s with
 | nil=>rfl
 | cons c r =>
  unfold dw
  dsimp only
  by_cases hc : c.toNat = 39
  ·rw [if_pos hc,if_pos hc]
   have hcut : ∀ r : adE,aJ 39 r = match r.dropWhile c9 with
    | []=>(r,[],false)
    | d :: t=>if d.toNat = 39 then (r.takeWhile c9,t,true) else (r.takeWhile c9 ++ (aJ 39 (d :: t)).1,(aJ 39 (d :: t)).2):=by
    intro r
    induction r with
    | nil=>rfl
    | cons x r ih =>
     rw [List.dropWhile_cons,List.takeWhile_cons]
     by_cases hx : c9 x = true
     ·rw [if_pos hx,if_pos hx]
      have h39 : ¬ x.toNat = 39:=fun h=>by rw [aaO h] at hx;cases hx
      rw [aJ,if_neg h39,ih]
      cases hd : r.dropWhile c9 with
      | nil=>rfl
      | cons d t =>
       dsimp only
       split
       ·rfl
       ·rfl
     ·rw [if_neg hx,if_neg hx]
      dsimp only
      split
      ·rename_i h39;rw [aJ,if_pos h39]
      ·simp
   rw [hcut]
   cases hd : r.dropWhile c9 with
   | nil=>rfl
   | cons d t =>
    dsimp only
    by_cases h39 : d.toNat = 39
    ·rw [if_pos h39]
     dsimp only
     by_cases h12 : (r.takeWhile c9).length ≤ 12
     ·rw [if_pos ((qk _).2 ⟨h12,fun c hc=>List.all_eq_true.1 (List.all_takeWhile (l:=r) (p:=c9)) c hc⟩),if_pos ⟨h39,h12⟩]
     ·rw [if_neg (fun h=>h12 ((qk _).1 h).1),if_neg (fun h=>h12 h.2)]
    ·rw [if_neg h39,if_neg (fun h=>h39 h.1)]
     cases hcc : aJ 39 (d :: t) with
     | mk a b =>
      obtain ⟨b,f⟩:=b
      cases f with
      | false=>rfl
      | true =>
       dsimp only
       rw [if_neg]
       intro h
       have hall:=((qk _).1 h).2
       have hdx : c9 d = false:=by
        have:=List.head_dropWhile_not (p:=c9) (l:=r) (by rw [hd];simp)
        simpa [hd] using this
       have ha : d ∈ a:=by
        rw [aJ,if_neg h39] at hcc
        simp only [Prod.mk.injEq] at hcc
        rw [← hcc.1];simp
       have:=hall d (List.mem_append_right _ ha)
       rw [hdx] at this;cases this
  ·rw [if_neg hc,if_neg hc]
theorem mh {r sc : Nat} {s : adE} {b : Bool} {top : Int} (hs : s.length ≤ 1000000) : cM adD 178 [Pt r 0,I top] G [eh r sc s b]
  (fun v L'=>∃ n,v = I n ∧ (0 ≤ n ∧ n ≤ 999999) ∧ (∀ m,aM (s.takeWhile bc) top = some m → n = m) ∧ L' = [eh r sc (s.dropWhile bc) (b || (aM (s.takeWhile bc) top).isNone)]):=by
 have hwl:=d6 bc s
 have cx_tl : aG adD 129 [S s,S [48,49,50,51,52,53,54,55,56,57]] G (· = S (s.dropWhile bc)):=by
  rw [← lB abl]
  exact mq F kR F
 have e1 : s.take (((s.length : Nat) : Int) - (((s.dropWhile bc).length : Nat) : Int)).toNat = s.takeWhile bc:=by
  rw [← kw];congr 1;omega
 have cx_pnB:=iG (G:=G) (s:=s.takeWhile bc) (top:=top) oM
 rw [← e1] at cx_pnB
 cases hnum2 : (aM (s.takeWhile bc) top) with
 | none =>
  rw [← e1] at hnum2
  have hno : (!(aM (s.take (((s.length : Nat) : Int) - (((s.dropWhile bc).length : Nat) : Int)).toNat) top).isSome) = true:=by rw [hnum2];rfl
  refine jH [(0,_),(1,_)] Tryz.func178 Tryz.ntmps178 fun B hB hW=>?_
  repeat' (first | refine jR ?_ | (refine jo ?_;first | refine al F ?_ | refine jD F F F ?_ | refine ac F F F cx_tl F ?_) | refine ab F ‹_› ?_ | (refine ak (ar (id:=2) _ (fun _ h=>h) aj ?_);refine jT 11 [0,1,2,4,5,6,9,10,13] (aa 20 9847) ?_;(refine jG (aa 20 9855) 3 F (aC F F F) ?_);(refine jG (aa 20 9983) 7 F (aC F F F) ?_);refine jW 6 [8,11,12] (aa 20 16383) ?_;refine jA 14 F ?_;(refine dn F F F cx_pnB F ?_;rintro _ ⟨n,rfl,hnum,hn0,hn1⟩);refine jS (aa 20 32767) ?_;refine jT 0 [15,16,17,18,19] (aa 20 1048575) ?_;refine jQ ?_))
  exact aR (vs:=[_]) F ⟨F,trivial⟩ F (List.Sublist.refl _) ⟨F,_,F,⟨hn0,hn1⟩,fun m hm=>(by cases hm),by simp⟩
 | some m =>
  rw [← e1] at hnum2
  have hno : (!(aM (s.take (((s.length : Nat) : Int) - (((s.dropWhile bc).length : Nat) : Int)).toNat) top).isSome) = false:=by rw [hnum2];rfl
  refine jH [(0,_),(1,_)] Tryz.func178 Tryz.ntmps178 fun B hB hW=>?_
  repeat' (first | refine jR ?_ | (refine jo ?_;first | refine al F ?_ | refine jD F F F ?_ | refine ac F F F cx_tl F ?_) | refine ad F ‹_› ?_ | (refine ak (ar (id:=2) _ (fun _ h=>h) aj ?_);refine jT 11 [0,1,2,4,5,6,9,10,13] (aa 20 9847) ?_;(refine jG (aa 20 9855) 3 F (aC F F F) ?_);(refine jG (aa 20 9983) 7 F (aC F F F) ?_);refine jW 6 [8,11,12] (aa 20 16383) ?_;refine jA 14 F ?_;(refine dn F F F cx_pnB F ?_;rintro _ ⟨n,rfl,hnum,hn0,hn1⟩);refine jS (aa 20 32767) ?_;refine jT 0 [15,16,17,18,19] (aa 20 1048575) ?_;refine jQ ?_))
  exact aR (vs:=[_]) F ⟨F,trivial⟩ F (List.Sublist.refl _) ⟨F,_,F,⟨hn0,hn1⟩,fun m' hm=>hnum m' (by rw [hnum2];exact hm),by simp⟩
theorem j4 {l s : adE} {b : Bool} : (d7 l s b).length ≤ s.length:=by unfold d7;split <;> simp
theorem fH {c : UInt8} {s : adE} : cV [c] s false = true ↔ ∃ r,s = c :: r:=by
 cases s with
 | nil =>
  constructor
  ·intro h;simp [cV,List.isPrefixOf] at h
  ·rintro ⟨r,h⟩;cases h
 | cons d r =>
  constructor
  ·intro h
   have : c = d:=by simpa [cV,List.isPrefixOf] using h
   exact ⟨r,by rw [this]⟩
  ·rintro ⟨r',h⟩
   simp only [List.cons.injEq] at h
   simp [cV,List.isPrefixOf,h.1]
theorem gv {c : UInt8} {r : adE} : d7 [c] (c :: r) false = r:=by unfold d7;rw [if_pos (fH.2 ⟨r,rfl⟩)];rfl
theorem gU {l s : adE} : cV l s true = false:=by simp [cV]
theorem i9 {l s : adE} : d7 l s true = s:=by simp [d7,gU]
theorem gH {l s : adE} {b : Bool} (h : cV l s b = false) : d7 l s b = s:=by simp [d7,h]
def QuP (s : adE) (b : Bool) (x s' : adE) (b' : Bool) : Prop :=
 x.length + s'.length ≤ s.length ∧ (b' = false → b = false ∧ dw s = some (.nd 116 x 0 [],s')) ∧ (b' = true → b = true ∨ dw s = none)
theorem aaJ (s : adE) (b : Bool) : QuP s b ((d7 [39] s b).takeWhile c9) (d7 [39] ((d7 [39] s b).dropWhile c9) (!cV [39] s b)) (!cV [39] ((d7 [39] s b).dropWhile c9) (!cV [39] s b) || decide (12 < ((d7 [39] s b).takeWhile c9).length)):=by
 have hl : ((d7 [39] s b).takeWhile c9).length + (d7 [39] ((d7 [39] s b).dropWhile c9) (!cV [39] s b)).length ≤ s.length:=by
  have h1:=j4 (l:=[39]) (s:=s) (b:=b)
  have h2:=d6 c9 (d7 [39] s b)
  have h3:=j4 (l:=[39]) (s:=(d7 [39] s b).dropWhile c9) (b:=!cV [39] s b)
  omega
 refine ⟨hl,?_⟩
 rw [v4]
 cases b with
 | true=>rw [i9,gU];simp [gU]
 | false =>
  cases ht : cV [39] s false with
  | false =>
   simp only [Bool.not_false,gU,Bool.true_or]
   refine ⟨fun h=>(by cases h),fun _=>.inr ?_⟩
   cases s with
   | nil=>rfl
   | cons c r =>
    dsimp only
    rw [if_neg]
    intro hc
    have : cV [39] (c :: r) false = true:=fH.2 ⟨r,by rw [show c = 39 from UInt8.toNat_inj.1 hc]⟩
    rw [this] at ht;cases ht
  | true =>
   obtain ⟨r,rfl⟩:=fH.1 ht
   rw [gv]
   dsimp only
   rw [if_pos (show (39 : UInt8).toNat = 39 from rfl),Bool.not_true]
   cases ht2 : cV [39] (r.dropWhile c9) false with
   | false =>
    simp only [Bool.not_false,Bool.true_or]
    refine ⟨fun h=>(by cases h),fun _=>.inr ?_⟩
    cases hd : r.dropWhile c9 with
    | nil=>rfl
    | cons d t =>
     dsimp only
     rw [if_neg]
     rintro ⟨hc,_⟩
     have : cV [39] (r.dropWhile c9) false = true:=fH.2 ⟨t,by rw [hd,show d = 39 from UInt8.toNat_inj.1 hc]⟩
     rw [this] at ht2;cases ht2
   | true =>
    obtain ⟨t,hd⟩:=fH.1 ht2
    rw [hd,gv]
    dsimp only
    by_cases h12 : 12 < (r.takeWhile c9).length
    ·rw [decide_eq_true h12,if_neg (fun h=>by omega)]
     exact ⟨fun h=>(by cases h),fun _=>.inr F⟩
    ·rw [decide_eq_false h12,if_pos ⟨rfl,oM⟩]
     exact ⟨fun _=>⟨F,F⟩,fun h=>(by cases h)⟩
theorem zW {r sc : Nat} {s : adE} {b : Bool} (hs : s.length ≤ 1000000) : cM adD 179 [Pt r 0] G [eh r sc s b]
  (fun v L'=>∃ x s' b',v = S x ∧ QuP s b x s' b' ∧ L' = [eh r sc s' b']):=by
 have hq:=aaJ s b
 have h1:=j4 (l:=[39]) (s:=s) (b:=b)
 have h2:=d6 c9 (d7 [39] s b)
 have h3:=j4 (l:=[39]) (s:=(d7 [39] s b).dropWhile c9) (b:=!cV [39] s b)
 have cx_wa:=dG (G:=G) (r:=r) (sc:=sc) (s:=s) (l:=[39]) (b:=b) ⟨hs,by simp⟩
 have cx_wb:=dG (G:=G) (r:=r) (sc:=sc) (s:=(d7 [39] s b).dropWhile c9) (l:=[39]) (b:=!cV [39] s b) ⟨oM,by simp⟩
 have cx_tl : aG adD 129 [S (d7 [39] s b),S [97,98,99,100,101,102,103,104,105,106,107,108,109,110,111,112,113,114,115,116,117,118,119,120,121,122,48,49,50,51,52,53,54,55,56,57,32]] G (· = S ((d7 [39] s b).dropWhile c9)):=by
  rw [← lB aao]
  exact mq F kR F
 have e1 : (d7 [39] s b).take ((((d7 [39] s b).length : Nat) : Int) - ((((d7 [39] s b).dropWhile c9).length : Nat) : Int)).toNat = (d7 [39] s b).takeWhile c9:=by
  rw [← kw];congr 1;omega
 by_cases h12 : 12 < ((d7 [39] s b).takeWhile c9).length
 ·rw [decide_eq_true h12,Bool.or_true] at hq
  rw [← e1] at h12
  refine jH [(0,_)] Tryz.func179 Tryz.ntmps179 fun B hB hW=>?_
  repeat' (first | refine jR ?_ | (refine jo ?_;first | refine al F ?_ | refine jD F F F ?_ | (refine ai F F F cx_wa F ?_;rintro _ _ rfl;dsimp only [zA,fA]) | (refine ai F F F cx_wb F ?_;rintro _ _ rfl;dsimp only [zA,fA]) | refine ac F F F cx_tl F ?_) | refine ab F (aD oM) ?_ | (refine ak (ar (id:=3) _ (fun _ h=>h) aj ?_);refine jT 6 [0,1,2,4,5,6,9,10] (aa 14 1655) ?_;(refine jG (aa 14 1663) 3 F (aC F F F) ?_);(refine jG (aa 14 1791) 7 F (aC F F F) ?_);refine jW 0 [8,11,12,13] (aa 14 16383) ?_;refine jQ ?_))
  all_goals exact aR (vs:=[_]) F ⟨F,trivial⟩ F (List.Sublist.refl _) ⟨F,_,_,_,F,by rw [e1];exact hq,F⟩
 ·rw [decide_eq_false h12,Bool.or_false] at hq
  rw [← e1] at h12
  refine jH [(0,_)] Tryz.func179 Tryz.ntmps179 fun B hB hW=>?_
  repeat' (first | refine jR ?_ | (refine jo ?_;first | refine al F ?_ | refine jD F F F ?_ | (refine ai F F F cx_wa F ?_;rintro _ _ rfl;dsimp only [zA,fA]) | (refine ai F F F cx_wb F ?_;rintro _ _ rfl;dsimp only [zA,fA]) | refine ac F F F cx_tl F ?_) | refine ad F (aE oM) ?_ | (refine ak (ar (id:=3) _ (fun _ h=>h) aj ?_);refine jT 6 [0,1,2,4,5,6,9,10] (aa 14 1655) ?_;(refine jG (aa 14 1663) 3 F (aC F F F) ?_);(refine jG (aa 14 1791) 7 F (aC F F F) ?_);refine jW 0 [8,11,12,13] (aa 14 16383) ?_;refine jQ ?_))
  all_goals exact aR (vs:=[_]) F ⟨F,trivial⟩ F (List.Sublist.refl _) ⟨F,_,_,_,F,by rw [e1];exact hq,F⟩
def RdP (f : adE → Option (V × adE)) (s : adE) (b : Bool) (u : V) (s' : adE) (b' : Bool) : Prop :=
 s'.length ≤ s.length ∧ (b' = false → b = false ∧ f s = some (u,s')) ∧ (b' = true → (b = true ∨ f s = none) ∧ u.tot + 100 * s'.length ≤ 100 * s.length + 100)
def iJ (f : adE → Option (V × adE)) (r sc : Nat) (s : adE) (b : Bool) (v : Value) (G' : Gh) (L' : List Own) : Prop :=
 ∃ u c s' b',v = Ag (bG c) ∧ V.rep G' u c ∧ L' = [eh r sc s' b'] ∧ RdP f s b u s' b'
def nB (n sc : Nat) (qs : List cC) : Prop:=∀ (G : Gh) (r : Nat) (k s : adE) (b : Bool),ScI G sc qs → aB (ah qs) k = true → s.length < n → s.length ≤ 1000 →
 dD adD 144 [Pt r 0,Ag (c7 k)] G [eh r sc s b] (iJ (rd (ah qs) n k) r sc s b)
def fj (f : adE → Option (V × adE)) : adE → Option (V × adE)
 | []=>none
 | d :: s'=>if d.toNat = 91 then (match s' with
   | []=>none
   | e :: r=>if e.toNat = 93 then some (.nd 91 [] 0 [],r) else (bj f 20 s' []).map fun x=>(.nd 91 [] 0 x.1,x.2)) else none
theorem mV {f : adE → Option (V × adE)} (hf : ∀ s x,f s = some x → x.2.length < s.length) : ∀ (m M : Nat) (s : adE) (acc : List V),s.length < M →
  bj f m s acc = match bj f M s acc with
   | none=>none
   | some x=>if x.1.length ≤ acc.length + m then some x else none
 | 0,M,s,acc,hM=>by
  cases hr : bj f M s acc with
  | none=>rfl
  | some x =>
   have : acc.length + 1 ≤ x.1.length:=by
    clear hM
    induction M generalizing s acc with
    | zero=>cases hr
    | succ M ih =>
     unfold bj at hr
     cases hfs : f s with
     | none=>rw [hfs] at hr;cases hr
     | some y =>
      rw [hfs] at hr
      obtain ⟨v,r⟩:=y
      cases r with
      | nil=>cases hr
      | cons c r =>
       dsimp only at hr
       split at hr
       ·have:=ih _ _ hr;simp at this;omega
       ·split at hr
        ·simp only [Option.some.injEq] at hr;subst hr;simp
        ·cases hr
   dsimp only
   rw [if_neg oM];rfl
 | m + 1,0,s,acc,hM=>by omega
 | m + 1,M + 1,s,acc,hM=>by
  rw [bj,bj]
  cases hfs : f s with
  | none=>rfl
  | some y =>
   have hlt:=hf _ _ hfs
   obtain ⟨v,r⟩:=y
   cases r with
   | nil=>rfl
   | cons c r =>
    simp only [List.length_cons] at hlt
    dsimp only
    split
    ·rw [mV hf m M r (acc ++ [v]) oM]
     cases bj f M r (acc ++ [v]) with
     | none=>rfl
     | some x=>dsimp only;simp only [List.length_append,List.length_singleton];congr 1;simp;omega
    ·split
     ·dsimp only;rw [if_pos (by simp)]
     ·rfl
theorem jp {f : adE → Option (V × adE)} {t : adE} {vs : List V} : ∀ {m : Nat},(f t = none ∨ ∃ u,f t = some (u,[])) → bj f m t vs = none
 | 0,_=>rfl
 | m + 1,h=>by
  rw [bj]
  rcases h with h | ⟨u,h⟩ <;> rw [h]
theorem jn {f : adE → Option (V × adE)} {t t2 : adE} {c : UInt8} {u : V} {vs : List V} {m : Nat} (h : f t = some (u,c :: t2)) (hm : 0 < m) :
  bj f m t vs = if c.toNat = 44 then bj f (m - 1) t2 (vs ++ [u]) else if c.toNat = 93 then some (vs ++ [u],t2) else none:=by
 obtain ⟨m,rfl⟩ : ∃ k,m = k + 1:=⟨m - 1,oM⟩
 rw [bj,h];rfl
theorem iy {ts : List Ty} {n : Nat} {k s : adE} {x : V × adE} (h : rd ts n k s = some x) : x.2.length < s.length:=by
 have:=iW n k s x h
 have:=iw x.1
 omega
abbrev e9 : TypeId:=71
abbrev rm (b : Nat) (cs : List Value) : Own:=.blk b (.cells cs.toArray dI (0,0))
theorem abF {n r sc : Nat} {qs : List cC} {k s : adE} {b : Bool} (hV : nB n sc qs) (hS : ScI G sc qs) (hk : aB (ah qs) k = true) (hs : s.length ≤ n ∧ s.length ≤ 1000) :
  dD adD 175 [Pt r 0,Ag (c7 k)] G [eh r sc s b] (iJ (fj (rd (ah qs) n k)) r sc s b):=by
 have cx_wa:=dG (G:=G) (r:=r) (sc:=sc) (s:=s) (l:=[91]) (b:=b) ⟨oM,by simp⟩
 have cx_tk:=im (G:=G) (r:=r) (sc:=sc) (s:=d7 [91] s b) (l:=[93]) (b:=!cV [91] s b) ⟨by have:=j4 (l:=[91]) (s:=s) (b:=b);omega,by simp⟩
 simp only [c7]
 cases ht : cV [91] s b with
 | false =>
  rw [ht,gH ht] at cx_wa cx_tk
  rw [Bool.not_false,gU,i9] at cx_tk
  have cx_wb:=dG (G:=G) (r:=r) (sc:=sc) (s:=s) (l:=[93]) (b:=true) ⟨oM,by simp⟩
  rw [gU,i9] at cx_wb
  refine bT [(0,_),(1,_)] Tryz.func175 kR Tryz.ntmps175 F F tU fun B hB hW=>?_
  repeat' (first | refine jR ?_ | (refine jo ?_;first | refine jO fun _=>?_ | refine jL fun _=>?_ | refine jV (ao F F) ?_ | refine jC F F F ?_ | (refine ai F F F cx_wa F ?_;rintro _ _ rfl;dsimp only [zA,fA]) | (refine ai F F F cx_tk F ?_;rintro _ _ ⟨rfl,rfl⟩;dsimp only [zA,fA])) | refine ad F F ?_)
  rename_i x3 x4 x5 _
  refine aU (ι:=Unit) (fun i=>True) (fun i=>[(0,Pt r 0),(4,Pt x4 0),(5,Pt x5 0)]) (fun _=>G) (fun i=>[eh r sc s true,rm x5 [U8 91,S [],I 0,aN],rm x4 [U8 0,S [],I 0,aN]]) (fun i=>0) () ?_ tU F sB (fun i Hi=>?_)
  ·trivial
  repeat' (first | refine jR ?_ | (refine jo ?_;first | refine jC F F F ?_ | refine al F ?_ | refine aQ F ?_ | refine jV (ag F) ?_ | (refine ai F F F cx_wb F ?_;rintro _ _ rfl;dsimp only [zA,fA])) | refine ad F F ?_)
  refine aR (vs:=[_]) F ⟨ay F F F F,trivial⟩ F sB ⟨Gh.le.refl _,.nd 91 [] 0 [],⟨91,[],0,none,0,0⟩,s,true,F,bA dC dC,F,Nat.le_refl _,fun h=>(by cases h),fun _=>⟨?_,by simp only [V.tot,V.tots,List.length_nil];omega⟩⟩
  cases b with
  | true=>exact .inl F
  | false =>
   right
   cases s with
   | nil=>rfl
   | cons d r' =>
    unfold fj
    dsimp only
    rw [if_neg]
    intro h91
    have : cV [91] (d :: r') false = true:=fH.2 ⟨r',by rw [show d = 91 from UInt8.toNat_inj.1 h91]⟩
    rw [this] at ht;cases ht
 | true =>
  have hb : b = false:=by cases b with | true=>rw [gU] at ht;cases ht | false=>rfl
  subst hb
  obtain ⟨s1,rfl⟩:=fH.1 ht
  rw [ht,gv] at cx_wa cx_tk
  rw [Bool.not_true] at cx_wa cx_tk
  simp only [List.length_cons] at hs
  cases ht2 : cV [93] s1 false with
  | true =>
   obtain ⟨s2,rfl⟩:=fH.1 ht2
   rw [ht2,gv] at cx_tk
   refine bT [(0,_),(1,_)] Tryz.func175 kR Tryz.ntmps175 F F tU fun B hB hW=>?_
   repeat' (first | refine jR ?_ | (refine jo ?_;first | refine jO fun _=>?_ | refine jL fun _=>?_ | refine jV (ao F F) ?_ | refine jC F F F ?_ | refine aQ F ?_ | (refine ai F F F cx_wa F ?_;rintro _ _ rfl;dsimp only [zA,fA]) | (refine ai F F F cx_tk F ?_;rintro _ _ ⟨rfl,rfl⟩;dsimp only [zA,fA])) | refine ab F F ?_)
   refine aR (vs:=[_]) F ⟨ay F F F F,trivial⟩ F sB ⟨Gh.le.refl _,.nd 91 [] 0 [],⟨91,[],0,none,0,0⟩,s2,false,F,bA dC dC,F,by simp only [List.length_cons];omega,fun _=>⟨rfl,rfl⟩,fun h=>(by cases h)⟩
  | false =>
   rw [ht2,gH ht2] at cx_tk
   have hR : fj (rd (ah qs) n k) (91 :: s1) = (bj (rd (ah qs) n k) 20 s1 []).map fun x=>(.nd 91 [] 0 x.1,x.2):=by
    unfold fj
    dsimp only
    rw [if_pos (show (91 : UInt8).toNat = 91 from rfl)]
    cases s1 with
    | nil =>
     have : rd (ah qs) n k [] = none:=by
      cases h : rd (ah qs) n k [] with
      | none=>rfl
      | some x=>have:=iy h;simp at this
     simp [bj,this]
    | cons e r' =>
     dsimp only
     rw [if_neg]
     intro h93
     have : cV [93] (e :: r') false = true:=fH.2 ⟨r',by rw [show e = 93 from UInt8.toNat_inj.1 h93]⟩
     rw [this] at ht2;cases ht2
   have hmore:=mV (f:=rd (ah qs) n k) (fun s x h=>iy h) 20 (s1.length + 1) s1 [] oM
   refine bT [(0,_),(1,_)] Tryz.func175 kR Tryz.ntmps175 F F tU fun B hB hW=>?_
   repeat' (first | refine jR ?_ | (refine jo ?_;first | refine jO fun _=>?_ | refine jL fun _=>?_ | refine jV (ao F F) ?_ | refine jC F F F ?_ | (refine ai F F F cx_wa F ?_;rintro _ _ rfl;dsimp only [zA,fA]) | (refine ai F F F cx_tk F ?_;rintro _ _ ⟨rfl,rfl⟩;dsimp only [zA,fA])) | refine ad F F ?_)
   rename_i x3 x4 x5 _
   refine Nx.addNil dI 4 (Nx.perm (List.Perm.swap _ _ _) ?_)
   refine aU (ι:=List V × List VC × Option Addr × Nat × adE × Nat × Gh) (fun q=>(V.reps q.2.2.2.2.2.2 q.1 q.2.1 ∧ Gh.le G q.2.2.2.2.2.2) ∧ (bj (rd (ah qs) n k) (s1.length + 1) s1 [] = bj (rd (ah qs) n k) q.2.2.2.2.2.1 q.2.2.2.2.1 q.1 ∧ q.2.2.2.2.1.length < q.2.2.2.2.2.1) ∧ (V.tots q.1 + 100 * q.2.2.2.2.1.length + 100 ≤ 100 * (s1.length + 1) ∧ q.2.2.2.2.1.length ≤ s1.length)) (fun q=>[(0,Pt r 0),(3,Pt x3 0),(4,Pt x4 0),(5,Pt x5 0)]) (fun q=>q.2.2.2.2.2.2) (fun q=>[eh r sc q.2.2.2.2.1 false,.acc (.slice q.2.2.1 q.1.length q.2.2.2.1) dI 4 q.1.length (ax bG q.2.1),rm x5 [U8 91,S [],I 0,.slice q.2.2.1 q.1.length q.2.2.2.1],rm x4 [U8 0,S [],I 0,aN],.blk x3 (.cells (List.toArray [S (sg k),S (bs k),S (nm k)]) e9 (0,0))]) (fun q=>q.2.2.2.2.1.length) ([],[],none,0,s1,s1.length + 1,G) ?_ tU F aZ (fun q Hq=>?_)
   ·exact ⟨⟨F,Gh.le.refl _⟩,⟨F,by dsimp only;omega⟩,by dsimp only;simp only [V.tots];omega,Nat.le_refl _⟩
   obtain ⟨vs,cs,a,cap,t,m,Gq⟩:=q
   dsimp only at Hq ⊢
   obtain ⟨⟨hreps,hgq⟩,⟨hit,htm⟩,hT,htl⟩:=Hq
   have hcl:=ix hreps
   have hkl:=dq vs
   have cx_vl:=hV Gq r k t false (hS.mono hgq) hk oM oM
   repeat' (first | refine jR ?_ | (refine jo ?_;refine al F ?_) | refine ab F F ?_)
   (refine ak (ar (id:=6) [.blk x3 (.cells (List.toArray [S (sg k),S (bs k),S (nm k)]) e9 (0,0))] (by intro y hy;simp only [List.mem_cons,List.not_mem_nil,or_false] at hy ⊢;simp [hy]) aj ?_);refine jW 7 [0,2] (aa 9 5) ?_;(refine jG (aa 9 13) 3 F (bz F F F F) ?_);refine cX [1,4] kR dC ⟨?_,?_,trivial⟩;(focus (refine bE F F ?_;(refine al F ?_);refine jK (aa 9 15) ?_;refine jA 4 F ?_;(refine cY F F F cx_vl F ?_;rintro _ G1 _ hle ⟨u1,c1,t1,b1,rfl,hrep,rfl,hP⟩;dsimp only [zA,fA];skip);refine jK (aa 9 31) ?_;refine jA 5 F ?_;(refine jF fun _=>?_);refine jK (aa 9 63) ?_;refine jA 6 F ?_;((refine ci F F F F F F F F F ?_ fun _ _=>?_;focus omega));refine jK (aa 9 127) ?_;refine jW 1 [7] (aa 9 255) ?_;refine jA 8 F ?_;(refine jD F F F ?_);refine jK (aa 9 511) ?_;refine jQ ?_));rotate_left 1;(focus (refine bE F F ?_;(refine cY F F F cx_vl F ?_;rintro _ G1 _ hle ⟨u1,c1,t1,b1,rfl,hrep,rfl,hP⟩;dsimp only [zA,fA];skip);refine jK (aa 9 29) ?_;refine cX [1,5] kR dC ⟨?_,?_,trivial⟩;(focus (refine bE F F ?_;(refine al F ?_);refine jK (aa 9 31) ?_;refine jA 5 F ?_;(refine jF fun _=>?_);refine jK (aa 9 63) ?_;refine jA 6 F ?_;((refine ci F F F F F F F F F ?_ fun _ _=>?_;focus omega));refine jK (aa 9 127) ?_;refine jW 1 [7] (aa 9 255) ?_;refine jA 8 F ?_;(refine jD F F F ?_);refine jK (aa 9 511) ?_;refine jQ ?_));rotate_left 1;(focus (refine bE F F ?_;(refine jF fun _=>?_);refine jK (aa 9 61) ?_;refine jA 1 F ?_;(refine al F ?_);refine jK (aa 9 63) ?_;refine jA 6 F ?_;((refine ci F F F F F F F F F ?_ fun _ _=>?_;focus omega));refine jK (aa 9 127) ?_;refine jW 1 [7] (aa 9 255) ?_;refine jA 8 F ?_;(refine jD F F F ?_);refine jK (aa 9 511) ?_;refine jQ ?_));rotate_left 1));rotate_left 2)
   all_goals
    rename_i y1 yc
    have hrow : ax bG cs ++ [U8 (c1.what : Nat),S c1.text,I c1.tag,c1.sl] = ax bG (cs ++ [c1]):=(b5 bG cs c1).symm
    have hr2 : V.reps G1 (vs ++ [u1]) (cs ++ [c1]):=iV hrep (cd hle hreps)
    have hvl : (vs ++ [u1]).length = vs.length + 1:=by simp
    have htu : V.tots (vs ++ [u1]) = V.tots vs + u1.tot:=by simp [dW,V.tots]
    have hgl:=hgq.trans hle
    obtain ⟨hPl,hP0,hP1⟩:=hP
    rw [hrow]
    cases b1 with
    | true =>
     obtain ⟨hno,hto⟩:=hP1 rfl
     have hno : rd (ah qs) n k t = none:=by
      rcases hno with h | h
      ·cases h
      ·exact h
     have hit2 : bj (rd (ah qs) n k) m t vs = none:=jp (.inl hno)
     have cx_tm:=im (G:=G1) (r:=r) (sc:=sc) (s:=t1) (l:=[44]) (b:=true) ⟨oM,by simp⟩
     have cx_wb:=dG (G:=G1) (r:=r) (sc:=sc) (s:=t1) (l:=[93]) (b:=true) ⟨oM,by simp⟩
     rw [gU,i9] at cx_tm cx_wb
     repeat' (first | refine jR ?_ | (refine jo ?_;first | refine jD F F F ?_ | refine jC F F F ?_ | refine al F ?_ | refine aQ F ?_ | refine jV (ag F) ?_ | (refine ai F F F cx_wb F ?_;rintro _ _ rfl;dsimp only [zA,fA]) | (refine ai F F F cx_tm F ?_;rintro _ _ ⟨rfl,rfl⟩;dsimp only [zA,fA])) | refine ab F F ?_ | refine dJ F (fun _=>?_) (fun _=>?_))
     all_goals (refine Nx.sealS (v:=.slice (some ⟨y1,0,none⟩) (vs.length + 1) yc) fun G2 hG2 hsl=>?_)
     all_goals refine aR (vs:=[_]) F ⟨ay F F F F,trivial⟩ F sB ⟨hgl.trans hG2,.nd 91 [] 0 (vs ++ [u1]),⟨91,[],0,some ⟨y1,0,none⟩,vs.length + 1,yc⟩,t1,true,F,db dC dC (fun h=>absurd h dC) hvl.symm (by rw [List.length_append,List.length_singleton,hcl];exact hsl) (cd hG2 hr2),F,by simp only [List.length_cons];omega,fun h=>(by cases h),fun _=>⟨.inr (by rw [hR,hmore,hit,hit2];rfl),by rw [br,htu];simp only [List.length_cons,List.length_nil];omega⟩⟩
    | false =>
     obtain ⟨_,hfs⟩:=hP0 rfl
     have htot:=iW n k t _ hfs
     dsimp only at htot
     have hup:=iw u1
     have cx_tm:=im (G:=G1) (r:=r) (sc:=sc) (s:=t1) (l:=[44]) (b:=false) ⟨oM,by simp⟩
     cases ht3 : cV [44] t1 false with
     | true =>
      obtain ⟨t2,rfl⟩:=fH.1 ht3
      rw [ht3,gv] at cx_tm
      have hit2:=jn (m:=m) (vs:=vs) hfs oM
      rw [if_pos (show (44 : UInt8).toNat = 44 from rfl)] at hit2
      simp only [List.length_cons] at htot hPl
      have hlt : t2.length < m - 1:=oM
      repeat' (first | refine jR ?_ | (refine jo ?_;(refine ai F F F cx_tm F ?_;rintro _ _ ⟨rfl,rfl⟩;dsimp only [zA,fA])) | refine ad F F ?_)
      exact a7 (vs ++ [u1],cs ++ [c1],some ⟨y1,0,none⟩,yc,t2,m - 1,G1) ⟨⟨hr2,hgl⟩,⟨by rw [hit,hit2],hlt⟩,by dsimp only;omega,by dsimp only;omega⟩ (by dsimp only;omega) tU rfl (by rw [hvl];repeat (first | exact List.Sublist.refl _ | apply List.Sublist.cons_cons | apply List.Sublist.cons))
     | false =>
      rw [ht3,gH ht3] at cx_tm
      have cx_wb:=dG (G:=G1) (r:=r) (sc:=sc) (s:=t1) (l:=[93]) (b:=false) ⟨oM,by simp⟩
      cases ht4 : cV [93] t1 false with
      | true =>
       obtain ⟨t2,rfl⟩:=fH.1 ht4
       rw [ht4,gv,Bool.not_true] at cx_wb
       have hit2:=jn (m:=m) (vs:=vs) hfs oM
       rw [if_neg (show ¬ (93 : UInt8).toNat = 44 by decide),if_pos (show (93 : UInt8).toNat = 93 from rfl)] at hit2
       simp only [List.length_cons] at htot hPl
       by_cases h20 : vs.length + 1 ≤ 20
       ·repeat' (first | refine jR ?_ | (refine jo ?_;first | refine jC F F F ?_ | refine al F ?_ | refine aQ F ?_ | refine jV (ag F) ?_ | (refine ai F F F cx_wb F ?_;rintro _ _ rfl;dsimp only [zA,fA]) | (refine ai F F F cx_tm F ?_;rintro _ _ ⟨rfl,rfl⟩;dsimp only [zA,fA])) | refine ab F F ?_ | refine ad F (aE oM) ?_)
        refine Nx.sealS (v:=.slice (some ⟨y1,0,none⟩) (vs.length + 1) yc) fun G2 hG2 hsl=>?_
        refine aR (vs:=[_]) F ⟨ay F F F F,trivial⟩ F sB ⟨hgl.trans hG2,.nd 91 [] 0 (vs ++ [u1]),⟨91,[],0,some ⟨y1,0,none⟩,vs.length + 1,yc⟩,t2,false,F,db dC dC (fun h=>absurd h dC) hvl.symm (by rw [List.length_append,List.length_singleton,hcl];exact hsl) (cd hG2 hr2),F,by simp only [List.length_cons];omega,fun _=>⟨rfl,by rw [hR,hmore,hit,hit2];dsimp only;rw [if_pos (by simp;omega)];rfl⟩,fun h=>(by cases h)⟩
       ·repeat' (first | refine jR ?_ | (refine jo ?_;first | refine jD F F F ?_ | refine jC F F F ?_ | refine al F ?_ | refine aQ F ?_ | refine jV (ag F) ?_ | (refine ai F F F cx_wb F ?_;rintro _ _ rfl;dsimp only [zA,fA]) | (refine ai F F F cx_tm F ?_;rintro _ _ ⟨rfl,rfl⟩;dsimp only [zA,fA])) | (refine ab F (by first | rfl | (refine decide_eq_true ?_;(omega))) ?_))
        refine Nx.sealS (v:=.slice (some ⟨y1,0,none⟩) (vs.length + 1) yc) fun G2 hG2 hsl=>?_
        refine aR (vs:=[_]) F ⟨ay F F F F,trivial⟩ F sB ⟨hgl.trans hG2,.nd 91 [] 0 (vs ++ [u1]),⟨91,[],0,some ⟨y1,0,none⟩,vs.length + 1,yc⟩,t2,true,F,db dC dC (fun h=>absurd h dC) hvl.symm (by rw [List.length_append,List.length_singleton,hcl];exact hsl) (cd hG2 hr2),F,by simp only [List.length_cons];omega,fun h=>(by cases h),fun _=>⟨.inr (by rw [hR,hmore,hit,hit2];dsimp only;rw [if_neg (by simp;omega)];rfl),by rw [br,htu];simp only [List.length_cons,List.length_nil];omega⟩⟩
      | false =>
       rw [ht4,gH ht4,Bool.not_false] at cx_wb
       have hit2 : bj (rd (ah qs) n k) m t vs = none:=by
        cases t1 with
        | nil=>exact jp (.inr ⟨u1,hfs⟩)
        | cons d t2 =>
         rw [jn hfs oM,if_neg,if_neg]
         ·intro h93
          have : cV [93] (d :: t2) false = true:=fH.2 ⟨t2,by rw [show d = 93 from UInt8.toNat_inj.1 h93]⟩
          rw [this] at ht4;cases ht4
         ·intro h44
          have : cV [44] (d :: t2) false = true:=fH.2 ⟨t2,by rw [show d = 44 from UInt8.toNat_inj.1 h44]⟩
          rw [this] at ht3;cases ht3
       repeat' (first | refine jR ?_ | (refine jo ?_;first | refine jD F F F ?_ | refine jC F F F ?_ | refine al F ?_ | refine aQ F ?_ | refine jV (ag F) ?_ | (refine ai F F F cx_wb F ?_;rintro _ _ rfl;dsimp only [zA,fA]) | (refine ai F F F cx_tm F ?_;rintro _ _ ⟨rfl,rfl⟩;dsimp only [zA,fA])) | refine ab F F ?_ | refine dJ F (fun _=>?_) (fun _=>?_))
       all_goals (refine Nx.sealS (v:=.slice (some ⟨y1,0,none⟩) (vs.length + 1) yc) fun G2 hG2 hsl=>?_)
       all_goals refine aR (vs:=[_]) F ⟨ay F F F F,trivial⟩ F sB ⟨hgl.trans hG2,.nd 91 [] 0 (vs ++ [u1]),⟨91,[],0,some ⟨y1,0,none⟩,vs.length + 1,yc⟩,t1,true,F,db dC dC (fun h=>absurd h dC) hvl.symm (by rw [List.length_append,List.length_singleton,hcl];exact hsl) (cd hG2 hr2),F,by simp only [List.length_cons];omega,fun h=>(by cases h),fun _=>⟨.inr (by rw [hR,hmore,hit,hit2];rfl),by rw [br,htu];simp only [List.length_cons,List.length_nil];omega⟩⟩
def zVC : VC:=⟨0,[],0,none,0,0⟩
def abZ (t : Ty) (bf of : Nat) (f : adE → adE → Option (V × adE)) (r sc : Nat) (s : adE) (b : Bool) (v : Value) (G' : Gh) (L' : List Own) : Prop :=
  ∃ s' b',L' = [eh r sc s' b'] ∧ s'.length ≤ s.length ∧
    ((v = Tu [Ag (bG zVC),.pointer none] ∧ b' = true ∧ (b = true ∨ aW f t s = none)) ∨
     (∃ j u c,j < t.fields.length ∧ v = Tu [Ag (bG c),Pt bf (of + j * 6)] ∧ V.rep G' (.nd 61 [] (ae t.fields j).tag [u]) c ∧ b = false ∧ u.tot + 100 * s'.length + 100 ≤ 100 * s.length ∧
       (b' = false → aW f t s = some ((ae t.fields j,u),s')) ∧ (b' = true → aW f t s = none)))
abbrev zP : Value:=Ag [U8 0,S [],I 0,aN]
theorem fD {f : adE → adE → Option (V × adE)} {t : Ty} {s : adE} (h : aM (s.takeWhile bc) 200 = none ∨ ∃ m,aM (s.takeWhile bc) 200 = some m ∧ bB t.fields m = none) : aW f t s = none:=by
 unfold aW cq
 rcases h with h | ⟨m,h,h2⟩
 ·rw [h];rfl
 ·rw [h];dsimp only [Option.map_some];rw [h2]
theorem ik {f : adE → adE → Option (V × adE)} {t : Ty} {s : adE} {m : Int} (h : aM (s.takeWhile bc) 200 = some m) (h2 : ∀ s2,s.dropWhile bc ≠ 61 :: s2) : aW f t s = none:=by
 unfold aW cq
 rw [h];dsimp only [Option.map_some]
 cases bB t.fields m with
 | none=>rfl
 | some d =>
  dsimp only
  cases hd : s.dropWhile bc with
  | nil=>rfl
  | cons c r =>
   dsimp only
   rw [if_neg]
   intro hc
   exact h2 r (by rw [hd,show c = 61 from UInt8.toNat_inj.1 hc])
theorem l4 {f : adE → adE → Option (V × adE)} {t : Ty} {s s2 : adE} {m : Int} {d : Fld} (h : aM (s.takeWhile bc) 200 = some m) (hd : bB t.fields m = some d) (h2 : s.dropWhile bc = 61 :: s2) : aW f t s = (f d.kind s2).map fun x=>((d,x.1),x.2):=by
 unfold aW cq
 rw [h];dsimp only [Option.map_some];rw [hd,h2];dsimp only;rw [if_pos (show (61 : UInt8).toNat = 61 from rfl)]
theorem o8 {n r sc bt bf of cf : Nat} {qs : List cC} {t : Ty} {ln s : adE} {b : Bool} {fv : Value} (hV : nB n sc qs) (hS : ScI G sc qs) (hw : TyW t) (hkf : ∀ d ∈ t.fields,aB (ah qs) d.kind = true)
  (h1 : cH G bt 0 [U8 t.sort,S t.name,fv,S ln]) (h2 : bq G fv 6 t.fields.length (ax jh t.fields)) (hfv : t.fields ≠ [] → fv = .slice (some ⟨bf,of,none⟩) t.fields.length cf ∧ cH G bf of (ax jh t.fields)) (hs : s.length ≤ n ∧ s.length ≤ 1000) :
  dD adD 205 [Pt r 0,Pt bt 0] G [eh r sc s b] (abZ t bf of (rd (ah qs) n) r sc s b):=by
 have hwl:=d6 bc s
 have hfl:=hw.len
 have cx_nu:=mh (G:=G) (r:=r) (sc:=sc) (s:=s) (b:=b) (top:=200) oM
 have cx_wa:=dG (G:=G) (r:=r) (sc:=sc) (s:=s.dropWhile bc) (l:=[61]) (b:=(b || (aM (s.takeWhile bc) 200).isNone)) ⟨oM,by simp⟩
 have htl:=j4 (l:=[61]) (s:=s.dropWhile bc) (b:=(b || (aM (s.takeWhile bc) 200).isNone))
 have hleft : ∀ (s' : adE),s'.length ≤ s.length → (b = true ∨ aW (rd (ah qs) n) t s = none) → ∀ G',abZ t bf of (rd (ah qs) n) r sc s b (Tu [Ag (bG zVC),.pointer none]) G' [eh r sc s' true]:=fun s' h3 h4 G'=>⟨s',true,rfl,h3,.inl ⟨rfl,rfl,h4⟩⟩
 refine bT [(0,_),(1,_)] Tryz.func205 kR Tryz.ntmps205 F F tU fun B hB hW=>?_
 repeat' (first | refine jR ?_ | (refine jo ?_;first | refine jL fun _=>?_ | (refine ai F F F cx_nu F ?_;rintro _ _ ⟨n1,rfl,⟨hn0,hn1⟩,hnum,rfl⟩;dsimp only [zA,fA])))
 rename_i x4
 cases hft : bB t.fields n1 with
 | none =>
  have hno : aW (rd (ah qs) n) t s = none:=by
   cases hm : aM (s.takeWhile bc) 200 with
   | none=>exact fD (.inl hm)
   | some m=>exact fD (.inr ⟨m,hm,by rw [← hnum m hm];exact hft⟩)
  have cx_fld:=ee h1 h2 oM hft
  repeat' (first | refine jR ?_ | (refine jo ?_;first | refine jV (cn F F) ?_ | refine aK F ?_ | refine jD F F F ?_ | refine jC F F F ?_ | refine jV (ao F F) ?_ | refine ac F F F cx_fld F ?_ | (refine ai F F F cx_wa F ?_;rintro _ _ rfl;dsimp only [zA,fA])) | refine aA F F F ?_ | refine ab F F ?_)
  refine aR (vs:=[_,_]) F ⟨ay F F F F,F,trivial⟩ F sB ⟨Gh.le.refl _,hleft _ oM (.inr hno) _⟩
 | some d =>
  obtain ⟨j,hj,hjn,hjt,hjd⟩:=eE hft
  subst hjd
  obtain ⟨rfl,hsf⟩:=hfv (fun h=>by rw [h] at hj;simp at hj)
  have cx_fld:=eY h1 hsf oM hj hjn hjt
  cases ht : cV [61] (s.dropWhile bc) (b || (aM (s.takeWhile bc) 200).isNone) with
  | false =>
   rw [ht,Bool.not_false] at cx_wa
   have hno : b = true ∨ aW (rd (ah qs) n) t s = none:=by
    cases b with
    | true=>exact .inl F
    | false =>
     right
     cases hm : aM (s.takeWhile bc) 200 with
     | none=>exact fD (.inl hm)
     | some m =>
      refine ik hm (fun s2 h=>?_)
      rw [hm,h] at ht
      have : cV [61] (61 :: s2) false = true:=fH.2 ⟨s2,rfl⟩
      rw [show (false || (some m).isNone) = false from rfl,this] at ht;cases ht
   repeat' (first | refine jR ?_ | (refine jo ?_;first | refine jV (cn F F) ?_ | refine al F ?_ | refine aw F ?_ | refine jD F F F ?_ | refine jC F F F ?_ | refine jV (ao F F) ?_ | refine ac F F F cx_fld F ?_ | (refine ai F F F cx_wa F ?_;rintro _ _ rfl;dsimp only [zA,fA])) | refine am F F F ?_ | refine ab F F ?_)
   refine aR (vs:=[_,_]) F ⟨ay F F F F,F,trivial⟩ F sB ⟨Gh.le.refl _,hleft _ oM hno _⟩
  | true =>
   have hb0 : (b || (aM (s.takeWhile bc) 200).isNone) = false:=by
    cases hb : (b || (aM (s.takeWhile bc) 200).isNone) with
    | false=>rfl
    | true=>rw [hb,gU] at ht;cases ht
   rw [hb0] at ht cx_wa htl
   rw [hb0]
   simp only [Bool.or_eq_false_iff] at hb0
   obtain ⟨hb,hnn⟩:=hb0
   obtain ⟨m,hm⟩ : ∃ m,aM (s.takeWhile bc) 200 = some m:=by
    cases hm : aM (s.takeWhile bc) 200 with
    | none=>rw [hm] at hnn;cases hnn
    | some m=>exact ⟨m,F⟩
   obtain ⟨s2,hs2⟩:=fH.1 ht
   rw [ht,hs2,gv,Bool.not_true] at cx_wa
   have hdig : 1 ≤ (s.takeWhile bc).length:=by
    have h3:=(dE hm).2.1
    rw [h3];exact fE m
   rw [hs2,List.length_cons] at hwl
   have hfd : ∀ x,aW (rd (ah qs) n) t s = some x ↔ (rd (ah qs) n (ae t.fields j).kind s2).map (fun x=>((ae t.fields j,x.1),x.2)) = some x:=fun x=>by
    rw [l4 hm (d:=ae t.fields j) (by rw [← hnum m hm,hft]) hs2]
   have hkd:=hkf (ae t.fields j) (bh hj)
   have cx_vl:=hV G r (ae t.fields j).kind s2 false hS hkd oM oM
   rw [hs2]
   repeat' (first | refine jR ?_ | (refine jo ?_;first | refine jL fun _=>?_ | refine jV (cn F F) ?_ | refine al F ?_ | (refine jV (f8 F F aS ?_ F F) ?_;focus omega) | refine aw F ?_ | refine jC F F F ?_ | refine ac F F F cx_fld F ?_ | (refine ai F F F cx_wa F ?_;rintro _ _ rfl;dsimp only [zA,fA]) | (refine cY F F F cx_vl F ?_;rintro _ G1 _ hle ⟨u1,c1,t1,b1,rfl,hrep,rfl,hP⟩;dsimp only [zA,fA];skip)) | refine am F F F ?_ | refine ad F F ?_)
   have hsf1:=hsf.mono hle
   have htag:=(hw.fld _ (bh hj)).tag
   repeat' (first | refine jR ?_ | (refine ak (dL (id:=7) (tt:=4) F aj ?_);refine jW 6 [0,1,2,7] (aa 10 135) ?_;((refine jG (aa 10 143) 3 F (b7 F F aS ?_ F F) ?_;focus omega));(refine jG (aa 10 159) 4 F (bz F F F F) ?_);refine jA 5 F ?_;(refine jF fun _=>?_);refine jK (aa 10 191) ?_;(refine jG (aa 10 255) 6 F (ao F F) ?_);refine jA 8 F ?_;(refine jC F F F ?_);refine jK (aa 10 511) ?_;refine jW 0 [9] (aa 10 1023) ?_;refine jQ ?_))
   rename_i y
   refine Nx.sealC (b:=y) fun G2 hG2 hsy=>?_
   have hsl : bq G2 (.slice (some ⟨y,0,none⟩) 1 1) 4 ([c1] : List VC).length (ax bG [c1]):=⟨rfl,.inr ⟨y,0,1,rfl,Nat.le_refl _,hsy⟩⟩
   have hrp : V.rep G2 (.nd 61 [] (ae t.fields j).tag [u1]) ⟨61,[],(ae t.fields j).tag,some ⟨y,0,none⟩,1,1⟩:=db dC oM (fun _=>rfl) rfl hsl ⟨c1,[],rfl,fz hG2 hrep,rfl⟩
   obtain ⟨hPl,hP0,hP1⟩:=hP
   have hf2:=fun x=>hfd x
   cases b1 with
   | false =>
    obtain ⟨_,hgood⟩:=hP0 rfl
    have htot:=iW n _ _ _ hgood
    dsimp only at htot
    refine aR (vs:=[_,_]) F ⟨ay F F F F,F,trivial⟩ F sB ⟨hle.trans hG2,t1,false,F,oM,.inr ⟨j,u1,⟨61,[],(ae t.fields j).tag,some ⟨y,0,none⟩,1,1⟩,hj,F,hrp,hb,oM,fun _=>(hfd _).2 (by rw [hgood];rfl),fun h=>(by cases h)⟩⟩
   | true =>
    obtain ⟨hbad,hto⟩:=hP1 rfl
    have hbad2 : rd (ah qs) n (ae t.fields j).kind s2 = none:=by
     rcases hbad with h | h
     ·cases h
     ·exact h
    have hno : aW (rd (ah qs) n) t s = none:=by
     cases hx : aW (rd (ah qs) n) t s with
     | none=>rfl
     | some x=>have:=(hfd x).1 hx;rw [hbad2] at this;cases this
    refine aR (vs:=[_,_]) F ⟨ay F F F F,F,trivial⟩ F sB ⟨hle.trans hG2,t1,true,F,oM,.inr ⟨j,u1,⟨61,[],(ae t.fields j).tag,some ⟨y,0,none⟩,1,1⟩,hj,F,hrp,hb,oM,fun h=>(by cases h),fun _=>hno⟩⟩
theorem ji {c : UInt8} {s : adE} (h : cV [c] s false = false) : ∀ s2,s ≠ c :: s2:=fun s2 e=>by
 have : cV [c] s false = true:=fH.2 ⟨s2,e⟩
 rw [this] at h;cases h
theorem ox {ts : List Ty} {f : adE → adE → Option (V × adE)} {t : Ty} {s : adE} {c : UInt8} (hc : t.sort = 82 ∧ c = 123 ∨ t.sort = 69 ∧ c = 35 ∨ (t.sort ≠ 82 ∧ t.sort ≠ 69) ∧ c = 60) (h : ∀ s2,s ≠ c :: s2) : be ts f t s = none:=by
 cases s with
 | nil=>rfl
 | cons d r =>
  have hd : d ≠ c:=fun e=>h r (by rw [e])
  unfold be
  dsimp only
  have hn : ∀ k : Nat,k < 256 → c = UInt8.ofNat k → ¬ d.toNat = k:=fun k hk e h2=>hd (by rw [e,bn h2 hk])
  rcases hc with ⟨h1,h2⟩ | ⟨h1,h2⟩ | ⟨⟨h1,h1'⟩,h2⟩
  ·rw [if_pos h1,if_neg (hn 123 dC h2)]
  ·rw [if_neg oM,if_pos h1,if_neg (hn 35 dC h2)]
  ·rw [if_neg h1,if_neg h1',if_neg (hn 60 dC h2)]
theorem acM {n r sc bt : Nat} {qs : List cC} {t : Ty} {s : adE} {b : Bool} (hT : i8 G bt t) (hw : TyW t) (hso : t.sort = 69) (hs : s.length ≤ n ∧ s.length ≤ 1000) :
  dD adD 180 [Pt r 0,Pt bt 0] G [eh r sc s b] (iJ (be (ah qs) (rd (ah qs) n) t) r sc s b):=by
 obtain ⟨fv,ln,h1,h2⟩:=hT
 have hfl:=hw.len
 have hso' : (t.sort : Int) = 69:=oM
 have cx_wa:=dG (G:=G) (r:=r) (sc:=sc) (s:=s) (l:=[35]) (b:=b) ⟨oM,by simp⟩
 cases ht : cV [35] s b with
 | false =>
  rw [ht,gH ht,Bool.not_false] at cx_wa
  have hno : b = true ∨ be (ah qs) (rd (ah qs) n) t s = none:=by
   cases b with
   | true=>exact .inl F
   | false=>exact .inr (ox (.inr (.inl ⟨hso,F⟩)) (ji ht))
  have cx_nu:=mh (G:=G) (r:=r) (sc:=sc) (s:=s) (b:=true) (top:=200) oM
  rw [Bool.true_or] at cx_nu
  have hwl:=d6 bc s
  refine bT [(0,_),(1,_)] Tryz.func180 kR Tryz.ntmps180 F F tU fun B hB hW=>?_
  repeat' (first | refine jR ?_ | (refine jo ?_;first | refine jL fun _=>?_ | refine al F ?_ | refine jV (an F F aS F F) ?_ | refine jV (ao F F) ?_ | refine jD F F F ?_ | refine jC F F F ?_ | (refine ai F F F cx_wa F ?_;rintro _ _ rfl;dsimp only [zA,fA]) | (refine ai F F F cx_nu F ?_;rintro _ _ ⟨n1,rfl,⟨hn0,hn1⟩,hnum,rfl⟩;dsimp only [zA,fA])) | refine ab F (aD ‹_›) ?_)
  cases hft : bB t.fields n1 with
  | none =>
   have cx_fld:=ee h1 h2 oM hft
   repeat' (first | refine jR ?_ | (refine jo ?_;first | refine aQ F ?_ | refine jD F F F ?_ | refine jC F F F ?_ | refine jV (cn F F) ?_ | refine ac F F F cx_fld F ?_) | refine ab F F ?_)
   refine aR (vs:=[_]) F ⟨ay F F F F,trivial⟩ F sB ⟨Gh.le.refl _,.nd 69 [] n1 [],⟨69,[],n1,none,0,0⟩,s.dropWhile bc,true,by rw [hso];rfl,bA dC ⟨hn0,hn1⟩,rfl,oM,fun h=>(by cases h),fun _=>⟨hno,by simp only [V.tot,V.tots,List.length_nil];omega⟩⟩
  | some d =>
   obtain ⟨j,hj,hjn,hjt,hjd⟩:=eE hft
   obtain ⟨bf,of,cf,rfl,hsf⟩:=h2.expl oM
   have cx_fld:=eY h1 hsf oM hj hjn hjt
   repeat' (first | refine jR ?_ | (refine jo ?_;first | refine aQ F ?_ | refine jC F F F ?_ | refine jV (cn F F) ?_ | refine ac F F F cx_fld F ?_) | refine ad F F ?_)
   refine aR (vs:=[_]) F ⟨ay F F F F,trivial⟩ F sB ⟨Gh.le.refl _,.nd 69 [] n1 [],⟨69,[],n1,none,0,0⟩,s.dropWhile bc,true,by rw [hso];rfl,bA dC ⟨hn0,hn1⟩,rfl,oM,fun h=>(by cases h),fun _=>⟨hno,by simp only [V.tot,V.tots,List.length_nil];omega⟩⟩
 | true =>
  have hb : b = false:=by cases b with | true=>rw [gU] at ht;cases ht | false=>rfl
  subst hb
  obtain ⟨s1,rfl⟩:=fH.1 ht
  rw [ht,gv,Bool.not_true] at cx_wa
  simp only [List.length_cons] at hs
  have cx_nu:=mh (G:=G) (r:=r) (sc:=sc) (s:=s1) (b:=false) (top:=200) oM
  rw [Bool.false_or] at cx_nu
  have hwl:=d6 bc s1
  have hRT : be (ah qs) (rd (ah qs) n) t (35 :: s1) = match cq 200 s1 with
    | none=>none
    | some (n,r)=>if (bB t.fields n).isSome = true then some (.nd 69 [] n [],r) else none:=by
   unfold be
   dsimp only
   rw [if_neg oM,if_pos hso,if_pos (show (35 : UInt8).toNat = 35 from rfl)]
   cases cq 200 s1 <;> rfl
  cases hnu : aM (s1.takeWhile bc) 200 with
  | none =>
   have hno : be (ah qs) (rd (ah qs) n) t (35 :: s1) = none:=by rw [hRT];unfold cq;rw [hnu];rfl
   rw [hnu] at cx_nu
   refine bT [(0,_),(1,_)] Tryz.func180 kR Tryz.ntmps180 F F tU fun B hB hW=>?_
   repeat' (first | refine jR ?_ | (refine jo ?_;first | refine jL fun _=>?_ | refine al F ?_ | refine jV (an F F aS F F) ?_ | refine jV (ao F F) ?_ | refine jD F F F ?_ | refine jC F F F ?_ | (refine ai F F F cx_wa F ?_;rintro _ _ rfl;dsimp only [zA,fA]) | (refine ai F F F cx_nu F ?_;rintro _ _ ⟨n1,rfl,⟨hn0,hn1⟩,hnum,rfl⟩;dsimp only [zA,fA])) | refine ab F (aD ‹_›) ?_)
   cases hft : bB t.fields n1 with
   | none =>
    have cx_fld:=ee h1 h2 oM hft
    repeat' (first | refine jR ?_ | (refine jo ?_;first | refine aQ F ?_ | refine jD F F F ?_ | refine jC F F F ?_ | refine jV (cn F F) ?_ | refine ac F F F cx_fld F ?_) | refine ab F F ?_)
    refine aR (vs:=[_]) F ⟨ay F F F F,trivial⟩ F sB ⟨Gh.le.refl _,.nd 69 [] n1 [],⟨69,[],n1,none,0,0⟩,s1.dropWhile bc,true,by rw [hso];rfl,bA dC ⟨hn0,hn1⟩,rfl,by simp only [List.length_cons];omega,fun h=>(by cases h),fun _=>⟨.inr hno,by simp only [V.tot,V.tots,List.length_nil,List.length_cons];omega⟩⟩
   | some d =>
    obtain ⟨j,hj,hjn,hjt,hjd⟩:=eE hft
    obtain ⟨bf,of,cf,rfl,hsf⟩:=h2.expl oM
    have cx_fld:=eY h1 hsf oM hj hjn hjt
    repeat' (first | refine jR ?_ | (refine jo ?_;first | refine aQ F ?_ | refine jC F F F ?_ | refine jV (cn F F) ?_ | refine ac F F F cx_fld F ?_) | refine ad F F ?_)
    refine aR (vs:=[_]) F ⟨ay F F F F,trivial⟩ F sB ⟨Gh.le.refl _,.nd 69 [] n1 [],⟨69,[],n1,none,0,0⟩,s1.dropWhile bc,true,by rw [hso];rfl,bA dC ⟨hn0,hn1⟩,rfl,by simp only [List.length_cons];omega,fun h=>(by cases h),fun _=>⟨.inr hno,by simp only [V.tot,V.tots,List.length_nil,List.length_cons];omega⟩⟩
  | some m =>
   rw [hnu] at cx_nu
   have hRT2 : be (ah qs) (rd (ah qs) n) t (35 :: s1) = if (bB t.fields m).isSome = true then some (.nd 69 [] m [],s1.dropWhile bc) else none:=by rw [hRT];unfold cq;rw [hnu];rfl
   refine bT [(0,_),(1,_)] Tryz.func180 kR Tryz.ntmps180 F F tU fun B hB hW=>?_
   repeat' (first | refine jR ?_ | (refine jo ?_;first | refine jL fun _=>?_ | refine al F ?_ | refine jV (an F F aS F F) ?_ | refine jV (ao F F) ?_ | refine jD F F F ?_ | refine jC F F F ?_ | (refine ai F F F cx_wa F ?_;rintro _ _ rfl;dsimp only [zA,fA]) | (refine ai F F F cx_nu F ?_;rintro _ _ ⟨n1,rfl,⟨hn0,hn1⟩,hnum,rfl⟩;dsimp only [zA,fA])) | refine ab F (aD ‹_›) ?_)
   obtain rfl : n1 = m:=hnum m rfl
   cases hft : bB t.fields n1 with
   | none =>
    rw [hft] at hRT2
    have cx_fld:=ee h1 h2 oM hft
    repeat' (first | refine jR ?_ | (refine jo ?_;first | refine aQ F ?_ | refine jD F F F ?_ | refine jC F F F ?_ | refine jV (cn F F) ?_ | refine ac F F F cx_fld F ?_) | refine ab F F ?_)
    refine aR (vs:=[_]) F ⟨ay F F F F,trivial⟩ F sB ⟨Gh.le.refl _,.nd 69 [] n1 [],⟨69,[],n1,none,0,0⟩,s1.dropWhile bc,true,by rw [hso];rfl,bA dC ⟨hn0,hn1⟩,rfl,by simp only [List.length_cons];omega,fun h=>(by cases h),fun _=>⟨.inr hRT2,by simp only [V.tot,V.tots,List.length_nil,List.length_cons];omega⟩⟩
   | some d =>
    rw [hft] at hRT2
    obtain ⟨j,hj,hjn,hjt,hjd⟩:=eE hft
    obtain ⟨bf,of,cf,rfl,hsf⟩:=h2.expl oM
    have cx_fld:=eY h1 hsf oM hj hjn hjt
    repeat' (first | refine jR ?_ | (refine jo ?_;first | refine aQ F ?_ | refine jC F F F ?_ | refine jV (cn F F) ?_ | refine ac F F F cx_fld F ?_) | refine ad F F ?_)
    refine aR (vs:=[_]) F ⟨ay F F F F,trivial⟩ F sB ⟨Gh.le.refl _,.nd 69 [] n1 [],⟨69,[],n1,none,0,0⟩,s1.dropWhile bc,false,by rw [hso];rfl,bA dC ⟨hn0,hn1⟩,rfl,by simp only [List.length_cons];omega,fun _=>⟨rfl,hRT2⟩,fun h=>(by cases h)⟩
theorem t5 {G : Gh} {t : Int} {u : V} {c : VC} (h : V.rep G (.nd 61 [] t [u]) c) : ∃ (b o k : Nat) (d : VC),c = ⟨61,[],t,some ⟨b,o,none⟩,1,k⟩ ∧ (0 ≤ t ∧ t ≤ 999999) ∧ cH G b o (ax bG [d]) ∧ V.rep G u d ∧ V.rep G (.nd 85 [] t [u]) ⟨85,[],t,some ⟨b,o,none⟩,1,k⟩:=by
 obtain ⟨a,k,cs,rfl,_,ht,_,hcl,hsl,hks⟩:=fL h
 rw [V.reps] at hks
 obtain ⟨d,cs',rfl,hd,hcs⟩:=hks
 rw [V.reps] at hcs
 subst hcs
 obtain ⟨b,o,cap,e,hs⟩:=hsl.expl (by simp)
 simp only [Value.slice.injEq] at e
 obtain ⟨rfl,-,rfl⟩:=e
 exact ⟨b,o,k,d,F,ht,hs,hd,db dC ht (fun h=>absurd h dC) F hsl ⟨d,[],F,hd,F⟩⟩
theorem acK {n r sc bt : Nat} {qs : List cC} {t : Ty} {s : adE} {b : Bool} (hV : nB n sc qs) (hS : ScI G sc qs) (hkf : ∀ d ∈ t.fields,aB (ah qs) d.kind = true) (hT : i8 G bt t) (hw : TyW t) (hso : t.sort = 85) (hs : s.length ≤ n ∧ s.length ≤ 1000) :
  dD adD 180 [Pt r 0,Pt bt 0] G [eh r sc s b] (iJ (be (ah qs) (rd (ah qs) n) t) r sc s b):=by
 obtain ⟨fv,ln,h1,h2⟩:=hT
 have hfl:=hw.len
 have hso' : (t.sort : Int) = 85:=oM
 have hne : 0 < t.fields.length:=List.length_pos_iff.2 (hw.ne oM)
 obtain ⟨bf,of,cf,rfl,hsf⟩:=h2.expl hne
 have cx_wa:=dG (G:=G) (r:=r) (sc:=sc) (s:=s) (l:=[60]) (b:=b) ⟨oM,by simp⟩
 cases ht : cV [60] s b with
 | false =>
  rw [ht,gH ht,Bool.not_false] at cx_wa
  have hno : b = true ∨ be (ah qs) (rd (ah qs) n) t s = none:=by
   cases b with
   | true=>exact .inl F
   | false=>exact .inr (ox (.inr (.inr ⟨oM,F⟩)) (ji ht))
  have cx_fd:=o8 (s:=s) (b:=true) (r:=r) hV hS hw hkf h1 h2 (fun _=>⟨rfl,hsf⟩) hs
  refine bT [(0,_),(1,_)] Tryz.func180 kR Tryz.ntmps180 F F tU fun B hB hW=>?_
  repeat' (first | refine jR ?_ | (refine jo ?_;first | refine jL fun _=>?_ | refine jV (an F F aS F F) ?_ | refine jV (ao F F) ?_ | refine jC F F F ?_ | (refine ai F F F cx_wa F ?_;rintro _ _ rfl;dsimp only [zA,fA]) | (refine cY F F F cx_fd F ?_;rintro _ G1 _ hle ⟨t1,b1,rfl,htl,⟨rfl,rfl,hF⟩ | ⟨j,u1,c1,hj,rfl,hrep,hb0,hto,hg,hbd⟩⟩ <;> (dsimp only [zA,fA];skip))) | refine ab F (aD ‹_›) ?_ | refine ad F (aE oM) ?_)
  ·have cx_wb:=dG (G:=G1) (r:=r) (sc:=sc) (s:=t1) (l:=[62]) (b:=true) ⟨oM,by simp⟩
   rw [gU,i9,Bool.not_false] at cx_wb
   repeat' (first | refine jR ?_ | (refine jo ?_;first | refine aQ F ?_ | refine jC F F F ?_ | refine jV (ij F F) ?_ | (refine ai F F F cx_wb F ?_;rintro _ _ rfl;dsimp only [zA,fA])) | refine ad F F ?_)
   refine aR (vs:=[_]) F ⟨ay F F F F,trivial⟩ F sB ⟨hle,.nd 85 [] 0 [],⟨85,[],0,none,0,0⟩,t1,true,by rw [hso];rfl,bA dC dC,rfl,oM,fun h=>(by cases h),fun _=>⟨hno,by simp only [V.tot,V.tots,List.length_nil];omega⟩⟩
  ·cases hb0
 | true =>
  have hb : b = false:=by cases b with | true=>rw [gU] at ht;cases ht | false=>rfl
  subst hb
  obtain ⟨s1,rfl⟩:=fH.1 ht
  rw [ht,gv,Bool.not_true] at cx_wa
  simp only [List.length_cons] at hs
  have hRT : be (ah qs) (rd (ah qs) n) t (60 :: s1) = match aW (rd (ah qs) n) t s1 with
    | none=>none
    | some ((d,v),r)=>match r with
     | []=>none
     | c' :: r'=>if c'.toNat = 62 then some (.nd 85 [] d.tag [v],r') else none:=by
   unfold be
   dsimp only
   rw [if_neg oM,if_neg oM,if_pos (show (60 : UInt8).toNat = 60 from rfl)]
   cases aW (rd (ah qs) n) t s1 <;> rfl
  have cx_fd:=o8 (s:=s1) (b:=false) (r:=r) hV hS hw hkf h1 h2 (fun _=>⟨rfl,hsf⟩) ⟨oM,oM⟩
  refine bT [(0,_),(1,_)] Tryz.func180 kR Tryz.ntmps180 F F tU fun B hB hW=>?_
  repeat' (first | refine jR ?_ | (refine jo ?_;first | refine jL fun _=>?_ | refine jV (an F F aS F F) ?_ | refine jV (ao F F) ?_ | refine jC F F F ?_ | (refine ai F F F cx_wa F ?_;rintro _ _ rfl;dsimp only [zA,fA]) | (refine cY F F F cx_fd F ?_;rintro _ G1 _ hle ⟨t1,b1,rfl,htl,⟨rfl,rfl,hF⟩ | ⟨j,u1,c1,hj,rfl,hrep,hb0,hto,hg,hbd⟩⟩ <;> (dsimp only [zA,fA];skip))) | refine ab F (aD ‹_›) ?_ | refine ad F (aE oM) ?_)
  ·have hno : be (ah qs) (rd (ah qs) n) t (60 :: s1) = none:=by
    rcases hF with h | h
    ·cases h
    ·rw [hRT,h]
   have cx_wb:=dG (G:=G1) (r:=r) (sc:=sc) (s:=t1) (l:=[62]) (b:=true) ⟨oM,by simp⟩
   rw [gU,i9,Bool.not_false] at cx_wb
   repeat' (first | refine jR ?_ | (refine jo ?_;first | refine aQ F ?_ | refine jC F F F ?_ | refine jV (ij F F) ?_ | (refine ai F F F cx_wb F ?_;rintro _ _ rfl;dsimp only [zA,fA])) | refine ad F F ?_)
   refine aR (vs:=[_]) F ⟨ay F F F F,trivial⟩ F sB ⟨hle,.nd 85 [] 0 [],⟨85,[],0,none,0,0⟩,t1,true,by rw [hso];rfl,bA dC dC,rfl,by simp only [List.length_cons];omega,fun h=>(by cases h),fun _=>⟨.inr hno,by simp only [V.tot,V.tots,List.length_nil,List.length_cons];omega⟩⟩
  ·obtain ⟨kb,ko,kc,d,rfl,htg,hsd,hrd,hru⟩:=t5 hrep
   have hsf1:=hsf.mono hle
   cases b1 with
   | true =>
    have hno : be (ah qs) (rd (ah qs) n) t (60 :: s1) = none:=by rw [hRT,hbd rfl]
    have cx_wb:=dG (G:=G1) (r:=r) (sc:=sc) (s:=t1) (l:=[62]) (b:=true) ⟨oM,by simp⟩
    rw [gU,i9,Bool.not_false] at cx_wb
    repeat' (first | refine jR ?_ | (refine jo ?_;first | refine jV (ij F F) ?_ | (refine ai F F F cx_wb F ?_;rintro _ _ rfl;dsimp only [zA,fA])) | refine ab F F ?_)
    rename_i x4 x5 _ x6 _
    dsimp only [VC.sl]
    (refine ak (ar (id:=25) [.blk x6 (.cells (List.toArray [U8 ((61 : Nat) : Int),S [],I (ae t.fields j).tag,.slice (some ⟨kb,ko,none⟩) 1 kc]) dI (0,0))] (by intro y hy;simp only [List.mem_cons,List.not_mem_nil,or_false] at hy ⊢;simp [hy]) aj ?_);refine jW 6 [0,1,2,4] (aa 10 23) ?_;((refine jG (aa 10 31) 3 F (b7 F F aS ?_ F F) ?_;focus omega));refine jW 4 [6] (aa 10 95) ?_;(refine jG (aa 10 127) 5 F (aC F F F) ?_);refine jA 7 F ?_;(refine jD F F F ?_);refine jK (aa 10 255) ?_;refine jW 1 [8] (aa 10 511) ?_;refine jA 9 F ?_;(refine jD F F F ?_);refine jK (aa 10 1023) ?_;refine jQ ?_)
    all_goals repeat' (first | refine jR ?_ | (refine jo ?_;first | refine aQ F ?_ | refine jC F F F ?_))
    all_goals refine aR (vs:=[_]) F ⟨ay F F F F,trivial⟩ F sB ⟨hle,.nd 85 [] (ae t.fields j).tag [u1],⟨85,[],(ae t.fields j).tag,some ⟨kb,ko,none⟩,1,kc⟩,t1,true,by rw [hso];rfl,hru,rfl,by simp only [List.length_cons] at *;omega,fun h=>(by cases h),fun _=>⟨.inr hno,by simp only [V.tot,V.tots,List.length_nil,List.length_cons] at *;omega⟩⟩
   | false =>
    have hgd:=hg rfl
    have cx_wb:=dG (G:=G1) (r:=r) (sc:=sc) (s:=t1) (l:=[62]) (b:=false) ⟨oM,by simp⟩
    cases ht2 : cV [62] t1 false with
    | true =>
     obtain ⟨t2,rfl⟩:=fH.1 ht2
     rw [ht2,gv,Bool.not_true] at cx_wb
     have hgood : be (ah qs) (rd (ah qs) n) t (60 :: s1) = some (.nd 85 [] (ae t.fields j).tag [u1],t2):=by
      rw [hRT,hgd];dsimp only;rw [if_pos (show (62 : UInt8).toNat = 62 from rfl)]
     repeat' (first | refine jR ?_ | (refine jo ?_;first | refine jV (ij F F) ?_ | (refine ai F F F cx_wb F ?_;rintro _ _ rfl;dsimp only [zA,fA])) | refine ab F F ?_)
     rename_i x4 x5 _ x6 _
     dsimp only [VC.sl]
     (refine ak (ar (id:=25) [.blk x6 (.cells (List.toArray [U8 ((61 : Nat) : Int),S [],I (ae t.fields j).tag,.slice (some ⟨kb,ko,none⟩) 1 kc]) dI (0,0))] (by intro y hy;simp only [List.mem_cons,List.not_mem_nil,or_false] at hy ⊢;simp [hy]) aj ?_);refine jW 6 [0,1,2,4] (aa 10 23) ?_;((refine jG (aa 10 31) 3 F (b7 F F aS ?_ F F) ?_;focus omega));refine jW 4 [6] (aa 10 95) ?_;(refine jG (aa 10 127) 5 F (aC F F F) ?_);refine jA 7 F ?_;(refine jD F F F ?_);refine jK (aa 10 255) ?_;refine jW 1 [8] (aa 10 511) ?_;refine jA 9 F ?_;(refine jD F F F ?_);refine jK (aa 10 1023) ?_;refine jQ ?_)
     all_goals repeat' (first | refine jR ?_ | (refine jo ?_;first | refine aQ F ?_ | refine jC F F F ?_))
     all_goals refine aR (vs:=[_]) F ⟨ay F F F F,trivial⟩ F sB ⟨hle,.nd 85 [] (ae t.fields j).tag [u1],⟨85,[],(ae t.fields j).tag,some ⟨kb,ko,none⟩,1,kc⟩,t2,false,by rw [hso];rfl,hru,rfl,by simp only [List.length_cons] at *;omega,fun _=>⟨rfl,hgood⟩,fun h=>(by cases h)⟩
    | false =>
     rw [ht2,gH ht2,Bool.not_false] at cx_wb
     have hno : be (ah qs) (rd (ah qs) n) t (60 :: s1) = none:=by
      rw [hRT,hgd]
      dsimp only
      cases t1 with
      | nil=>rfl
      | cons e t2 =>
       dsimp only
       rw [if_neg]
       intro h62
       exact ji ht2 t2 (by rw [show e = 62 from UInt8.toNat_inj.1 h62])
     repeat' (first | refine jR ?_ | (refine jo ?_;first | refine jV (ij F F) ?_ | (refine ai F F F cx_wb F ?_;rintro _ _ rfl;dsimp only [zA,fA])) | refine ab F F ?_)
     rename_i x4 x5 _ x6 _
     dsimp only [VC.sl]
     (refine ak (ar (id:=25) [.blk x6 (.cells (List.toArray [U8 ((61 : Nat) : Int),S [],I (ae t.fields j).tag,.slice (some ⟨kb,ko,none⟩) 1 kc]) dI (0,0))] (by intro y hy;simp only [List.mem_cons,List.not_mem_nil,or_false] at hy ⊢;simp [hy]) aj ?_);refine jW 6 [0,1,2,4] (aa 10 23) ?_;((refine jG (aa 10 31) 3 F (b7 F F aS ?_ F F) ?_;focus omega));refine jW 4 [6] (aa 10 95) ?_;(refine jG (aa 10 127) 5 F (aC F F F) ?_);refine jA 7 F ?_;(refine jD F F F ?_);refine jK (aa 10 255) ?_;refine jW 1 [8] (aa 10 511) ?_;refine jA 9 F ?_;(refine jD F F F ?_);refine jK (aa 10 1023) ?_;refine jQ ?_)
     all_goals repeat' (first | refine jR ?_ | (refine jo ?_;first | refine aQ F ?_ | refine jC F F F ?_))
     all_goals refine aR (vs:=[_]) F ⟨ay F F F F,trivial⟩ F sB ⟨hle,.nd 85 [] (ae t.fields j).tag [u1],⟨85,[],(ae t.fields j).tag,some ⟨kb,ko,none⟩,1,kc⟩,t1,true,by rw [hso];rfl,hru,rfl,by simp only [List.length_cons] at *;omega,fun h=>(by cases h),fun _=>⟨.inr hno,by simp only [V.tot,V.tots,List.length_nil,List.length_cons] at *;omega⟩⟩
theorem ec {ts : List Ty} {f : adE → adE → Option (V × adE)} {t : Ty} {s : adE} {vs : List V} {last : Int} : ∀ {m : Nat},aW f t s = none → bP ts f t m last s vs = none
 | 0,_=>rfl
 | m + 1,h=>by rw [bP,h]
theorem kH {ts : List Ty} {f : adE → adE → Option (V × adE)} {t : Ty} {s r : adE} {vs : List V} {last : Int} {d : Fld} {v : V} {m : Nat} (h : aW f t s = some ((d,v),r)) (hm : 0 < m) :
  bP ts f t m last s vs = if d.tag ≤ last ∨ v.out = bK ts d then none else match r with
   | []=>none
   | c :: r'=>if c.toNat = 44 then bP ts f t (m - 1) d.tag r' (vs ++ [.nd 61 [] d.tag [v]]) else if c.toNat = 125 then some (vs ++ [.nd 61 [] d.tag [v]],r') else none:=by
 obtain ⟨m,rfl⟩ : ∃ k,m = k + 1:=⟨m - 1,oM⟩
 rw [bP,h];rfl
theorem kW {f : adE → adE → Option (V × adE)} {t : Ty} : aW f t [] = none:=by
 unfold aW cq
 have : aM (([] : adE).takeWhile bc) 200 = none:=by
  cases h : aM (([] : adE).takeWhile bc) 200 with
  | none=>rfl
  | some m =>
   have:=(dE h).2.1
   have h2:=fE m
   rw [← this] at h2;simp at h2
 rw [this];rfl
theorem acL {n r sc bt : Nat} {qs : List cC} {t : Ty} {s : adE} {b : Bool} (hV : nB n sc qs) (hS : ScI G sc qs) (hW0 : SchW (ah qs)) (hkf : ∀ d ∈ t.fields,aB (ah qs) d.kind = true) (hT : i8 G bt t) (hw : TyW t) (hso : t.sort = 82) (hs : s.length ≤ n ∧ s.length ≤ 1000) :
  dD adD 180 [Pt r 0,Pt bt 0] G [eh r sc s b] (iJ (be (ah qs) (rd (ah qs) n) t) r sc s b):=by
 obtain ⟨fv,ln,h1,h2⟩:=hT
 have hfl:=hw.len
 have hso' : (t.sort : Int) = 82:=oM
 have cx_wa:=dG (G:=G) (r:=r) (sc:=sc) (s:=s) (l:=[123]) (b:=b) ⟨oM,by simp⟩
 have cx_tk:=im (G:=G) (r:=r) (sc:=sc) (s:=d7 [123] s b) (l:=[125]) (b:=!cV [123] s b) ⟨by have:=j4 (l:=[123]) (s:=s) (b:=b);omega,by simp⟩
 cases ht : cV [123] s b with
 | false =>
  rw [ht,gH ht] at cx_wa cx_tk
  rw [Bool.not_false,gU,i9] at cx_tk
  have cx_wb:=dG (G:=G) (r:=r) (sc:=sc) (s:=s) (l:=[125]) (b:=true) ⟨oM,by simp⟩
  rw [gU,i9] at cx_wb
  have hno : b = true ∨ be (ah qs) (rd (ah qs) n) t s = none:=by
   cases b with
   | true=>exact .inl F
   | false=>exact .inr (ox (.inl ⟨hso,F⟩) (ji ht))
  refine bT [(0,_),(1,_)] Tryz.func180 kR Tryz.ntmps180 F F tU fun B hB hW=>?_
  repeat' (first | refine jR ?_ | (refine jo ?_;first | refine jL fun _=>?_ | refine jV (an F F aS F F) ?_ | refine jV (ao F F) ?_ | refine jC F F F ?_ | (refine ai F F F cx_wa F ?_;rintro _ _ rfl;dsimp only [zA,fA]) | (refine ai F F F cx_tk F ?_;rintro _ _ ⟨rfl,rfl⟩;dsimp only [zA,fA])) | (refine ad F (by first | rfl | (refine decide_eq_false ?_;(omega))) ?_))
  rename_i x4 x5 _
  refine aU (ι:=Unit) (fun i=>True) (fun i=>[(0,Pt r 0),(1,Pt bt 0),(4,Pt x4 0),(5,Pt x5 0),(8,I 0)]) (fun _=>G) (fun i=>[eh r sc s true,rm x5 [U8 t.sort,S [],I 0,aN],rm x4 [U8 0,S [],I 0,aN]]) (fun i=>0) () ?_ tU F aZ (fun i Hi=>?_)
  ·trivial
  repeat' (first | refine jR ?_ | (refine jo ?_;first | refine al F ?_ | refine aQ F ?_ | refine jC F F F ?_ | (refine ai F F F cx_wb F ?_;rintro _ _ rfl;dsimp only [zA,fA])) | refine ad F F ?_)
  refine aR (vs:=[_]) F ⟨ay F F F F,trivial⟩ F sB ⟨Gh.le.refl _,.nd 82 [] 0 [],⟨82,[],0,none,0,0⟩,s,true,by rw [hso];rfl,bA dC dC,rfl,Nat.le_refl _,fun h=>(by cases h),fun _=>⟨hno,by simp only [V.tot,V.tots,List.length_nil];omega⟩⟩
 | true =>
  have hb : b = false:=by cases b with | true=>rw [gU] at ht;cases ht | false=>rfl
  subst hb
  obtain ⟨s1,rfl⟩:=fH.1 ht
  rw [ht,gv] at cx_wa cx_tk
  rw [Bool.not_true] at cx_wa cx_tk
  simp only [List.length_cons] at hs
  cases ht2 : cV [125] s1 false with
  | true =>
   obtain ⟨s2,rfl⟩:=fH.1 ht2
   rw [ht2,gv] at cx_tk
   have hgood : be (ah qs) (rd (ah qs) n) t (123 :: 125 :: s2) = some (.nd 82 [] 0 [],s2):=by
    unfold be
    dsimp only
    rw [if_pos hso,if_pos (show (123 : UInt8).toNat = 123 from rfl),if_pos (show (125 : UInt8).toNat = 125 from rfl)]
   refine bT [(0,_),(1,_)] Tryz.func180 kR Tryz.ntmps180 F F tU fun B hB hW=>?_
   repeat' (first | refine jR ?_ | (refine jo ?_;first | refine jL fun _=>?_ | refine aQ F ?_ | refine jV (an F F aS F F) ?_ | refine jV (ao F F) ?_ | refine jC F F F ?_ | (refine ai F F F cx_wa F ?_;rintro _ _ rfl;dsimp only [zA,fA]) | (refine ai F F F cx_tk F ?_;rintro _ _ ⟨rfl,rfl⟩;dsimp only [zA,fA])) | refine ab F F ?_ | refine ad F (aE oM) ?_)
   refine aR (vs:=[_]) F ⟨ay F F F F,trivial⟩ F sB ⟨Gh.le.refl _,.nd 82 [] 0 [],⟨82,[],0,none,0,0⟩,s2,false,by rw [hso];rfl,bA dC dC,rfl,by simp only [List.length_cons];omega,fun _=>⟨rfl,hgood⟩,fun h=>(by cases h)⟩
  | false =>
   rw [ht2,gH ht2] at cx_tk
   have hR : be (ah qs) (rd (ah qs) n) t (123 :: s1) = (bP (ah qs) (rd (ah qs) n) t (s1.length + 1) 0 s1 []).map fun x=>(.nd 82 [] 0 x.1,x.2):=by
    unfold be
    dsimp only
    rw [if_pos hso,if_pos (show (123 : UInt8).toNat = 123 from rfl)]
    cases s1 with
    | nil=>rw [ec kW];rfl
    | cons e r' =>
     dsimp only
     rw [if_neg]
     intro h93
     exact ji ht2 r' (by rw [show e = 125 from UInt8.toNat_inj.1 h93])
   refine bT [(0,_),(1,_)] Tryz.func180 kR Tryz.ntmps180 F F tU fun B hB hW=>?_
   repeat' (first | refine jR ?_ | (refine jo ?_;first | refine jL fun _=>?_ | refine jV (an F F aS F F) ?_ | refine jV (ao F F) ?_ | refine jC F F F ?_ | (refine ai F F F cx_wa F ?_;rintro _ _ rfl;dsimp only [zA,fA]) | (refine ai F F F cx_tk F ?_;rintro _ _ ⟨rfl,rfl⟩;dsimp only [zA,fA])) | (refine ad F (by first | rfl | (refine decide_eq_false ?_;(omega))) ?_))
   rename_i x4 x5 _
   refine Nx.addNil dI 4 (Nx.perm (List.Perm.swap _ _ _) ?_)
   refine aU (ι:=List V × List VC × Option Addr × Nat × adE × Nat × Int × Gh) (fun q=>(V.reps q.2.2.2.2.2.2.2 q.1 q.2.1 ∧ Gh.le G q.2.2.2.2.2.2.2) ∧ (bP (ah qs) (rd (ah qs) n) t (s1.length + 1) 0 s1 [] = bP (ah qs) (rd (ah qs) n) t q.2.2.2.2.2.1 q.2.2.2.2.2.2.1 q.2.2.2.2.1 q.1 ∧ q.2.2.2.2.1.length < q.2.2.2.2.2.1) ∧ (V.tots q.1 + 100 * q.2.2.2.2.1.length + 100 ≤ 100 * (s1.length + 1) ∧ q.2.2.2.2.1.length ≤ s1.length)) (fun q=>[(0,Pt r 0),(1,Pt bt 0),(4,Pt x4 0),(5,Pt x5 0),(8,I q.2.2.2.2.2.2.1)]) (fun q=>q.2.2.2.2.2.2.2) (fun q=>[eh r sc q.2.2.2.2.1 false,.acc (.slice q.2.2.1 q.1.length q.2.2.2.1) dI 4 q.1.length (ax bG q.2.1),rm x5 [U8 t.sort,S [],I 0,.slice q.2.2.1 q.1.length q.2.2.2.1],rm x4 [U8 0,S [],I 0,aN]]) (fun q=>q.2.2.2.2.1.length) ([],[],none,0,s1,s1.length + 1,0,G) ?_ tU F aZ (fun q Hq=>?_)
   ·exact ⟨⟨F,Gh.le.refl _⟩,⟨F,by dsimp only;omega⟩,by dsimp only;simp only [V.tots];omega,Nat.le_refl _⟩
   obtain ⟨vs,cs,a,cap,t',m,last,Gq⟩:=q
   dsimp only at Hq ⊢
   obtain ⟨⟨hreps,hgq⟩,⟨hit,htm⟩,hT,htl'⟩:=Hq
   have hcl:=ix hreps
   have hkl:=dq vs
   have hfv : t.fields ≠ [] → ∃ bf of cf,fv = .slice (some ⟨bf,of,none⟩) t.fields.length cf ∧ cH G bf of (ax jh t.fields):=fun h=>by
    obtain ⟨bf,of,cf,e,hs⟩:=h2.expl (List.length_pos_iff.2 h)
    exact ⟨bf,of,cf,e,hs⟩
   obtain ⟨bf,of,cf,hfv⟩ : ∃ bf of cf,t.fields ≠ [] → fv = .slice (some ⟨bf,of,none⟩) t.fields.length cf ∧ cH G bf of (ax jh t.fields):=by
    by_cases h : t.fields = []
    ·exact ⟨0,0,0,fun h'=>absurd h h'⟩
    ·obtain ⟨bf,of,cf,h⟩:=hfv h
     exact ⟨bf,of,cf,fun _=>h⟩
   have cx_fd:=o8 (s:=t') (b:=false) (r:=r) hV (hS.mono hgq) hw hkf (h1.mono hgq) (h2.mono hgq) (fun h=>⟨(hfv h).1,(hfv h).2.mono hgq⟩) ⟨oM,oM⟩
   repeat' (first | refine jR ?_ | (refine jo ?_;first | refine jL fun _=>?_ | refine al F ?_ | refine jD F F F ?_ | refine jC F F F ?_ | (refine cY F F F cx_fd F ?_;rintro _ G1 _ hle ⟨t1,b1,rfl,htl,⟨rfl,rfl,hF⟩ | ⟨j,u1,c1,hj,rfl,hrep,hb0,hto,hg,hbd⟩⟩ <;> (dsimp only [zA,fA];skip))) | refine ab F F ?_ | (refine ak (ar (id:=9) _ (fun _ h=>h) aj ?_);refine jT 23 [0] (aa 24 1) ?_;(refine jG (aa 24 3) 1 F (cn F F) ?_);refine jT 21 [2] (aa 24 7) ?_;(try (first | refine Nx.re (d:=38) (v':=Bo true) F (congrArg Value.bool F) ?_ | refine Nx.re (d:=38) (v':=Bo false) F (congrArg Value.bool F) ?_));refine jT 17 [3,4,5,7] (aa 24 191) ?_;(refine jN (aa 24 255) 6 F ?_);refine jT 15 [8] (aa 24 511) ?_;(refine jG (aa 24 1023) 9 F (bJ F F F) ?_);refine jT 13 [10] (aa 24 2047) ?_;(try (refine Nx.re (d:=46) (v':=Bo true) F (congrArg Value.bool F) ?_));refine jT 8 [11,16,17,18,20] (aa 24 1511423) ?_;(refine jN (aa 24 1515519) 12 F ?_);(refine jN (aa 24 1523711) 13 F ?_);(refine jN (aa 24 1540095) 14 F ?_);(refine jN (aa 24 2064383) 19 F ?_);(refine jN (aa 24 2097151) 15 F ?_);(refine jN (aa 24 4194303) 21 F ?_);refine jT 1 [22] (aa 24 8388607) ?_;(refine jG (aa 24 16777215) 23 F (bJ F F F) ?_);refine jQ ?_))
   ·have hgl:=hgq.trans hle
    have hno : aW (rd (ah qs) n) t t' = none:=by
     rcases hF with h | h
     ·cases h
     ·exact h
    have hit2 : bP (ah qs) (rd (ah qs) n) t m last t' vs = none:=ec hno
    have cx_wb:=dG (G:=G1) (r:=r) (sc:=sc) (s:=t1) (l:=[125]) (b:=true) ⟨oM,by simp⟩
    rw [gU,i9,Bool.not_false] at cx_wb
    repeat' (first | refine jR ?_ | (refine jo ?_;first | refine aQ F ?_ | refine jC F F F ?_ | (refine ai F F F cx_wb F ?_;rintro _ _ rfl;dsimp only [zA,fA])))
    refine Nx.sealS (v:=.slice a vs.length cap) fun G2 hG2 hsl=>?_
    refine aR (vs:=[_]) F ⟨ay F F F F,trivial⟩ F sB ⟨hgl.trans hG2,.nd 82 [] 0 vs,⟨82,[],0,a,vs.length,cap⟩,t1,true,by rw [hso];rfl,db dC dC (fun h=>absurd h dC) rfl (by rw [hcl];exact hsl) (cd (hle.trans hG2) hreps),F,by simp only [List.length_cons];omega,fun h=>(by cases h),fun _=>⟨.inr (by rw [hR,hit,hit2];rfl),by rw [br];simp only [List.length_cons,List.length_nil];omega⟩⟩
   ·have hgl:=hgq.trans hle
    obtain ⟨kb,ko,kc,d,rfl,htg,hsd,hrd,hru⟩:=t5 hrep
    dsimp only [bG,VC.sl]
    have hsf1:=(hfv (fun h=>by rw [h] at hj;simp at hj)).2.mono hgl
    have hS1:=hS.mono hgl
    have cx_pr:=lq (G:=G1) u1.tot (Nat.le_refl _) oM hrd
    have hotl:=qq hrd
    have cx_of:=vA hS1 hW0 hsf1 hj (hkf _ (bh hj))
    have cx_wb:=dG (G:=G1) (r:=r) (sc:=sc) (s:=t1) (l:=[125]) (b:=true) ⟨oM,by simp⟩
    rw [gU,i9,Bool.not_false] at cx_wb
    by_cases hbrk : (ae t.fields j).tag ≤ last ∨ u1.out = bK (ah qs) (ae t.fields j)
    ·have hit2 : bP (ah qs) (rd (ah qs) n) t m last t' vs = none:=by
      cases b1 with
      | true=>exact ec (hbd F)
      | false=>rw [kH (hg rfl) oM,if_pos hbrk]
     by_cases hlast : (ae t.fields j).tag ≤ last
     ·repeat' (first | refine jR ?_ | (refine jo ?_;first | refine aQ F ?_ | refine jD F F F ?_ | refine jC F F F ?_ | (refine ai F F F cx_wb F ?_;rintro _ _ rfl;dsimp only [zA,fA])) | refine ab F F ?_ | (refine ak (ar (id:=9) _ (fun _ h=>h) aj ?_);refine jT 23 [0] (aa 24 1) ?_;(refine jG (aa 24 3) 1 F (cn F F) ?_);refine jT 21 [2] (aa 24 7) ?_;(try (refine Nx.re (d:=38) (v':=Bo false) F (congrArg Value.bool F) ?_));refine jT 17 [3,4,5,7] (aa 24 191) ?_;((refine jG (aa 24 255) 6 F (b7 F F aS ?_ F F) ?_;focus omega));refine jT 15 [8] (aa 24 511) ?_;(refine jG (aa 24 1023) 9 F (bm F F F) ?_);refine jT 13 [10] (aa 24 2047) ?_;(try (refine Nx.re (d:=46) (v':=Bo true) F (congrArg Value.bool (aD ‹_›)) ?_));refine jT 8 [11,16,17,18,20] (aa 24 1511423) ?_;(refine jN (aa 24 1515519) 12 F ?_);(refine jN (aa 24 1523711) 13 F ?_);(refine jN (aa 24 1540095) 14 F ?_);(refine jN (aa 24 2064383) 19 F ?_);(refine jN (aa 24 2097151) 15 F ?_);(refine jN (aa 24 4194303) 21 F ?_);refine jT 1 [22] (aa 24 8388607) ?_;(refine jG (aa 24 16777215) 23 F (bJ F F F) ?_);refine jQ ?_))
      refine Nx.sealS (v:=.slice a vs.length cap) fun G2 hG2 hsl=>?_
      refine aR (vs:=[_]) F ⟨ay F F F F,trivial⟩ F sB ⟨hgl.trans hG2,.nd 82 [] 0 vs,⟨82,[],0,a,vs.length,cap⟩,t1,true,by rw [hso];rfl,db dC dC (fun h=>absurd h dC) rfl (by rw [hcl];exact hsl) (cd (hle.trans hG2) hreps),F,by simp only [List.length_cons];omega,fun h=>(by cases h),fun _=>⟨.inr (by rw [hR,hit,hit2];rfl),by rw [br];simp only [List.length_cons,List.length_nil];omega⟩⟩
     ·have heq : u1.out = bK (ah qs) (ae t.fields j):=by
       rcases hbrk with h | h
       ·exact absurd h hlast
       ·exact h
      repeat' (first | refine jR ?_ | (refine jo ?_;first | refine aQ F ?_ | refine jD F F F ?_ | refine jC F F F ?_ | (refine ai F F F cx_wb F ?_;rintro _ _ rfl;dsimp only [zA,fA])) | refine ab F (aD ‹_›) ?_ | (refine ak (ar (id:=9) _ (fun _ h=>h) aj ?_);refine jT 23 [0] (aa 24 1) ?_;(refine jG (aa 24 3) 1 F (cn F F) ?_);refine jT 21 [2] (aa 24 7) ?_;(try (refine Nx.re (d:=38) (v':=Bo false) F (congrArg Value.bool F) ?_));refine jT 17 [3,4,5,7] (aa 24 191) ?_;((refine jG (aa 24 255) 6 F (b7 F F aS ?_ F F) ?_;focus omega));refine jT 15 [8] (aa 24 511) ?_;(refine jG (aa 24 1023) 9 F (bm F F F) ?_);refine jT 13 [10] (aa 24 2047) ?_;(try (refine Nx.re (d:=46) (v':=Bo false) F (congrArg Value.bool (aE ‹_›)) ?_));refine jT 8 [11,16,17,18,20] (aa 24 1511423) ?_;(refine jG (aa 24 1515519) 12 F (aC F F F) ?_);(refine jG (aa 24 1523711) 13 F (aT F F oM) ?_);((refine jG (aa 24 1540095) 14 F (dH F F aS ?_) ?_;(focus ((simp only [List.length_append,List.length_cons,List.length_nil,List.length_take];omega);done))));(refine jG (aa 24 2064383) 19 F (aC F F F) ?_);(refine jA 15 F ?_;(refine ac F F F cx_pr F ?_);refine jS (aa 24 2097151) ?_);(refine jA 21 F ?_;(refine ac F F F cx_of F ?_);refine jS (aa 24 4194303) ?_);refine jT 1 [22] (aa 24 8388607) ?_;(refine jG (aa 24 16777215) 23 F (bm F F F) ?_);refine jQ ?_))
      refine Nx.sealS (v:=.slice a vs.length cap) fun G2 hG2 hsl=>?_
      refine aR (vs:=[_]) F ⟨ay F F F F,trivial⟩ F sB ⟨hgl.trans hG2,.nd 82 [] 0 vs,⟨82,[],0,a,vs.length,cap⟩,t1,true,by rw [hso];rfl,db dC dC (fun h=>absurd h dC) rfl (by rw [hcl];exact hsl) (cd (hle.trans hG2) hreps),F,by simp only [List.length_cons];omega,fun h=>(by cases h),fun _=>⟨.inr (by rw [hR,hit,hit2];rfl),by rw [br];simp only [List.length_cons,List.length_nil];omega⟩⟩
    ·have hlast : ¬ (ae t.fields j).tag ≤ last:=fun h=>hbrk (.inl h)
     have heq : ¬ u1.out = bK (ah qs) (ae t.fields j):=fun h=>hbrk (.inr h)
     have hrow : ax bG cs ++ [U8 ((61 : Nat) : Int),S [],I (ae t.fields j).tag,.slice (some ⟨kb,ko,none⟩) 1 kc] = ax bG (cs ++ [⟨61,[],(ae t.fields j).tag,some ⟨kb,ko,none⟩,1,kc⟩]):=(b5 bG cs (⟨61,[],(ae t.fields j).tag,some ⟨kb,ko,none⟩,1,kc⟩ : VC)).symm
     have hr2 : V.reps G1 (vs ++ [.nd 61 [] (ae t.fields j).tag [u1]]) (cs ++ [⟨61,[],(ae t.fields j).tag,some ⟨kb,ko,none⟩,1,kc⟩]):=iV hrep (cd hle hreps)
     have hvl : (vs ++ [V.nd 61 [] (ae t.fields j).tag [u1]]).length = vs.length + 1:=by simp
     have htu : V.tots (vs ++ [V.nd 61 [] (ae t.fields j).tag [u1]]) = V.tots vs + (20 + u1.tot):=by simp [dW,V.tots,V.tot]
     cases b1 with
     | true =>
      have hit2 : bP (ah qs) (rd (ah qs) n) t m last t' vs = none:=ec (hbd rfl)
      have cx_tm:=im (G:=G1) (r:=r) (sc:=sc) (s:=t1) (l:=[44]) (b:=true) ⟨oM,by simp⟩
      rw [gU,i9] at cx_tm
      repeat' (first | refine jR ?_ | (refine jo ?_;first | refine al F ?_ | (refine jV (b7 F F aS ?_ F F) ?_;focus omega) | refine aQ F ?_ | refine jD F F F ?_ | refine jC F F F ?_ | refine jF fun _=>?_ | refine ci F F F F F F F F F oM fun _ _=>?_ | (refine ai F F F cx_wb F ?_;rintro _ _ rfl;dsimp only [zA,fA]) | (refine ai F F F cx_tm F ?_;rintro _ _ ⟨rfl,rfl⟩;dsimp only [zA,fA])) | refine ab F F ?_ | refine ad F (aE ‹_›) ?_ | (refine ak (ar (id:=9) _ (fun _ h=>h) aj ?_);refine jT 23 [0] (aa 24 1) ?_;(refine jG (aa 24 3) 1 F (cn F F) ?_);refine jT 21 [2] (aa 24 7) ?_;(try (refine Nx.re (d:=38) (v':=Bo false) F (congrArg Value.bool F) ?_));refine jT 17 [3,4,5,7] (aa 24 191) ?_;((refine jG (aa 24 255) 6 F (b7 F F aS ?_ F F) ?_;focus omega));refine jT 15 [8] (aa 24 511) ?_;(refine jG (aa 24 1023) 9 F (bm F F F) ?_);refine jT 13 [10] (aa 24 2047) ?_;(try (refine Nx.re (d:=46) (v':=Bo false) F (congrArg Value.bool (aE ‹_›)) ?_));refine jT 8 [11,16,17,18,20] (aa 24 1511423) ?_;(refine jG (aa 24 1515519) 12 F (aC F F F) ?_);(refine jG (aa 24 1523711) 13 F (aT F F oM) ?_);((refine jG (aa 24 1540095) 14 F (dH F F aS ?_) ?_;(focus ((simp only [List.length_append,List.length_cons,List.length_nil,List.length_take];omega);done))));(refine jG (aa 24 2064383) 19 F (aC F F F) ?_);(refine jA 15 F ?_;(refine ac F F F cx_pr F ?_);refine jS (aa 24 2097151) ?_);(refine jA 21 F ?_;(refine ac F F F cx_of F ?_);refine jS (aa 24 4194303) ?_);refine jT 1 [22] (aa 24 8388607) ?_;(refine jG (aa 24 16777215) 23 F (bm F F F) ?_);refine jQ ?_))
      rename_i _ y1 yc _
      rw [hrow]
      refine Nx.sealS (v:=.slice (some ⟨y1,0,none⟩) (vs.length + 1) yc) fun G2 hG2 hsl=>?_
      refine aR (vs:=[_]) F ⟨ay F F F F,trivial⟩ F sB ⟨hgl.trans hG2,.nd 82 [] 0 (vs ++ [.nd 61 [] (ae t.fields j).tag [u1]]),⟨82,[],0,some ⟨y1,0,none⟩,vs.length + 1,yc⟩,t1,true,by rw [hso];rfl,db dC dC (fun h=>absurd h dC) hvl.symm (by rw [List.length_append,List.length_singleton,hcl];exact hsl) (cd hG2 hr2),F,by simp only [List.length_cons];omega,fun h=>(by cases h),fun _=>⟨.inr (by rw [hR,hit,hit2];rfl),by rw [br,htu];simp only [List.length_cons,List.length_nil];omega⟩⟩
     | false =>
      have hst:=kH (ts:=ah qs) (vs:=vs) (last:=last) (m:=m) (hg rfl) oM
      rw [if_neg hbrk] at hst
      have cx_tm:=im (G:=G1) (r:=r) (sc:=sc) (s:=t1) (l:=[44]) (b:=false) ⟨oM,by simp⟩
      clear cx_wb
      have cx_wb:=dG (G:=G1) (r:=r) (sc:=sc) (s:=t1) (l:=[125]) (b:=false) ⟨oM,by simp⟩
      cases ht3 : cV [44] t1 false with
      | true =>
       obtain ⟨t2,rfl⟩:=fH.1 ht3
       rw [ht3,gv] at cx_tm
       simp only [List.length_cons] at htl hto
       dsimp only at hst
       rw [if_pos (show (44 : UInt8).toNat = 44 from rfl)] at hst
       have hlt : t2.length < m - 1:=oM
       repeat' (first | refine jR ?_ | (refine jo ?_;first | refine al F ?_ | (refine jV (b7 F F aS ?_ F F) ?_;focus omega) | refine aQ F ?_ | refine jD F F F ?_ | refine jF fun _=>?_ | refine ci F F F F F F F F F oM fun _ _=>?_ | (refine ai F F F cx_tm F ?_;rintro _ _ ⟨rfl,rfl⟩;dsimp only [zA,fA])) | (refine ad F (by first | rfl | (refine decide_eq_false ?_;(assumption))) ?_) | (refine ak (ar (id:=9) _ (fun _ h=>h) aj ?_);refine jT 23 [0] (aa 24 1) ?_;(refine jG (aa 24 3) 1 F (cn F F) ?_);refine jT 21 [2] (aa 24 7) ?_;(try (refine Nx.re (d:=38) (v':=Bo false) F (congrArg Value.bool F) ?_));refine jT 17 [3,4,5,7] (aa 24 191) ?_;((refine jG (aa 24 255) 6 F (b7 F F aS ?_ F F) ?_;focus omega));refine jT 15 [8] (aa 24 511) ?_;(refine jG (aa 24 1023) 9 F (bm F F F) ?_);refine jT 13 [10] (aa 24 2047) ?_;(try (refine Nx.re (d:=46) (v':=Bo false) F (congrArg Value.bool (aE ‹_›)) ?_));refine jT 8 [11,16,17,18,20] (aa 24 1511423) ?_;(refine jG (aa 24 1515519) 12 F (aC F F F) ?_);(refine jG (aa 24 1523711) 13 F (aT F F oM) ?_);((refine jG (aa 24 1540095) 14 F (dH F F aS ?_) ?_;(focus ((simp only [List.length_append,List.length_cons,List.length_nil,List.length_take];omega);done))));(refine jG (aa 24 2064383) 19 F (aC F F F) ?_);(refine jA 15 F ?_;(refine ac F F F cx_pr F ?_);refine jS (aa 24 2097151) ?_);(refine jA 21 F ?_;(refine ac F F F cx_of F ?_);refine jS (aa 24 4194303) ?_);refine jT 1 [22] (aa 24 8388607) ?_;(refine jG (aa 24 16777215) 23 F (bm F F F) ?_);refine jQ ?_))
       rename_i _ y1 yc
       rw [hrow]
       exact a7 (vs ++ [.nd 61 [] (ae t.fields j).tag [u1]],cs ++ [⟨61,[],(ae t.fields j).tag,some ⟨kb,ko,none⟩,1,kc⟩],some ⟨y1,0,none⟩,yc,t2,m - 1,(ae t.fields j).tag,G1) ⟨⟨hr2,hgl⟩,⟨by rw [hit,hst],hlt⟩,by dsimp only;omega,by dsimp only;omega⟩ (by dsimp only;omega) tU rfl (by rw [hvl];repeat (first | exact List.Sublist.refl _ | apply List.Sublist.cons_cons | apply List.Sublist.cons))
      | false =>
       rw [ht3,gH ht3] at cx_tm
       cases ht4 : cV [125] t1 false with
       | true =>
        obtain ⟨t2,rfl⟩:=fH.1 ht4
        rw [ht4,gv,Bool.not_true] at cx_wb
        simp only [List.length_cons] at htl hto
        dsimp only at hst
        rw [if_neg (show ¬ (125 : UInt8).toNat = 44 by decide),if_pos (show (125 : UInt8).toNat = 125 from rfl)] at hst
        have hit2:=hst
        repeat' (first | refine jR ?_ | (refine jo ?_;first | refine al F ?_ | (refine jV (b7 F F aS ?_ F F) ?_;focus omega) | refine aQ F ?_ | refine jD F F F ?_ | refine jC F F F ?_ | refine jF fun _=>?_ | refine ci F F F F F F F F F oM fun _ _=>?_ | (refine ai F F F cx_wb F ?_;rintro _ _ rfl;dsimp only [zA,fA]) | (refine ai F F F cx_tm F ?_;rintro _ _ ⟨rfl,rfl⟩;dsimp only [zA,fA])) | refine ab F F ?_ | refine ad F (aE ‹_›) ?_ | (refine ak (ar (id:=9) _ (fun _ h=>h) aj ?_);refine jT 23 [0] (aa 24 1) ?_;(refine jG (aa 24 3) 1 F (cn F F) ?_);refine jT 21 [2] (aa 24 7) ?_;(try (refine Nx.re (d:=38) (v':=Bo false) F (congrArg Value.bool F) ?_));refine jT 17 [3,4,5,7] (aa 24 191) ?_;((refine jG (aa 24 255) 6 F (b7 F F aS ?_ F F) ?_;focus omega));refine jT 15 [8] (aa 24 511) ?_;(refine jG (aa 24 1023) 9 F (bm F F F) ?_);refine jT 13 [10] (aa 24 2047) ?_;(try (refine Nx.re (d:=46) (v':=Bo false) F (congrArg Value.bool (aE ‹_›)) ?_));refine jT 8 [11,16,17,18,20] (aa 24 1511423) ?_;(refine jG (aa 24 1515519) 12 F (aC F F F) ?_);(refine jG (aa 24 1523711) 13 F (aT F F oM) ?_);((refine jG (aa 24 1540095) 14 F (dH F F aS ?_) ?_;(focus ((simp only [List.length_append,List.length_cons,List.length_nil,List.length_take];omega);done))));(refine jG (aa 24 2064383) 19 F (aC F F F) ?_);(refine jA 15 F ?_;(refine ac F F F cx_pr F ?_);refine jS (aa 24 2097151) ?_);(refine jA 21 F ?_;(refine ac F F F cx_of F ?_);refine jS (aa 24 4194303) ?_);refine jT 1 [22] (aa 24 8388607) ?_;(refine jG (aa 24 16777215) 23 F (bm F F F) ?_);refine jQ ?_))
        rename_i _ y1 yc _
        rw [hrow]
        refine Nx.sealS (v:=.slice (some ⟨y1,0,none⟩) (vs.length + 1) yc) fun G2 hG2 hsl=>?_
        refine aR (vs:=[_]) F ⟨ay F F F F,trivial⟩ F sB ⟨hgl.trans hG2,.nd 82 [] 0 (vs ++ [.nd 61 [] (ae t.fields j).tag [u1]]),⟨82,[],0,some ⟨y1,0,none⟩,vs.length + 1,yc⟩,t2,false,by rw [hso];rfl,db dC dC (fun h=>absurd h dC) hvl.symm (by rw [List.length_append,List.length_singleton,hcl];exact hsl) (cd hG2 hr2),F,by simp only [List.length_cons];omega,fun _=>⟨rfl,by rw [hR,hit,hit2];rfl⟩,fun h=>(by cases h)⟩
       | false =>
        rw [ht4,gH ht4,Bool.not_false] at cx_wb
        have hit2 : bP (ah qs) (rd (ah qs) n) t m last t' vs = none:=by
         rw [hst]
         cases t1 with
         | nil=>rfl
         | cons e t2 =>
          dsimp only
          rw [if_neg,if_neg]
          ·intro h
           exact ji ht4 t2 (by rw [show e = 125 from UInt8.toNat_inj.1 h])
          ·intro h
           exact ji ht3 t2 (by rw [show e = 44 from UInt8.toNat_inj.1 h])
        repeat' (first | refine jR ?_ | (refine jo ?_;first | refine al F ?_ | (refine jV (b7 F F aS ?_ F F) ?_;focus omega) | refine aQ F ?_ | refine jD F F F ?_ | refine jC F F F ?_ | refine jF fun _=>?_ | refine ci F F F F F F F F F oM fun _ _=>?_ | (refine ai F F F cx_wb F ?_;rintro _ _ rfl;dsimp only [zA,fA]) | (refine ai F F F cx_tm F ?_;rintro _ _ ⟨rfl,rfl⟩;dsimp only [zA,fA])) | refine ab F F ?_ | refine ad F (aE ‹_›) ?_ | (refine ak (ar (id:=9) _ (fun _ h=>h) aj ?_);refine jT 23 [0] (aa 24 1) ?_;(refine jG (aa 24 3) 1 F (cn F F) ?_);refine jT 21 [2] (aa 24 7) ?_;(try (refine Nx.re (d:=38) (v':=Bo false) F (congrArg Value.bool F) ?_));refine jT 17 [3,4,5,7] (aa 24 191) ?_;((refine jG (aa 24 255) 6 F (b7 F F aS ?_ F F) ?_;focus omega));refine jT 15 [8] (aa 24 511) ?_;(refine jG (aa 24 1023) 9 F (bm F F F) ?_);refine jT 13 [10] (aa 24 2047) ?_;(try (refine Nx.re (d:=46) (v':=Bo false) F (congrArg Value.bool (aE ‹_›)) ?_));refine jT 8 [11,16,17,18,20] (aa 24 1511423) ?_;(refine jG (aa 24 1515519) 12 F (aC F F F) ?_);(refine jG (aa 24 1523711) 13 F (aT F F oM) ?_);((refine jG (aa 24 1540095) 14 F (dH F F aS ?_) ?_;(focus ((simp only [List.length_append,List.length_cons,List.length_nil,List.length_take];omega);done))));(refine jG (aa 24 2064383) 19 F (aC F F F) ?_);(refine jA 15 F ?_;(refine ac F F F cx_pr F ?_);refine jS (aa 24 2097151) ?_);(refine jA 21 F ?_;(refine ac F F F cx_of F ?_);refine jS (aa 24 4194303) ?_);refine jT 1 [22] (aa 24 8388607) ?_;(refine jG (aa 24 16777215) 23 F (bm F F F) ?_);refine jQ ?_))
        rename_i _ y1 yc _
        rw [hrow]
        refine Nx.sealS (v:=.slice (some ⟨y1,0,none⟩) (vs.length + 1) yc) fun G2 hG2 hsl=>?_
        refine aR (vs:=[_]) F ⟨ay F F F F,trivial⟩ F sB ⟨hgl.trans hG2,.nd 82 [] 0 (vs ++ [.nd 61 [] (ae t.fields j).tag [u1]]),⟨82,[],0,some ⟨y1,0,none⟩,vs.length + 1,yc⟩,t1,true,by rw [hso];rfl,db dC dC (fun h=>absurd h dC) hvl.symm (by rw [List.length_append,List.length_singleton,hcl];exact hsl) (cd hG2 hr2),F,by simp only [List.length_cons];omega,fun h=>(by cases h),fun _=>⟨.inr (by rw [hR,hit,hit2];rfl),by rw [br,htu];simp only [List.length_cons,List.length_nil];omega⟩⟩
theorem lr {c : UInt8} {a b d : adE} : aG adD 134 [Ag [S (c :: a),S b,S d]] G (· = Ag [S a,S b,S d]):=by
 refine jE [(0,_)] Tryz.func134 Tryz.ntmps134 fun B hB=>?_
 repeat' (first | refine jX ?_ | (refine jo ?_;first | refine jO fun _=>?_ | refine jL fun _=>?_ | refine al F ?_ | refine aQ F ?_ | refine jD F F F ?_ | refine jC F F F ?_))
 refine jZ (vs:=[_]) F ⟨ay F F F F,trivial⟩ F ⟨F,F,?_⟩
 rfl
theorem gO {c : UInt8} {k : adE} (h : c.toNat = 91 ∨ c.toNat = 63) : sg (c :: k) = c :: sg k ∧ bs (c :: k) = bs k ∧ nm (c :: k) = nm k ∧ bo (c :: k) = bo k:=by
 have hc : bo (c :: k) = bo k:=by rw [bo,if_pos h]
 exact ⟨lb h,by unfold bs;rw [hc],by unfold nm;rw [hc],hc⟩
theorem dy {ts : List Ty} {c : UInt8} {k : adE} (hc : c.toNat = 91 ∨ c.toNat = 63) (h : aB ts (c :: k) = true) : aB ts k = true:=by
 unfold aB at h ⊢
 simp only [Bool.and_eq_true] at h ⊢
 obtain ⟨h1,h2⟩:=h
 refine ⟨?_,?_⟩
 ·unfold bC at h1 ⊢
  simp only [Bool.and_eq_true,decide_eq_true_eq,List.length_cons] at h1 ⊢
  refine ⟨oM,?_⟩
  have:=h1.2
  rw [d9,if_pos hc] at this
  exact this
 ·unfold eL at h2 ⊢
  rw [(gO hc).2.2.2] at h2
  exact h2
theorem r5 {ts : List Ty} {f : adE → adE → Option (V × adE)} {c : UInt8} {k s : adE} (hc : c.toNat = 91) : fe ts f (c :: k) s = fj (f k) s:=by
 unfold fe fj
 dsimp only
 rw [if_pos hc]
 cases s <;> rfl
theorem sW {r sc : Nat} {k s : adE} : cM adD 144 [Pt r 0,Ag [S (sg k),S (bs k),S (nm k)]] G [eh r sc s true] (fun v L'=>v = zP ∧ L' = [eh r sc s true]):=by
 refine jH [(0,_),(1,_)] Tryz.func144 Tryz.ntmps144 fun B hB hW=>?_
 repeat' (first | refine jR ?_ | (refine jo ?_;first | refine jO fun _=>?_ | refine jL fun _=>?_ | refine al F ?_ | refine jV (ao F F) ?_ | refine jC F F F ?_) | refine ab F F ?_)
 refine aR (vs:=[_]) F ⟨ay F F F F,trivial⟩ F sB ⟨F,F,F⟩
theorem cM.toM {P : Program} {f : FuncId} {args : List Value} {L : List Own} {R : Value → List Own → Prop} {R' : Value → Gh → List Own → Prop} (h : cM P f args G L R) (hr : ∀ v L',R v L' → R' v G L') : dD P f args G L R' :=
 Fn.mono h fun v G' L' h2=>⟨h2.1 ▸ Gh.le.refl _,h2.1 ▸ hr v L' h2.2⟩
theorem fZ : V.rep G (.nd 0 [] 0 []) ⟨0,[],0,none,0,0⟩:=bA dC dC
theorem abq {n r sc : Nat} {qs : List cC} {c : UInt8} {k s : adE} (hc : c = 63) (hV : nB n sc qs) (hS : ScI G sc qs) (hk : aB (ah qs) (c :: k) = true) (hs : s.length < n + 1 ∧ s.length ≤ 1000) :
  dD adD 144 [Pt r 0,Ag (c7 (c :: k))] G [eh r sc s false] (iJ (rd (ah qs) (n + 1) (c :: k)) r sc s false):=by
 subst hc
 have hk2:=dy (.inr rfl) hk
 obtain ⟨e1,e2,e3,_⟩:=gO (c:=63) (k:=k) (.inr rfl)
 have hrd : rd (ah qs) (n + 1) (63 :: k) s = match s with
   | []=>none
   | d :: s'=>if d.toNat = 45 then some (.nd 63 [] 0 [],s') else if d.toNat = 43 then (rd (ah qs) n k s').map fun x=>(.nd 63 [] 0 [x.1],x.2) else none:=by
  rw [rd];unfold fe
  dsimp only
  rw [if_neg (show ¬ (63 : UInt8).toNat = 91 by decide),if_pos (show (63 : UInt8).toNat = 63 from rfl)]
  cases s <;> rfl
 unfold c7
 rw [e1,e2,e3]
 have cx_sign:=@hJ G 63 (sg k) (bs k) (nm k)
 have cx_pt:=@lr G 63 (sg k) (bs k) (nm k)
 have cx_tk:=im (G:=G) (r:=r) (sc:=sc) (s:=s) (l:=[45]) (b:=false) ⟨oM,by simp⟩
 have cx_wa:=dG (G:=G) (r:=r) (sc:=sc) (s:=s) (l:=[43]) (b:=false) ⟨oM,by simp⟩
 cases ht : cV [45] s false with
 | true =>
  obtain ⟨s1,rfl⟩:=fH.1 ht
  rw [ht,gv] at cx_tk
  dsimp only at hrd
  rw [if_pos (show (45 : UInt8).toNat = 45 from rfl)] at hrd
  refine bT [(0,_),(1,_)] Tryz.func144 kR Tryz.ntmps144 F F tU fun B hB hW=>?_
  repeat' (first | refine jR ?_ | (refine jo ?_;first | refine jO fun _=>?_ | refine jL fun _=>?_ | refine al F ?_ | refine aQ F ?_ | refine jV (ao F F) ?_ | refine jC F F F ?_ | refine ac F F F cx_sign F ?_ | (refine ai F F F cx_tk F ?_;rintro _ _ ⟨rfl,rfl⟩;dsimp only [zA,fA])) | refine ab F F ?_ | refine ad F F ?_)
  refine aR (vs:=[_]) F ⟨ay F F F F,trivial⟩ F sB ⟨Gh.le.refl _,.nd 63 [] 0 [],⟨63,[],0,none,0,0⟩,s1,false,F,bA dC dC,F,by simp only [List.length_cons];omega,fun _=>⟨rfl,hrd⟩,fun h=>(by cases h)⟩
 | false =>
  rw [ht,gH ht] at cx_tk
  cases ht2 : cV [43] s false with
  | false =>
   rw [ht2,gH ht2,Bool.not_false] at cx_wa
   have hno : rd (ah qs) (n + 1) (63 :: k) s = none:=by
    rw [hrd]
    cases s with
    | nil=>rfl
    | cons d s' =>
     dsimp only
     rw [if_neg,if_neg]
     ·intro h;exact ji ht2 s' (by rw [show d = 43 from UInt8.toNat_inj.1 h])
     ·intro h;exact ji ht s' (by rw [show d = 45 from UInt8.toNat_inj.1 h])
   refine bT [(0,_),(1,_)] Tryz.func144 kR Tryz.ntmps144 F F tU fun B hB hW=>?_
   repeat' (first | refine jR ?_ | (refine jo ?_;first | refine jO fun _=>?_ | refine jL fun _=>?_ | refine al F ?_ | refine aQ F ?_ | refine ac F F F cx_sign F ?_ | refine ac F F F cx_pt F ?_ | (refine ai F F F cx_tk F ?_;rintro _ _ ⟨rfl,rfl⟩;dsimp only [zA,fA]) | (refine ai F F F cx_wa F ?_;rintro _ _ rfl;dsimp only [zA,fA])) | refine ab F F ?_ | refine ad F F ?_)
   refine jo ?_
   refine ai F F F sW F ?_
   rintro _ _ ⟨rfl,rfl⟩
   dsimp only [zA,fA]
   repeat' (first | refine jR ?_ | (refine jo ?_;first | refine jV (ao F F) ?_ | refine jC F F F ?_ | refine jF fun _=>?_))
   rename_i y
   refine Nx.sealC (b:=y) fun G2 hG2 hsy=>?_
   have hsl : bq G2 (.slice (some ⟨y,0,none⟩) 1 1) 4 ([⟨0,[],0,none,0,0⟩] : List VC).length (ax bG [⟨0,[],0,none,0,0⟩]):=⟨rfl,.inr ⟨y,0,1,rfl,Nat.le_refl _,hsy⟩⟩
   refine aR (vs:=[_]) F ⟨ay F F F F,trivial⟩ F sB ⟨hG2,.nd 63 [] 0 [.nd 0 [] 0 []],⟨63,[],0,some ⟨y,0,none⟩,1,1⟩,s,true,F,db dC dC (fun h=>absurd h dC) F hsl ⟨_,[],F,fZ,F⟩,F,Nat.le_refl _,fun h=>(by cases h),fun _=>⟨.inr hno,by simp only [V.tot,V.tots,List.length_nil];omega⟩⟩
  | true =>
   obtain ⟨s1,rfl⟩:=fH.1 ht2
   rw [ht2,gv,Bool.not_true] at cx_wa
   simp only [List.length_cons] at hs
   dsimp only at hrd
   rw [if_neg (show ¬ (43 : UInt8).toNat = 45 by decide),if_pos (show (43 : UInt8).toNat = 43 from rfl)] at hrd
   have cx_vl:=hV G r k s1 false hS hk2 oM oM
   refine bT [(0,_),(1,_)] Tryz.func144 kR Tryz.ntmps144 F F tU fun B hB hW=>?_
   repeat' (first | refine jR ?_ | (refine jo ?_;first | refine jO fun _=>?_ | refine jL fun _=>?_ | refine al F ?_ | refine aQ F ?_ | refine jV (ao F F) ?_ | refine jC F F F ?_ | refine jF fun _=>?_ | refine ac F F F cx_sign F ?_ | refine ac F F F cx_pt F ?_ | (refine ai F F F cx_tk F ?_;rintro _ _ ⟨rfl,rfl⟩;dsimp only [zA,fA]) | (refine ai F F F cx_wa F ?_;rintro _ _ rfl;dsimp only [zA,fA]) | (refine cY F F F cx_vl F ?_;rintro _ G1 _ hle ⟨u1,c1,t1,b1,rfl,hrep,rfl,hP⟩;dsimp only [zA,fA];skip)) | refine ab F F ?_ | refine ad F F ?_)
   rename_i y
   refine Nx.sealC (b:=y) fun G2 hG2 hsy=>?_
   have hsl : bq G2 (.slice (some ⟨y,0,none⟩) 1 1) 4 ([c1] : List VC).length (ax bG [c1]):=⟨rfl,.inr ⟨y,0,1,rfl,Nat.le_refl _,hsy⟩⟩
   obtain ⟨hPl,hP0,hP1⟩:=hP
   cases b1 with
   | false =>
    refine aR (vs:=[_]) F ⟨ay F F F F,trivial⟩ F sB ⟨hle.trans hG2,.nd 63 [] 0 [u1],⟨63,[],0,some ⟨y,0,none⟩,1,1⟩,t1,false,F,db dC dC (fun h=>absurd h dC) F hsl ⟨_,[],F,fz hG2 hrep,F⟩,F,by simp only [List.length_cons];omega,fun _=>⟨rfl,by rw [hrd,(hP0 rfl).2];rfl⟩,fun h=>(by cases h)⟩
   | true =>
    obtain ⟨hno,hto⟩:=hP1 rfl
    have hno2 : rd (ah qs) n k s1 = none:=by
     rcases hno with h | h
     ·cases h
     ·exact h
    refine aR (vs:=[_]) F ⟨ay F F F F,trivial⟩ F sB ⟨hle.trans hG2,.nd 63 [] 0 [u1],⟨63,[],0,some ⟨y,0,none⟩,1,1⟩,t1,true,F,db dC dC (fun h=>absurd h dC) F hsl ⟨_,[],F,fz hG2 hrep,F⟩,F,by simp only [List.length_cons];omega,fun h=>(by cases h),fun _=>⟨.inr (by rw [hrd,hno2];rfl),by simp only [V.tot,V.tots,List.length_nil,List.length_cons];omega⟩⟩
theorem abs {n r sc : Nat} {qs : List cC} {k s : adE} (hV : nB n sc qs) (hS : ScI G sc qs) (hk : aB (ah qs) (91 :: k) = true) (hs : s.length < n + 1 ∧ s.length ≤ 1000) :
  dD adD 144 [Pt r 0,Ag (c7 (91 :: k))] G [eh r sc s false] (iJ (rd (ah qs) (n + 1) (91 :: k)) r sc s false):=by
 have hk2:=dy (.inl rfl) hk
 obtain ⟨e1,e2,e3,_⟩:=gO (c:=91) (k:=k) (.inl rfl)
 have hrd : rd (ah qs) (n + 1) (91 :: k) s = fj (rd (ah qs) n k) s:=by rw [rd];exact r5 F
 unfold c7
 rw [e1,e2,e3]
 have cx_sign:=@hJ G 91 (sg k) (bs k) (nm k)
 have cx_pt:=@lr G 91 (sg k) (bs k) (nm k)
 have cx_li:=abF (G:=G) (r:=r) (b:=false) hV hS hk2 (s:=s) ⟨oM,oM⟩
 refine bT [(0,_),(1,_)] Tryz.func144 kR Tryz.ntmps144 F F tU fun B hB hW=>?_
 repeat' (first | refine jR ?_ | (refine jo ?_;first | refine jO fun _=>?_ | refine jL fun _=>?_ | refine al F ?_ | refine aQ F ?_ | refine jC F F F ?_ | refine ac F F F cx_sign F ?_ | refine ac F F F cx_pt F ?_ | (refine cY F F F cx_li F ?_;rintro _ G1 _ hle ⟨u1,c1,t1,b1,rfl,hrep,rfl,hP⟩;dsimp only [zA,fA];skip)) | refine ab F F ?_ | refine ad F F ?_)
 obtain ⟨hPl,hP0,hP1⟩:=hP
 refine aR (vs:=[_]) F ⟨ay F F F F,trivial⟩ F sB ⟨hle,u1,c1,t1,b1,F,hrep,F,hPl,fun h=>⟨F,by rw [hrd];exact (hP0 h).2⟩,fun h=>by rw [hrd];exact hP1 h⟩
theorem dK {ts : List Ty} {c : UInt8} {k : adE} (hk : aB ts (c :: k) = true) (h91 : ¬ (c.toNat = 91 ∨ c.toNat = 63)) (hr : aX ts (c :: k) = none) : c :: k = [110] ∨ c :: k = [116] ∨ c :: k = [102]:=by
 have hko:=cE hk
 have hcs:=eV (r:=k) h91
 have hrn : bH (bo (c :: k)) = none:=by
  cases hx : bH (bo (c :: k)) with
  | none=>rfl
  | some x =>
   obtain ⟨t,ht⟩:=m9 hk (by rw [hx];rfl)
   rw [hcs,hr] at ht;cases ht
 have h:=pb hko hrn
 have h64 : ¬ c.toNat = 64:=by
  intro h64
  rw [hcs] at hrn
  simp [bH,h64] at hrn
 have e : bs (c :: k) = c :: k:=by unfold bs;rw [hcs];simp [oo,h64]
 rwa [e] at h
theorem lH {ts : List Ty} {n : Nat} {s : adE} {c : UInt8} (hc : c = 110 ∨ c = 116 ∨ c = 102) (hr : aX ts [c] = none) : rd ts (n + 1) [c] s = if c = 110 then (cq 999999 s).map fun x=>(.nd 110 (a8 x.1) 0 [],x.2) else if c = 116 then dw s else er s:=by
 rw [rd];unfold fe
 dsimp only
 rcases hc with rfl | rfl | rfl <;> simp [hr]
theorem abr {n r sc : Nat} {qs : List cC} {s : adE} (hr : aX (ah qs) [110] = none) (hs : s.length ≤ 1000) :
  dD adD 144 [Pt r 0,Ag (c7 [110])] G [eh r sc s false] (iJ (rd (ah qs) (n + 1) [110]) r sc s false):=by
 have hrd:=lH (ts:=ah qs) (n:=n) (s:=s) (c:=110) (.inl rfl) hr
 rw [if_pos rfl] at hrd
 have cx_sign:=@dx G [110] []
 have cx_nu:=mh (G:=G) (r:=r) (sc:=sc) (s:=s) (b:=false) (top:=999999) oM
 have hwl:=d6 bc s
 show dD adD 144 [Pt r 0,Ag [S [],S [110],S []]] G [eh r sc s false] _
 refine bT [(0,_),(1,_)] Tryz.func144 kR Tryz.ntmps144 F F tU fun B hB hW=>?_
 repeat' (first | refine jR ?_ | (refine jo ?_;first | refine jO fun _=>?_ | refine jL fun _=>?_ | refine al F ?_ | refine aQ F ?_ | refine jV (ao F F) ?_ | refine jC F F F ?_ | refine ac F F F cx_sign F ?_ | (refine ai F F F cx_nu F ?_;rintro _ _ ⟨n1,rfl,⟨hn0,hn1⟩,hnum,rfl⟩;dsimp only [zA,fA]) | refine ac F F F (gu oM) F ?_) | refine ab F F ?_ | refine ad F F ?_)
 have hdl:=gq hn1
 cases hm : aM (s.takeWhile bc) 999999 with
 | none =>
  refine aR (vs:=[_]) F ⟨ay F F F F,trivial⟩ F sB ⟨Gh.le.refl _,.nd 110 (a8 n1) 0 [],⟨110,a8 n1,0,none,0,0⟩,s.dropWhile bc,true,F,bA dC dC,F,oM,fun h=>(by cases h),fun _=>⟨.inr (by rw [hrd];unfold cq;rw [hm];rfl),by simp only [V.tot,V.tots];omega⟩⟩
 | some m =>
  obtain rfl : n1 = m:=hnum m hm
  refine aR (vs:=[_]) F ⟨ay F F F F,trivial⟩ F sB ⟨Gh.le.refl _,.nd 110 (a8 n1) 0 [],⟨110,a8 n1,0,none,0,0⟩,s.dropWhile bc,false,F,bA dC dC,F,oM,fun _=>⟨F,by rw [hrd];unfold cq;rw [hm];rfl⟩,fun h=>(by cases h)⟩
theorem abp {n r sc : Nat} {qs : List cC} {s : adE} (hr : aX (ah qs) [116] = none) (hs : s.length ≤ 1000) :
  dD adD 144 [Pt r 0,Ag (c7 [116])] G [eh r sc s false] (iJ (rd (ah qs) (n + 1) [116]) r sc s false):=by
 have hrd:=lH (ts:=ah qs) (n:=n) (s:=s) (c:=116) (.inr (.inl rfl)) hr
 rw [if_neg dC,if_pos rfl] at hrd
 have cx_sign:=@dx G [116] []
 have cx_qu:=zW (G:=G) (r:=r) (sc:=sc) (s:=s) (b:=false) oM
 show dD adD 144 [Pt r 0,Ag [S [],S [116],S []]] G [eh r sc s false] _
 refine bT [(0,_),(1,_)] Tryz.func144 kR Tryz.ntmps144 F F tU fun B hB hW=>?_
 repeat' (first | refine jR ?_ | (refine jo ?_;first | refine jO fun _=>?_ | refine jL fun _=>?_ | refine al F ?_ | refine aQ F ?_ | refine jV (ao F F) ?_ | refine jC F F F ?_ | refine ac F F F cx_sign F ?_ | (refine ai F F F cx_qu F ?_;rintro _ _ ⟨x1,t1,b1,rfl,hQ,rfl⟩;dsimp only [zA,fA])) | refine ab F F ?_ | refine ad F F ?_)
 obtain ⟨hQl,hQ0,hQ1⟩:=hQ
 refine aR (vs:=[_]) F ⟨ay F F F F,trivial⟩ F sB ⟨Gh.le.refl _,.nd 116 x1 0 [],⟨116,x1,0,none,0,0⟩,t1,b1,F,bA dC dC,F,oM,fun h=>⟨F,by rw [hrd];exact (hQ0 h).2⟩,fun h=>⟨.inr (by rw [hrd];rcases hQ1 h with h | h;cases h;exact h),by simp only [V.tot,V.tots];omega⟩⟩
theorem abt {n r sc : Nat} {qs : List cC} {s : adE} (hr : aX (ah qs) [102] = none) (hs : s.length ≤ 1000) :
  dD adD 144 [Pt r 0,Ag (c7 [102])] G [eh r sc s false] (iJ (rd (ah qs) (n + 1) [102]) r sc s false):=by
 have hrd:=lH (ts:=ah qs) (n:=n) (s:=s) (c:=102) (.inr (.inr rfl)) hr
 rw [if_neg dC,if_neg dC] at hrd
 unfold er at hrd
 have cx_sign:=@dx G [102] []
 have cx_tk:=im (G:=G) (r:=r) (sc:=sc) (s:=s) (l:=[121,101,115]) (b:=false) ⟨oM,by simp⟩
 have cx_wa:=dG (G:=G) (r:=r) (sc:=sc) (s:=s) (l:=[110,111]) (b:=false) ⟨oM,by simp⟩
 have ey : ∀ l : adE,cV l s false = l.isPrefixOf s:=fun l=>by simp [cV]
 have el : ∀ l : adE,l.isPrefixOf s = true → s.length = l.length + (s.drop l.length).length:=fun l h=>by
  have:=qo h
  have h2:=congrArg List.length this
  rwa [List.length_append] at h2
 show dD adD 144 [Pt r 0,Ag [S [],S [102],S []]] G [eh r sc s false] _
 cases hy : ([121,101,115] : adE).isPrefixOf s with
 | true =>
  have hl : s.length = 3 + (s.drop 3).length:=el _ hy
  unfold d7 at cx_tk
  rw [ey,hy,if_pos rfl] at cx_tk
  rw [hy,if_pos rfl] at hrd
  refine bT [(0,_),(1,_)] Tryz.func144 kR Tryz.ntmps144 F F tU fun B hB hW=>?_
  repeat' (first | refine jR ?_ | (refine jo ?_;first | refine jO fun _=>?_ | refine jL fun _=>?_ | refine al F ?_ | refine aQ F ?_ | refine jV (ao F F) ?_ | refine jC F F F ?_ | refine ac F F F cx_sign F ?_ | (refine ai F F F cx_tk F ?_;rintro _ _ ⟨rfl,rfl⟩;dsimp only [zA,fA])) | refine ab F F ?_ | refine ad F F ?_)
  refine aR (vs:=[_]) F ⟨ay F F F F,trivial⟩ F sB ⟨Gh.le.refl _,.nd 102 [121,101,115] 0 [],⟨102,[121,101,115],0,none,0,0⟩,s.drop 3,false,F,bA dC dC,F,oM,fun _=>⟨F,hrd⟩,fun h=>(by cases h)⟩
 | false =>
  have h1 : cV [121,101,115] s false = false:=by rw [ey,hy]
  rw [h1,gH h1] at cx_tk
  rw [hy,if_neg dC] at hrd
  cases hno : ([110,111] : adE).isPrefixOf s with
  | true =>
   have hl : s.length = 2 + (s.drop 2).length:=el _ hno
   unfold d7 at cx_wa
   rw [ey,hno,if_pos rfl] at cx_wa
   rw [hno,if_pos rfl] at hrd
   refine bT [(0,_),(1,_)] Tryz.func144 kR Tryz.ntmps144 F F tU fun B hB hW=>?_
   repeat' (first | refine jR ?_ | (refine jo ?_;first | refine jO fun _=>?_ | refine jL fun _=>?_ | refine al F ?_ | refine aQ F ?_ | refine jV (ao F F) ?_ | refine jC F F F ?_ | refine ac F F F cx_sign F ?_ | (refine ai F F F cx_tk F ?_;rintro _ _ ⟨rfl,rfl⟩;dsimp only [zA,fA]) | (refine ai F F F cx_wa F ?_;rintro _ _ rfl;dsimp only [zA,fA])) | refine ab F F ?_ | refine ad F F ?_)
   refine aR (vs:=[_]) F ⟨ay F F F F,trivial⟩ F sB ⟨Gh.le.refl _,.nd 102 [110,111] 0 [],⟨102,[110,111],0,none,0,0⟩,s.drop 2,false,F,bA dC dC,F,oM,fun _=>⟨F,hrd⟩,fun h=>(by cases h)⟩
  | false =>
   have h2 : cV [110,111] s false = false:=by rw [ey,hno]
   rw [h2,gH h2,Bool.not_false] at cx_wa
   rw [hno,if_neg dC] at hrd
   refine bT [(0,_),(1,_)] Tryz.func144 kR Tryz.ntmps144 F F tU fun B hB hW=>?_
   repeat' (first | refine jR ?_ | (refine jo ?_;first | refine jO fun _=>?_ | refine jL fun _=>?_ | refine al F ?_ | refine aQ F ?_ | refine jV (ao F F) ?_ | refine jC F F F ?_ | refine ac F F F cx_sign F ?_ | (refine ai F F F cx_tk F ?_;rintro _ _ ⟨rfl,rfl⟩;dsimp only [zA,fA]) | (refine ai F F F cx_wa F ?_;rintro _ _ rfl;dsimp only [zA,fA])) | refine ab F F ?_ | refine ad F F ?_)
   refine aR (vs:=[_]) F ⟨ay F F F F,trivial⟩ F sB ⟨Gh.le.refl _,.nd 102 [110,111] 0 [],⟨102,[110,111],0,none,0,0⟩,s,true,F,bA dC dC,F,Nat.le_refl _,fun h=>(by cases h),fun _=>⟨.inr hrd,by simp only [V.tot,V.tots,List.length_cons,List.length_nil];omega⟩⟩
theorem abu {n r sc : Nat} {qs : List cC} {c : UInt8} {k s : adE} {t : Ty} (h91 : ¬ (c.toNat = 91 ∨ c.toNat = 63)) (hV : nB n sc qs) (hS : ScI G sc qs) (hw : SchW (ah qs)) (hk : aB (ah qs) (c :: k) = true) (hrf : aX (ah qs) (c :: k) = some t) (hs : s.length < n + 1 ∧ s.length ≤ 1000) :
  dD adD 144 [Pt r 0,Ag (c7 (c :: k))] G [eh r sc s false] (iJ (rd (ah qs) (n + 1) (c :: k)) r sc s false):=by
 have hko:=cE hk
 have hsg:=ju (r:=k) h91
 have hcs:=eV (r:=k) h91
 have hrn : (bH (bo (c :: k))).isSome = true:=by
  rw [hcs];unfold aX at hrf
  cases hx : bH (c :: k) with
  | none=>rw [hx] at hrf;cases hrf
  | some x=>rfl
 have hbs : bs (c :: k) = [64]:=(jr hko).2 hrn
 have hnm : bH (c :: k) = some (nm (c :: k)):=by
  unfold nm;rw [hcs] at hrn ⊢
  cases hx : bH (c :: k) with
  | none=>rw [hx] at hrn;cases hrn
  | some x=>rfl
 have hft : gD (ah qs) (nm (c :: k)) = some t:=by unfold aX at hrf;rw [hnm] at hrf;exact hrf
 have hkv:=gN qs (nm (c :: k))
 rw [← gQ] at hft
 rcases hfq : eK qs (nm (c :: k)) with _ | ⟨p,t'⟩
 ·rw [hfq] at hft;cases hft
 rw [hfq] at hft hkv
 dsimp only [Option.map_some] at hft hkv
 have htt : t' = t:=Option.some.inj hft
 subst htt
 have hqm:=gZ hfq
 have htm:=bi hrf
 have hW:=hw.ty t' htm
 have hT : i8 G p t':=hS.ty _ hqm
 obtain ⟨u,m,g1,g2,g3⟩:=hS.at'
 have hrd : rd (ah qs) (n + 1) (c :: k) s = be (ah qs) (rd (ah qs) n) t' s:=by
  rw [rd];unfold fe
  dsimp only
  rw [if_neg (fun h=>h91 (.inl h)),if_neg (fun h=>h91 (.inr h)),hrf]
 have cx_ot : dD adD 180 [Pt r 0,Pt p 0] G [eh r sc s false] (iJ (be (ah qs) (rd (ah qs) n) t') r sc s false):=by
  rcases hW.sort with h | h | h
  ·exact acL hV hS hw (fun d hd=>dk hw htm oM hd) hT hW h ⟨oM,oM⟩
  ·exact acK hV hS (fun d hd=>dk hw htm oM hd) hT hW h ⟨oM,oM⟩
  ·exact acM hT hW h ⟨oM,oM⟩
 have cx_sign:=@dx G [64] (nm (c :: k))
 unfold c7
 rw [hsg,hbs]
 clear hft hfq hnm hrn hcs
 refine bT [(0,_),(1,_)] Tryz.func144 kR Tryz.ntmps144 F F tU fun B hB hW=>?_
 repeat' (first | refine jR ?_ | (refine jo ?_;first | refine jO fun _=>?_ | refine jL fun _=>?_ | refine al F ?_ | refine aQ F ?_ | refine ac F F F cx_sign F ?_) | refine ad F F ?_)
 rename_i x3 x4
 (refine ak (ar (id:=21) [.blk x3 (.cells (List.toArray [S [],S [64],S (nm (c :: k))]) e9 (0,0))] (by intro y hy;simp only [List.mem_cons,List.not_mem_nil,or_false] at hy ⊢;simp [hy]) aj ?_);refine jW 8 [0,1,2,3,8] (aa 13 271) ?_;(refine jG (aa 13 783) 9 F (aC F F F) ?_);refine jA 4 F ?_;(refine al F ?_);refine jK (aa 13 799) ?_;refine jW 4 [5,6] (aa 13 895) ?_;(refine jG (aa 13 1023) 7 F (an F F aS F F) ?_);((refine jG (aa 13 2047) 10 F (cg F F (d5 aS) aS F) ?_));refine jA 11 F ?_;(refine cY F F F cx_ot F ?_;rintro _ G1 _ hle ⟨u1,c1,t1,b1,rfl,hrep,rfl,hP⟩;dsimp only [zA,fA];skip);refine jK (aa 13 4095) ?_;refine jA 12 F ?_;(refine jC F F F ?_);refine jK (aa 13 8191) ?_;refine jQ ?_)
 all_goals repeat' (refine jR ?_)
 all_goals (obtain ⟨hPl,hP0,hP1⟩:=hP)
 all_goals refine aR (vs:=[_]) F ⟨ay F F F F,trivial⟩ F sB ⟨hle,u1,c1,t1,b1,F,hrep,F,hPl,fun h=>⟨F,by rw [hrd];exact (hP0 h).2⟩,fun h=>by rw [hrd];exact hP1 h⟩
theorem rR {sc : Nat} {qs : List cC} (hw : SchW (ah qs)) : ∀ n,nB n sc qs
 | 0=>fun G r k s b _ _ h _=>absurd h (Nat.not_lt_zero _)
 | n + 1=>fun G r k s b hS hk hn hs=>by
  have hV:=rR (sc:=sc) hw n
  cases b with
  | true =>
   exact sW.toM fun v L' ⟨h1,h2⟩=>⟨.nd 0 [] 0 [],⟨0,[],0,none,0,0⟩,s,true,h1,fZ,h2,Nat.le_refl _,fun h=>(by cases h),fun _=>⟨.inl F,by simp only [V.tot,V.tots,List.length_nil];omega⟩⟩
  | false =>
   match k,hk with
   | [],hk=>cases hk
   | c :: k,hk =>
    by_cases h1 : c.toNat = 91
    ·obtain rfl:=bn h1 dC
     exact abs hV hS hk ⟨hn,hs⟩
    by_cases h2 : c.toNat = 63
    ·obtain rfl:=bn h2 dC
     exact abq F hV hS hk ⟨hn,hs⟩
    have h91 : ¬ (c.toNat = 91 ∨ c.toNat = 63):=fun h=>by rcases h with h | h <;> omega
    cases hr : aX (ah qs) (c :: k) with
    | some t=>exact abu h91 hV hS hw hk hr ⟨hn,hs⟩
    | none =>
     rcases dK hk h91 hr with e | e | e
     ·rw [e] at hr ⊢;exact abr hr hs
     ·rw [e] at hr ⊢;exact abp hr hs
     ·rw [e] at hr ⊢;exact abt hr hs
end Go.E
