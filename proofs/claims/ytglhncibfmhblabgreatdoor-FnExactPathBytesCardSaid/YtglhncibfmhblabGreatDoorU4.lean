/- Contracts and plain laws that the statement rests on, part 4. Conditions: as each says. -/
import Derived.Test.YtglhncibfmhblabGreatDoorU3
set_option linter.unusedVariables false
set_option linter.unusedSimpArgs false
namespace Go.E
set_option maxRecDepth 20000
set_option maxHeartbeats 2000000
open Go.Proofs
variable {G : Gh}
theorem fU (vs : List bZ) (k : ac1) : (eQ vs k).map (·.2) = aT (af vs) k:=by
 unfold eQ aT
 cases bz k with
 | none=>rfl
 | some n=>simp only [Option.bind_some];exact r7 vs n
theorem fK {vs : List bZ} {k : ac1} {x : bZ} (h : eQ vs k = some x) : x ∈ vs:=by
 unfold eQ at h
 cases hr : bz k with
 | none=>rw [hr] at h;cases h
 | some n=>rw [hr] at h;exact (vP h).1
theorem cH {s : ac1} (h : bA s = true) : ep s = true ∧ s.length ≤ 12:=by
 unfold bA at h;simp only [Bool.and_eq_true,decide_eq_true_eq] at h;exact ⟨h.2,h.1⟩
theorem abe {u : Value} {vs : List bZ} {x0 : bZ} (h : SchR G u vs) (hn : vs.length ≤ 1000) (hw : ∀ x ∈ vs,TyW x.2) (hx : x0 ∈ vs) :
  aC ac0 148 [u,Ag (jk x0)] G (· = Bo (bQ (af vs) (vs.length + 1) x0.2)):=by
 have hsl:=h.sl
 refine jE [(0,_),(1,_)] Tryz.func148 Tryz.ntmps148 fun B hB=>?_
 repeat' (first | refine jR ?_ | (refine jo ?_;refine jO fun _=>?_))
 rename_i b0
 refine aR (ι:=bZ × Nat) (fun i=>i.1 ∈ vs ∧ i.2 ≤ vs.length + 1 ∧ bQ (af vs) (vs.length + 1 - i.2) i.1.2 = bQ (af vs) (vs.length + 1) x0.2) (fun i=>[(0,u),(3,Pt b0 0),(5,I i.2)]) (fun _=>G) (fun i=>[.blk b0 (.cells (jk i.1).toArray qv (0,0))]) (fun i=>vs.length + 1 - i.2) (x0,0) ?_ tU F aW (fun i Hi=>?_)
 ·exact ⟨hx,Nat.zero_le _,F⟩
 obtain ⟨⟨⟨a,ca⟩,t⟩,n⟩:=i
 dsimp only at Hi ⊢
 obtain ⟨hxm,hnl,he⟩:=Hi
 have hW:=hw _ hxm
 dsimp only at hW
 by_cases hlt : n ≤ vs.length
 case neg =>
  have e0 : vs.length + 1 - n = 0:=oM
  rw [e0] at he
  repeat' (first | refine jR ?_ | (refine jo ?_;refine jV (fN F aS) ?_) | refine ad F (aA oM) ?_)
  refine jY (vs:=[_]) ?_
  rw [← he];rfl
 obtain ⟨m,hm⟩ : ∃ m,vs.length + 1 - n = m + 1:=⟨vs.length - n,oM⟩
 rw [hm,bQ] at he
 by_cases hU : t.sort = 85
 case neg =>
  rw [if_pos hU] at he
  repeat' (first | refine jR ?_ | (refine jo ?_;first | refine jV (fN F aS) ?_ | refine ak F ?_) | (refine ac F ?_ ?_;(focus ((first | (refine decide_eq_true ?_;(omega)) | (simp;omega));done))))
  refine jY (vs:=[_]) ?_
  rw [← he];rfl
 rw [if_neg (by simp [hU])] at he
 have hne:=hW.ne oM
 have h0 : 0 < t.fields.length:=List.length_pos_iff.2 hne
 obtain ⟨bf,of,cf,ef,hsf⟩:=(h.fl _ hxm).expl h0
 simp only [gJ,Value.slice.injEq] at ef
 obtain ⟨rfl,-,rfl⟩:=ef
 dsimp only at hsf
 have hk0 : fG t = (ae t.fields 0).kind:=by
  unfold fG ae
  cases t.fields with
  | nil=>rfl
  | cons f r=>rfl
 have hkk:=cH ((hW.fld _ (bB h0)).kind oM)
 rw [hk0] at he
 have href:=fU vs (ae t.fields 0).kind
 have cx_rf:=kx (k:=(ae t.fields 0).kind) h oM hkk.1 oM
 rcases hr : eQ vs (ae t.fields 0).kind with _ | ⟨⟨a2,c2⟩,t2⟩
 ·rw [hr] at href cx_rf
  rw [← href] at he
  repeat' (first | refine jR ?_ | (refine jo ?_;first | refine jV (fN F aS) ?_ | refine ak F ?_ | (refine jV (b9 F F aS ?_ F F) ?_;focus omega) | refine jV (ay F F oM) ?_ | refine jL fun _=>?_ | refine jC F F F ?_ | refine ab F F F cx_rf F ?_) | (refine ac F (by first | rfl | (refine decide_eq_true ?_;(omega))) ?_) | (refine ad F ?_ ?_;(focus ((simp [*];done);done))))
  all_goals refine jY (vs:=[_]) ?_
  all_goals (rw [← he];rfl)
 ·rw [hr] at href cx_rf
  rw [← href] at he
  repeat' (first | refine jM ?_ | (refine jo ?_;first | refine jV (fN F aS) ?_ | refine ak F ?_ | (refine jV (b9 F F aS ?_ F F) ?_;focus omega) | refine aN F ?_ | refine jV (ay F F oM) ?_ | refine jL fun _=>?_ | refine jC F F F ?_ | refine ab F F F cx_rf F ?_) | refine ac F (ar oM) ?_ | (refine ad F ?_ ?_;(focus ((first | rfl | (simp [*];done));done))))
  refine aX (((a2,c2),t2),n + 1) ⟨fK hr,by dsimp only;omega,?_⟩ (by dsimp only;omega) tU rfl sB
  dsimp only
  rw [show vs.length + 1 - (n + 1) = m by omega]
  exact he
theorem pO (vs : List bZ) : (af vs).length = vs.length:=by simp [af]
theorem kS {vs : List bZ} {i : Nat} (h : i < vs.length) : ae (af vs) i = (ae vs i).2:=by
 rw [aP h,aP (by rw [pO];exact h)];simp [af]
theorem qT {vs : List bZ} {k : ac1} : ew (af vs) k = (!(bz (bj k)).isSome || (fH vs ((bz (bj k)).getD [])).isSome):=by
 unfold ew
 cases bz (bj k) with
 | none=>rfl
 | some n =>
  show (gn (af vs) n).isSome = _
  rw [← r7];simp
theorem jx {k : ac1} (h : ep k = true) : ep (bj k) = true:=by
 induction k with
 | nil=>cases h
 | cons c r ih =>
  unfold bj
  split
  ·rename_i hc;rw [ep,if_pos hc] at h;exact ih h
  ·exact h
theorem ku : ∀ s : ac1,(bj s).length ≤ s.length
 | []=>Nat.le_refl _
 | c :: r=>by
  unfold bj
  split
  ·have:=ku r;simp;omega
  ·exact Nat.le_refl _
theorem yZ {u : Value} {vs : List bZ} (h : SchR G u vs) (hn : vs.length ≤ 1000) (hw : ∀ x ∈ vs,TyW x.2) :
    aC ac0 106 [u] G (· = Bo (decide (iH (af vs)))):=by
  have hsl:=h.sl
  have hlen:=pO vs
  refine jE [(0,_)] Tryz.func106 Tryz.ntmps106 fun B hB=>?_
  repeat' (refine jR ?_)
  refine aR (ι:=Nat) (fun i=>i ≤ vs.length ∧ ∀ j,j < i → k3 (af vs) j ∧ it (af vs) (ae (af vs) j)) (fun i=>[(0,u),(3,I i)]) (fun _=>G) (fun i=>[]) (fun i=>vs.length - i) 0 ?_ tU F aW (fun i Hi=>?_)
  · exact ⟨Nat.zero_le _,fun j hj=>absurd hj oM⟩
  by_cases hi : i < vs.length
  case neg =>
    have ei : i = vs.length:=oM
    subst ei
    have Hall:=Hi.2
    repeat' (first | refine jR ?_ | (refine jo ?_;refine jV (fN F aS) ?_) | refine ad F (aA oM) ?_)
    refine aR (ι:=Nat) (fun i=>i ≤ vs.length ∧ ∀ j,j < i → bQ (af vs) ((af vs).length + 1) (ae (af vs) j) = true) (fun i=>[(0,u),(10,I i)]) (fun _=>G) (fun i=>[]) (fun i=>vs.length - i) 0 ?_ tU F aW (fun i Hi=>?_)
    · exact ⟨Nat.zero_le _,fun j hj=>absurd hj oM⟩
    by_cases hi : i < vs.length
    · obtain ⟨b,o,cap,rfl,hs⟩:=hsl.expl oM
      have hm:=bB hi
      have cx_en:=abe h hn hw hm
      by_cases he : bQ (af vs) (vs.length + 1) (ae vs i).2 = true
      · have he2 : (!bQ (af vs) (vs.length + 1) (ae vs i).2) = false:=by rw [he];rfl
        repeat' (first | refine jM ?_ | (refine jo ?_;first | refine jV (al F) ?_ | refine jV (ay F F oM) ?_ | (refine jV (dY F F aS ?_) ?_;focus omega) | refine ab F F F cx_en F ?_) | refine ac F (ar oM) ?_ | refine ad F ‹_› ?_)
        refine aX (i + 1) ⟨oM,fun j hj=>?_⟩ oM tU F aW
        rcases Nat.lt_or_ge j i with h3 | h3
        · exact Hi.2 j h3
        · have : j = i:=oM
          subst this;rw [hlen,kS hi];exact he
      · have he2 : (!bQ (af vs) (vs.length + 1) (ae vs i).2) = true:=by simpa using he
        repeat' (first | refine jR ?_ | (refine jo ?_;first | refine jV (al F) ?_ | refine jV (ay F F oM) ?_ | (refine jV (dY F F aS ?_) ?_;focus omega) | refine ab F F F cx_en F ?_) | (refine ac F (by first | assumption | (refine decide_eq_true ?_;(omega))) ?_))
        refine jY (vs:=[_]) ?_
        refine congrArg Bo (decide_eq_false fun hv=>he ?_).symm
        have:=hv.2 i oM
        rwa [hlen,kS hi] at this
    · repeat' (first | refine jR ?_ | (refine jo ?_;refine jV (fN F aS) ?_) | refine ad F (aA oM) ?_)
      refine jY (vs:=[_]) ?_
      exact congrArg Bo (decide_eq_true ⟨fun j hj=>Hall j oM,fun j hj=>Hi.2 j oM⟩).symm
  obtain ⟨b,o,cap,rfl,hs⟩:=hsl.expl oM
  rcases hxi : ae vs i with ⟨⟨a,ca⟩,t⟩
  have hm : ((a,ca),t) ∈ vs:=by rw [← hxi];exact bB hi
  have hW:=hw _ hm
  dsimp only at hW
  have hti : ae (af vs) i = t:=by rw [kS hi,hxi]
  have hE1 : (((a,ca),t) : bZ).2.sort = t.sort:=rfl
  have hE2 : (((a,ca),t) : bZ).2.fields.length = t.fields.length:=rfl
  have h8:=hW.len
  have hfl:=h.fl _ hm
  repeat' (first | refine jR ?_ | (refine jo ?_;refine jV (al F) ?_) | refine ac F (ar oM) ?_)
  refine aR (ι:=Nat) (fun k=>k ≤ i ∧ ∀ j,j < k → (ae (af vs) j).name ≠ (ae (af vs) i).name) (fun k=>[(0,.slice (some ⟨b,o,none⟩) vs.length cap),(3,I i),(4,I k)]) (fun _=>G) (fun k=>[]) (fun k=>i - k) 0 ?_ tU F aW (fun k Hk=>?_)
  · exact ⟨Nat.zero_le _,fun j hj=>absurd hj oM⟩
  by_cases hk : k < i
  · have hkv : k < vs.length:=oM
    by_cases hnm : (ae vs k).2.name = t.name
    · repeat' (first | refine jR ?_ | (refine ac F (by refine decide_eq_true ?_;first | assumption | omega) ?_) | (refine ai (am (id:=7) _ (fun _ h=>h) ah ?_);refine jT 7 [0,1,5,6] (aa 11 99) ?_;(refine jG (aa 11 103) 2 F (ay F F oM) ?_);refine jT 5 [3] (aa 11 111) ?_;((refine jG (aa 11 127) 4 F (b9 F F aS ?_ F F) ?_;focus omega));(refine jG (aa 11 255) 7 F (ay F F oM) ?_);refine jT 2 [8] (aa 11 511) ?_;((refine jG (aa 11 1023) 9 F (je F F aS ?_ aS F F) ?_;focus omega));refine jT 0 [10] (aa 11 2047) ?_;refine jQ ?_))
      refine jY (vs:=[_]) ?_
      refine congrArg Bo (decide_eq_false fun hv=>?_).symm
      have:=(hv.1 i oM).1 k hk
      rw [kS hkv,hti] at this
      exact this hnm
    · repeat' (first | refine jM ?_ | refine ac F (ar oM) ?_ | refine ad F (aA ‹_›) ?_ | (refine ai (am (id:=7) _ (fun _ h=>h) ah ?_);refine jT 7 [0,1,5,6] (aa 11 99) ?_;(refine jG (aa 11 103) 2 F (ay F F oM) ?_);refine jT 5 [3] (aa 11 111) ?_;((refine jG (aa 11 127) 4 F (b9 F F aS ?_ F F) ?_;focus omega));(refine jG (aa 11 255) 7 F (ay F F oM) ?_);refine jT 2 [8] (aa 11 511) ?_;((refine jG (aa 11 1023) 9 F (je F F aS ?_ aS F F) ?_;focus omega));refine jT 0 [10] (aa 11 2047) ?_;refine jQ ?_))
      refine aX (k + 1) ⟨oM,fun j hj=>?_⟩ oM tU F aW
      rcases Nat.lt_or_ge j k with h3 | h3
      · exact Hk.2 j h3
      · have : j = k:=oM
        subst this;rw [kS hkv,hti];exact hnm
  have hna : k3 (af vs) i:=fun j hj=>Hk.2 j oM
  repeat' (first | refine jR ?_ | refine ad F (aA oM) ?_)
  refine aR (ι:=Nat) (fun k=>(t.sort = 69 ∨ ∀ j,j < k → ew (af vs) (ae t.fields j).kind = true) ∧ k ≤ t.fields.length) (fun k=>[(0,.slice (some ⟨b,o,none⟩) vs.length cap),(3,I i),(5,I k)]) (fun _=>G) (fun k=>[]) (fun k=>t.fields.length - k) 0 ?_ tU F aW (fun k Hk=>?_)
  · exact ⟨.inr fun j hj=>absurd hj oM,Nat.zero_le _⟩
  by_cases hk : k < t.fields.length ∧ t.sort ≠ 69
  case neg =>
    have hko : it (af vs) (ae (af vs) i):=by
      rw [hti]
      by_cases h69 : t.sort = 69
      · exact .inl h69
      · refine .inr fun j hj=>?_
        rcases Hk.1 with h3 | h3
        · exact absurd h3 h69
        · exact h3 j oM
    repeat' (first | refine jM ?_ | (refine jo ?_;first | refine jV (al F) ?_ | refine jV (ay F F oM) ?_ | (refine jV (je F F aS ?_ aS F F) ?_;focus omega) | refine aH F ?_ | refine aw F ?_) | refine eD F F (fun _=>?_) (fun _=>?_) | (refine ad F (by first | rfl | (refine decide_eq_false ?_;(omega))) ?_))
    all_goals refine aX (i + 1) ⟨oM,fun j hj=>?_⟩ oM tU F aW
    all_goals (rcases Nat.lt_or_ge j i with h3 | h3;· exact Hi.2 j h3)
    all_goals (have : j = i:=by omega)
    all_goals (subst this;exact ⟨hna,hko⟩)
  obtain ⟨hk1,hk2⟩:=hk
  obtain ⟨bf,of,cf,ef,hsf⟩:=hfl.expl (by dsimp only;omega)
  simp only [gJ,Value.slice.injEq] at ef
  obtain ⟨rfl,-,rfl⟩:=ef
  dsimp only at hsf
  have hE1 : (((some ⟨bf,of,none⟩,ca),t) : bZ).2.sort = t.sort:=rfl
  have hE2 : (((some ⟨bf,of,none⟩,ca),t) : bZ).2.fields.length = t.fields.length:=rfl
  have hkk:=cH ((hW.fld _ (bB hk1)).kind hk2)
  have hkk1:=hkk.1
  have hcl:=ku (ae t.fields k).kind
  have cx_ref : aC ac0 80 [S (bj (ae t.fields k).kind)] G (· = Tu [S ((bz (bj (ae t.fields k).kind)).getD []),Bo (bz (bj (ae t.fields k).kind)).isSome]):=lV (jx hkk1) oM
  have hhas:=qT (vs:=vs) (k:=(ae t.fields k).kind)
  repeat' (first | refine jM ?_ | (refine jo ?_;first | refine jV (al F) ?_ | refine jV (ay F F oM) ?_ | (refine jV (je F F aS ?_ aS F F) ?_;focus omega) | (refine jV (b9 F F aS ?_ F F) ?_;focus omega) | refine aH F ?_ | refine aw F ?_ | refine jL fun _=>?_ | refine jC F F F ?_ | (refine ab F F F (sC (by (repeat (assumption));done)) rfl ?_) | refine ab F F F cx_ref F ?_ | (refine ab F F F (sH (by (repeat (assumption));done) oM) rfl ?_)) | refine ax F F (ar oM) ?_ | refine mG F F (fun _=>?_) (fun _=>?_) | refine ac F (ar oM) ?_ | refine ad F F ?_ | refine oc F (fun _=>?_) (fun _=>?_))
  all_goals first
    | (rename_i h1 h2
       have hK : ew (af vs) (ae t.fields k).kind = false:=by rw [hhas,h1];simpa using h2
       refine jY (vs:=[_]) ?_
       refine congrArg Bo (decide_eq_false fun hv=>?_).symm
       have h5:=(hv.1 i oM).2
       rw [hti] at h5
       rcases h5 with h3 | h3
       · exact hk2 h3
       · have h6:=h3 k hk1
         rw [hK] at h6;cases h6)
    | (have hK : ew (af vs) (ae t.fields k).kind = true:=by rw [hhas];simp_all
       refine aX (k + 1) ⟨.inr fun j hj=>?_,oM⟩ oM tU F (by repeat (exact List.nil_sublist _))
       rcases Nat.lt_or_ge j k with h3 | h3
       · rcases Hk.1 with h4 | h4
         · exact absurd h4 hk2
         · exact h4 j h3
       · have : j = k:=oM
         subst this;exact hK)
theorem gU : ∀ {xs : List ac1} {ts : List Ty} {x : ac1},bW xs = some ts → bW (xs ++ [x]) = (c9 x).map (fun t=>ts ++ [t])
 | [],ts,x,h=>by
  simp only [bW,Option.some.injEq] at h;subst h
  simp only [List.nil_append,bW]
  cases c9 x <;> rfl
 | y :: xs,ts,x,h=>by
  unfold bW at h
  rw [List.cons_append,bW]
  cases hy : c9 y with
  | none=>rw [hy] at h;cases h
  | some t =>
   rw [hy] at h
   dsimp only at h ⊢
   cases hr : bW xs with
   | none=>rw [hr] at h;cases h
   | some us =>
    rw [hr] at h
    simp only [Option.map_some,Option.some.injEq] at h;subst h
    rw [gU hr]
    cases c9 x <;> rfl
theorem gp : ∀ {xs ys : List ac1},bW xs = none → bW (xs ++ ys) = none
 | [],ys,h=>by cases h
 | y :: xs,ys,h=>by
  unfold bW at h
  rw [List.cons_append,bW]
  cases hy : c9 y with
  | none=>rfl
  | some t =>
   rw [hy] at h
   dsimp only at h ⊢
   cases hr : bW xs with
   | none=>rw [gp hr];rfl
   | some us=>rw [hr] at h;cases h
def sX (s : ac1) (v : Value) (G : Gh) : Prop:=∃ u vs,v = Tu [u,Bo (aO s).isSome] ∧ SchR G u vs ∧ vs.length ≤ 8 ∧ ∀ ts,aO s = some ts → af vs = ts
theorem SchR.nil : SchR G aJ []:=⟨bR.nil0,by simp⟩
theorem wk {s : ac1} {k : Nat} (h : s.length ≤ 100000000) : bi ac0 55 [S s,U8 k] G (fun v G'=>∃ b o cap,v = .slice (some ⟨b,o,none⟩) (aV k s).length cap ∧ cE G' b o (aI dz (aV k s))):=by
 refine (oG (G:=G) (k:=k) h).mono ?_
 rintro v G' L' ⟨h1,h2,h3⟩
 obtain ⟨b,o,cap,rfl,hs⟩:=h3.expl dL
 exact ⟨h1,h2,b,o,cap,F,hs⟩
theorem rj {s : ac1} (h : s.length ≤ 1000) : bi ac0 105 [S s] G (fun v G'=>∃ (x : bZ) (ok : Bool),v = Tu [Ag [U8 x.2.sort,S x.2.name,.slice x.1.1 x.2.fields.length x.1.2],Bo ok] ∧ (c9 s = if ok = true then some x.2 else none) ∧ bR G' (gJ x) 4 x.2.fields.length (aI gC x.2.fields)):=by
 refine (sy (G:=G) h).mono ?_
 rintro v G' L' ⟨h1,h2,fv,t,ok,rfl,h3,h4⟩
 obtain ⟨a,cap,rfl⟩:=h4.sl
 exact ⟨h1,h2,((a,cap),t),ok,F,h3,h4⟩
theorem zt {s : ac1} (h : s.length ≤ 10000000) (hb : ¬ (s.length ≤ 400 ∧ (aV 10 s).length ≤ 9 ∧ ae (aV 10 s) ((aV 10 s).length - 1) = [])) (hno : aO s = none) : bi ac0 78 [S s] G (sX s):=by
 have hpos:=dL (k:=10) (s:=s)
 have hcnt:=gO (k:=10) (s:=s)
 have cx_cutE:=wk (G:=G) (s:=s) (k:=10) oM
 generalize aV 10 s = xs at *
 have e1 : (((xs.length : Nat) : Int) - 1).toNat = xs.length - 1:=oM
 refine jB [(0,_)] Tryz.func78 Tryz.ntmps78 fun B hok hB hW=>?_
 by_cases h1 : s.length ≤ 400
 case neg =>
  repeat' (first | refine jR ?_ | (refine jo ?_;first | refine aH F ?_ | (refine aK F F F cx_cutE F ?_;rintro _ G hle ⟨b1,o1,cap1,rfl,hseg⟩;skip)) | (refine ax F F (by first | rfl | (refine decide_eq_true ?_;(omega))) ?_) | refine ac F F ?_)
  all_goals refine jZ (vs:=[_,_]) F ⟨F,F,trivial⟩ F ⟨hle,F,?_⟩
  all_goals exact ⟨aJ,[],by rw [hno];rfl,SchR.nil,by simp,fun ts h=>by rw [hno] at h;cases h⟩
 by_cases h2 : xs.length ≤ 9
 case neg =>
  repeat' (first | refine jR ?_ | (refine jo ?_;first | refine jV (al F) ?_ | refine aH F ?_ | refine aw F ?_ | (refine aK F F F cx_cutE F ?_;rintro _ G hle ⟨b1,o1,cap1,rfl,hseg⟩;skip)) | refine ax F F (ar oM) ?_ | refine aj F F (aA oM) ?_ | refine ac F F ?_)
  all_goals refine jZ (vs:=[_,_]) F ⟨F,F,trivial⟩ F ⟨hle,F,?_⟩
  all_goals exact ⟨aJ,[],by rw [hno];rfl,SchR.nil,by simp,fun ts h=>by rw [hno] at h;cases h⟩
 have h3 : ¬ ae xs (((xs.length : Nat) : Int) - 1).toNat = []:=by rw [e1];exact fun h=>hb ⟨h1,h2,h⟩
 clear hb
 repeat' (first | refine jM ?_ | (refine jo ?_;first | refine jV (al F) ?_ | refine aw F ?_ | refine jV (be F F oM) ?_ | (refine jV (eS F F aS ?_) ?_;focus omega) | (refine aK F F F cx_cutE F ?_;rintro _ G hle ⟨b1,o1,cap1,rfl,hseg⟩;skip)) | refine aj F F (aA oM) ?_ | refine ac F (ar ‹_›) ?_)
 all_goals refine jZ (vs:=[_,_]) F ⟨F,F,trivial⟩ F ⟨hle,F,?_⟩
 all_goals exact ⟨aJ,[],by rw [hno];rfl,SchR.nil,by simp,fun ts h=>by rw [hno] at h;cases h⟩
theorem zr {s : ac1} (h : s.length ≤ 400) (h2 : (aV 10 s).length ≤ 9) (h3 : ae (aV 10 s) ((aV 10 s).length - 1) = []) (hsc : aO s = match bW ((aV 10 s).take ((aV 10 s).length - 1)) with
    | some ts=>if iH ts then some ts else none
    | none=>none) : bi ac0 78 [S s] G (sX s):=by
  have hpos:=dL (k:=10) (s:=s)
  have hall : ∀ y ∈ aV 10 s,y.length ≤ s.length:=fun y hy=>c7 hy
  have cx_cutE:=wk (G:=G) (s:=s) (k:=10) oM
  generalize aV 10 s = xs at *
  have e1 : (((xs.length : Nat) : Int) - 1).toNat = xs.length - 1:=oM
  have h4 : ae xs (((xs.length : Nat) : Int) - 1).toNat = []:=by rw [e1];exact h3
  have h5 : ¬ ae xs (((xs.length : Nat) : Int) - 1).toNat ≠ []:=fun h=>h h4
  clear e1 h3 h4
  refine jB [(0,_)] Tryz.func78 Tryz.ntmps78 fun B hok hB hW=>?_
  repeat' (first | refine jM ?_ | (refine jo ?_;first | refine jV (al F) ?_ | refine aw F ?_ | refine jV (be F F oM) ?_ | (refine jV (eS F F aS ?_) ?_;focus omega) | refine jF fun _=>?_ | (refine aK F F F cx_cutE F ?_;rintro _ G hle ⟨b1,o1,cap1,rfl,hseg⟩;skip)) | refine aj F F (aA oM) ?_ | refine ad F (aA ‹_›) ?_)
  rename_i x0
  refine Nx.blkAcc (m:=0) (sz:=3) .here F ?_
  refine aR (ι:=Value × List bZ × Nat × Gh) (fun i=>((i.2.2.1 + 1 ≤ xs.length ∧ i.2.1.length = i.2.2.1) ∧ bW (xs.take i.2.2.1) = some (af i.2.1)) ∧ (∀ y ∈ i.2.1,bR i.2.2.2 (gJ y) 4 y.2.fields.length (aI gC y.2.fields)) ∧ Gh.le G i.2.2.2) (fun i=>[(4,.slice (some ⟨b1,o1,none⟩) xs.length cap1),(5,i.1),(6,I i.2.2.1)]) (fun i=>i.2.2.2) (fun i=>[.acc i.1 qv 3 i.2.1.length (aI jk i.2.1)]) (fun i=>xs.length - i.2.2.1) (.slice (some ⟨x0,0,none⟩) 0 0,[],0,G) ?_ tU F aW (fun i Hi=>?_)
  · exact ⟨⟨⟨by dsimp only;omega,rfl⟩,rfl⟩,by simp,Gh.le.refl _⟩
  obtain ⟨u,vs,i,Gk⟩:=i
  dsimp only at Hi ⊢
  obtain ⟨⟨⟨hi1,hi2⟩,hty⟩,hfs,hgk⟩:=Hi
  have hsk:=hseg.mono hgk
  have hle0:=hle
  by_cases hix : i + 1 < xs.length
  case neg =>
    have ei : i = xs.length - 1:=oM
    rw [← ei,hty] at hsc
    dsimp only at hsc
    refine Nx.sealS (v:=u) fun G1 hle1 hsl=>?_
    have hS : SchR G1 u vs:=⟨hsl,fun x hx=>(hfs x hx).mono hle1⟩
    have hw : ∀ x ∈ vs,TyW x.2:=fun x hx=>(iy hty).1 x.2 (show x.2 ∈ vs.map (fun y=>y.2) from List.mem_map_of_mem hx)
    have cx_val:=yZ hS oM hw
    repeat' (first | refine jM ?_ | (refine jo ?_;first | refine jV (al F) ?_ | refine ab F F F cx_val F ?_) | refine ad F (aA oM) ?_)
    all_goals refine jZ (vs:=[_,_]) F ⟨F,F,trivial⟩ F ⟨(hle0.trans hgk).trans hle1,F,?_⟩
    all_goals refine ⟨u,vs,?_,hS,oM,fun ts h=>?_⟩
    · rw [hsc,dS]
      by_cases hv : iH (af vs)
      · rw [if_pos hv,decide_eq_true hv];rfl
      · rw [if_neg hv,decide_eq_false hv];rfl
    · rw [hsc] at h
      split at h
      · exact Option.some.inj h
      · cases h
  have hx2 : (ae xs i).length ≤ 1000:=by have:=hall _ (bB (show i < xs.length by omega));omega
  have hsn:=gU (x:=ae xs i) hty
  rw [← d4 oM] at hsn
  repeat' (first | refine jM ?_ | (refine jo ?_;first | refine jV (al F) ?_ | refine jV (ay F F oM) ?_ | refine aN F ?_ | (refine jV (eS F F aS ?_) ?_;focus omega) | refine jF fun _=>?_ | refine jL fun _=>?_ | refine jC F F F ?_ | refine cQ F F F F F F F F F oM fun _ _=>?_ | (refine aK F F F (rj oM) F ?_;rintro _ G hle ⟨x,ok,rfl,htyp,hfl⟩;skip)) | refine ac F (ar oM) ?_ | refine oc F (fun _=>?_) (fun _=>?_))
  all_goals first
    | (rename_i hq
       have hq2 : ok = false:=by simpa using hq
       subst hq2
       have hf0 : c9 (ae xs i) = none:=htyp
       have hno : aO s = none:=by
         rw [hf0] at hsn
         have e2 : xs.take (xs.length - 1) = xs.take (i + 1) ++ (xs.take (xs.length - 1)).drop (i + 1):=by
           have:=List.take_append_drop (i + 1) (xs.take (xs.length - 1))
           rw [List.take_take,Nat.min_eq_left oM] at this
           exact this.symm
         rw [hsc,e2,gp hsn]
       refine jZ (vs:=[_,_]) F ⟨F,F,trivial⟩ F ⟨(hle0.trans hgk).trans hle,F,?_⟩
       exact ⟨aJ,[],by rw [hno];rfl,SchR.nil,by simp,fun ts h=>by rw [hno] at h;cases h⟩)
    | (rename_i z hq w b2 c2
       have hq2 : ok = true:=by simpa using hq
       subst hq2
       have hf1 : c9 (ae xs i) = some x.2:=htyp
       rw [hf1] at hsn
       have e3 : aI jk vs ++ [U8 x.2.sort,S x.2.name,.slice x.1.1 x.2.fields.length x.1.2] = aI jk (vs ++ [x]):=(cB jk vs x).symm
       refine aX (.slice (some ⟨b2,0,none⟩) (vs.length + 1) c2,vs ++ [x],i + 1,G) ⟨⟨⟨by dsimp only;omega,by simp;omega⟩,?_⟩,?_,hgk.trans hle⟩ (by dsimp only;omega) tU rfl (by dsimp only;rw [e3];simp only [List.length_append,List.length_cons,List.length_nil,Nat.zero_add];repeat (first | exact List.nil_sublist _ | apply List.Sublist.cons_cons))
       · dsimp only;rw [hsn];simp [af]
       · intro y hy
         rcases List.mem_append.1 hy with hy | hy
         · exact (hfs y hy).mono hle
         · simp only [List.mem_singleton] at hy;subst hy;exact hfl)
theorem sA {s : ac1} (h : s.length ≤ 10000000) : bi ac0 78 [S s] G (sX s):=by
 have hpos:=dL (k:=10) (s:=s)
 have hlast : (aV 10 s).getLastD [] = ae (aV 10 s) ((aV 10 s).length - 1):=by
  rw [aP oM,List.getLastD_eq_getLast?,List.getLast?_eq_getElem?]
  rw [List.getElem?_eq_getElem oM];rfl
 by_cases hc : s.length ≤ 400 ∧ (aV 10 s).length ≤ 9 ∧ ae (aV 10 s) ((aV 10 s).length - 1) = []
 ·refine zr hc.1 hc.2.1 hc.2.2 ?_
  unfold aO
  rw [hlast,if_pos hc,List.dropLast_eq_take]
  (rfl)
 ·refine zt h hc ?_
  unfold aO
  rw [hlast,if_neg hc]
def cP (s k : ac1) : Bool:=match aO s with
 | some ts=>aE ts k
 | none=>false
def xy (s k : ac1) (v : Value) (G : Gh) : Prop:=∃ u vs,v = Tu [u,Bo (cP s k)] ∧ SchR G u vs ∧ vs.length ≤ 8 ∧ ∀ ts,aO s = some ts → aE ts k = true → af vs = ts
theorem oF {s k : ac1} (h : s.length ≤ 10000000) (hk : k.length ≤ 10000000) : bi ac0 51 [S s,S k] G (xy s k):=by
  cases hs : aO s with
  | none =>
    have hno : cP s k = false:=by unfold cP;rw [hs]
    have e1 : (!(aO s).isSome) = true:=by rw [hs];rfl
    refine jB [(0,_),(1,_)] Tryz.func51 Tryz.ntmps51 fun B hok hB hW=>?_
    repeat' (first | refine jR ?_ | (refine jo ?_;first | refine aH F ?_ | (refine aK F F F (sA oM) F ?_;rintro _ G hle ⟨u,vs,rfl,hsch,hvl,hvs⟩;skip)) | refine ax F F ‹_› ?_ | refine ac F F ?_)
    all_goals refine jZ (vs:=[_,_]) F ⟨F,F,trivial⟩ F ⟨hle,F,?_⟩
    all_goals exact ⟨aJ,[],by rw [hno];rfl,SchR.nil,by simp,fun ts h=>by rw [hs] at h;cases h⟩
  | some ts =>
    have e1 : (!(aO s).isSome) = false:=by rw [hs];rfl
    by_cases hko : bA k = true
    case neg =>
      have hno : cP s k = false:=by unfold cP aE;rw [hs];simp [hko]
      have e2 : (!bA k) = true:=by simpa using hko
      refine jB [(0,_),(1,_)] Tryz.func51 Tryz.ntmps51 fun B hok hB hW=>?_
      repeat' (first | refine jR ?_ | (refine jo ?_;first | refine aw F ?_ | (refine aK F F F (sA oM) F ?_;rintro _ G hle ⟨u,vs,rfl,hsch,hvl,hvs⟩;skip) | refine ab F F F mY F ?_) | refine aj F F ‹_› ?_ | refine ac F ‹_› ?_)
      all_goals refine jZ (vs:=[_,_]) F ⟨F,F,trivial⟩ F ⟨hle,F,?_⟩
      all_goals exact ⟨aJ,[],by rw [hno];rfl,SchR.nil,by simp,fun ts h1 h2=>by unfold aE at h2;simp [hko] at h2⟩
    have e2 : (!bA k) = false:=by rw [hko];rfl
    have hkk:=cH hko
    have hkk1:=hkk.1
    have hcl:=ku k
    have cx_rf2 : ∀ G,aC ac0 80 [S (bj k)] G (· = Tu [S ((bz (bj k)).getD []),Bo (bz (bj k)).isSome]):=fun G=>lV (jx hkk1) oM
    refine jB [(0,_),(1,_)] Tryz.func51 Tryz.ntmps51 fun B hok hB hW=>?_
    repeat' (first | refine jR ?_ | (refine jo ?_;first | refine aH F ?_ | refine aw F ?_ | refine jL fun _=>?_ | refine jC F F F ?_ | (refine aK F F F (sA oM) F ?_;rintro _ G hle ⟨u,vs,rfl,hsch,hvl,hvs⟩;skip) | refine ab F F F mY F ?_ | (refine ab F F F (sC (by (repeat (assumption));done)) rfl ?_) | refine ab F F F (cx_rf2 _) F ?_ | (refine ab F F F (sH (by (repeat (assumption));done) oM) rfl ?_)) | refine aj F F ‹_› ?_ | refine mG F F (fun _=>?_) (fun _=>?_) | refine ad F ‹_› ?_)
    all_goals rename_i hq
    all_goals refine jZ (vs:=[_,_]) F ⟨F,F,trivial⟩ F ⟨hle,F,?_⟩
    all_goals have hks : cP s k = (!(bz (bj k)).isSome || (fH vs ((bz (bj k)).getD [])).isSome) := by
                unfold cP aE
                rw [hs]
                dsimp only
                rw [hko,Bool.true_and,← hvs ts hs,qT]
    all_goals exact ⟨u,vs,by rw [hks,hq];rfl,hsch,hvl,fun ts' h1 _=>hvs ts' h1⟩
abbrev co:=Nat × Ty
def tA (q : co) : List Value:=[Pt q.1 0]
instance : RowF tA 1:=⟨fun _=>rfl⟩
def gX (qs : List co) : List (ac1 × Value):=qs.map fun q=>(q.2.name,Pt q.1 0)
def ag (qs : List co) : List Ty:=qs.map (·.2)
def en (qs : List co) (n : ac1) : Option co:=qs.find? fun q=>decide (n = q.2.name)
theorem gz (qs : List co) (n : ac1) : l6 (gX qs) n = (en qs n).map fun q=>Pt q.1 0:=by
 unfold l6 gX en
 induction qs with
 | nil=>rfl
 | cons q qs ih =>
  simp only [List.map_cons,List.find?_cons]
  by_cases h : n = q.2.name
  ·simp [h]
  ·simp only [h,decide_false];exact ih
theorem gD (qs : List co) (n : ac1) : (en qs n).map (·.2) = gn (ag qs) n:=by
 unfold en gn ag
 induction qs with
 | nil=>rfl
 | cons q qs ih =>
  simp only [List.map_cons,List.find?_cons]
  by_cases h : n = q.2.name
  ·simp [h]
  ·have h2 : ¬ q.2.name = n:=fun e=>h e.symm
   simp only [h,h2,decide_false];exact ih
theorem gM {qs : List co} {n : ac1} {q : co} (h : en qs n = some q) : q ∈ qs:=List.mem_of_find?_eq_some h
structure ScI (G : Gh) (b : Nat) (qs : List co) : Prop where
 at' : ∃ u m,cE G b 0 [u,.map (some m)] ∧ bR G u 1 qs.length (aI tA qs) ∧ G m = some (.ex (eL (gX qs)))
 ty : ∀ q ∈ qs,iI G q.1 q.2
theorem ScI.mono {G G' : Gh} {b : Nat} {qs : List co} (h : ScI G b qs) (hl : Gh.le G G') : ScI G' b qs:=by
 obtain ⟨u,m,h1,h2,h3⟩:=h.at'
 exact ⟨⟨u,m,h1.mono hl,h2.mono hl,hl _ _ h3⟩,fun q hq=>(h.ty q hq).mono hl⟩
theorem i5 {k : ac1} (h : bA k = true) : bs k = [64] ↔ (bz (bj k)).isSome = true:=by
 have hk:=jx (cH h).1
 unfold bs
 cases hc : bj k with
 | nil=>rw [hc] at hk;cases hk
 | cons c r =>
  unfold nP bz
  by_cases h64 : c.toNat = 64
  ·simp [h64]
  ·simp only [h64,if_false]
   constructor
   ·intro e;simp only [List.cons.injEq] at e;exact absurd (by rw [e.1];rfl) h64
   ·intro e;cases e
theorem uS {b : Nat} {qs : List co} {k : ac1} (h : ScI G b qs) (hk : bA k = true) : aC ac0 92 [Pt b 0,Ag [S (sg k),S (bs k),S (nm k)]] G (· = Bo (ew (ag qs) k)):=by
 obtain ⟨u,m,h1,h2,h3⟩:=h.at'
 have hat:=i5 hk
 rcases hr : bz (bj k) with _ | n
 ·have hb : ¬ bs k = [64]:=by rw [hat,hr];simp
  have e : ew (ag qs) k = true:=by unfold ew;rw [hr]
  clear hat hr
  rw [e]
  refine jE [(0,_),(1,_)] Tryz.func92 Tryz.ntmps92 fun B hB=>?_
  repeat' (first | refine jR ?_ | (refine jo ?_;refine jO fun _=>?_) | (refine ai (am (id:=1) _ (fun _ h=>h) ah ?_);refine jT 13 [0] (aa 14 1) ?_;(refine jG (aa 14 3) 1 F (aD F F F) ?_);refine jT 10 [2,3] (aa 14 15) ?_;(try (refine Nx.re (d:=8) (v':=Bo true) F (congrArg Value.bool (ar ‹_›)) ?_));refine jT 6 [4,5,6,8] (aa 14 383) ?_;(refine jN (aa 14 511) 7 F ?_);(refine jN (aa 14 1023) 9 F ?_);(refine jN (aa 14 2047) 10 F ?_);(refine jN (aa 14 4095) 11 F ?_);(refine jG (aa 14 8191) 12 F (bD F F F) ?_);refine jT 0 [13] (aa 14 16383) ?_;refine jQ ?_))
  all_goals refine jY (vs:=[_]) ?_
  all_goals rfl
 ·have hb : ¬ (bs k ≠ [64]):=fun h=>h (by rw [hat,hr];rfl)
  have hn : nm k = n:=by unfold nm;rw [hr];rfl
  have e : ew (ag qs) k = (en qs (nm k)).isSome:=by unfold ew;rw [hr,hn];dsimp only;rw [← gD];simp
  rw [e]
  clear hat hr hn e
  have hkv:=gz qs (nm k)
  cases hf : en qs (nm k) with
  | none =>
   rw [hf] at hkv
   dsimp only [Option.map_none] at hkv
   refine jE [(0,_),(1,_)] Tryz.func92 Tryz.ntmps92 fun B hB=>?_
   repeat' (first | refine jR ?_ | (refine jo ?_;refine jO fun _=>?_) | (refine ai (am (id:=1) _ (fun _ h=>h) ah ?_);refine jT 13 [0] (aa 14 1) ?_;(refine jG (aa 14 3) 1 F (aD F F F) ?_);refine jT 10 [2,3] (aa 14 15) ?_;(try (refine Nx.re (d:=8) (v':=Bo false) F (congrArg Value.bool (aA ‹_›)) ?_));refine jT 6 [4,5,6,8] (aa 14 383) ?_;(refine jG (aa 14 511) 7 F (ao F F aS F F) ?_);(refine jG (aa 14 1023) 9 F (aD F F F) ?_);((refine jG (aa 14 2047) 10 F (bY F F (dO aS) aS F) ?_));(refine jG (aa 14 4095) 11 F (gZ F F) ?_);(refine jG (aa 14 8191) 12 F (bc F F F) ?_);refine jT 0 [13] (aa 14 16383) ?_;refine jQ ?_))
   all_goals refine jY (vs:=[_]) ?_
   all_goals rfl
  | some q =>
   rw [hf] at hkv
   dsimp only [Option.map_some] at hkv
   refine jE [(0,_),(1,_)] Tryz.func92 Tryz.ntmps92 fun B hB=>?_
   repeat' (first | refine jR ?_ | (refine jo ?_;refine jO fun _=>?_) | (refine ai (am (id:=1) _ (fun _ h=>h) ah ?_);refine jT 13 [0] (aa 14 1) ?_;(refine jG (aa 14 3) 1 F (aD F F F) ?_);refine jT 10 [2,3] (aa 14 15) ?_;(try (refine Nx.re (d:=8) (v':=Bo false) F (congrArg Value.bool (aA ‹_›)) ?_));refine jT 6 [4,5,6,8] (aa 14 383) ?_;(refine jG (aa 14 511) 7 F (ao F F aS F F) ?_);(refine jG (aa 14 1023) 9 F (aD F F F) ?_);((refine jG (aa 14 2047) 10 F (bY F F (dO aS) aS F) ?_));(refine jG (aa 14 4095) 11 F (gZ F F) ?_);(refine jG (aa 14 8191) 12 F (bc F F F) ?_);refine jT 0 [13] (aa 14 16383) ?_;refine jQ ?_))
   all_goals refine jY (vs:=[_]) ?_
   all_goals rfl
theorem yn {k : ac1} (h : bA k = true) : bz k = if sg k = [] ∧ bs k = [64] then some (nm k) else none:=by
 have hat:=i5 h
 match k,h with
 | c :: r,h =>
  by_cases h1 : c.toNat = 91 ∨ c.toNat = 63
  ·have hs : ¬ (sg (c :: r) = [] ∧ bs (c :: r) = [64]):=by
    rintro ⟨e,_⟩
    unfold sg at e
    rw [bj,if_pos h1] at e
    have:=lO r
    have e2:=congrArg List.length e
    simp only [List.length_take,List.length_cons,List.length_nil] at e2
    omega
   rw [if_neg hs]
   simp only [bz]
   rw [if_neg oM]
  ·have hc : bj (c :: r) = c :: r:=by rw [bj,if_neg h1]
   have hs : sg (c :: r) = []:=by unfold sg;rw [hc];simp
   have hn : nm (c :: r) = (bz (c :: r)).getD []:=by unfold nm;rw [hc]
   rw [hc] at hat
   rw [hn,hs]
   cases hr : bz (c :: r) with
   | none=>rw [hr] at hat;rw [if_neg];rintro ⟨_,e⟩;have:=hat.1 e;cases this
   | some n=>rw [hr] at hat;rw [if_pos ⟨rfl,hat.2 rfl⟩];rfl
theorem zw {b : Nat} {qs : List co} {q0 : co} (h : ScI G b qs) (hw : ∀ q ∈ qs,TyW q.2) (hk : ∀ q ∈ qs,it (ag qs) q.2) (hq : q0 ∈ qs) :
  aC ac0 118 [Pt b 0,Pt q0.1 0] G (· = Bo (bQ (ag qs) 9 q0.2)):=by
 obtain ⟨u,m,h1,h2,h3⟩:=h.at'
 refine jE [(0,_),(1,_)] Tryz.func118 Tryz.ntmps118 fun B hB=>?_
 repeat' (refine jR ?_)
 refine aR (ι:=co × Nat) (fun i=>i.1 ∈ qs ∧ i.2 ≤ 9 ∧ bQ (ag qs) (9 - i.2) i.1.2 = bQ (ag qs) 9 q0.2) (fun i=>[(0,Pt b 0),(1,Pt i.1.1 0),(6,I i.2)]) (fun _=>G) (fun i=>[]) (fun i=>9 - i.2) (q0,0) ?_ tU F aW (fun i Hi=>?_)
 ·exact ⟨hq,Nat.zero_le _,F⟩
 obtain ⟨⟨p,t⟩,i⟩:=i
 dsimp only at Hi ⊢
 obtain ⟨hqm,hi9,he⟩:=Hi
 have hW:=hw _ hqm
 obtain ⟨fv,ln,hsg,hfv⟩:=h.ty _ hqm
 dsimp only at hW hsg hfv
 by_cases hlt : i < 9
 case neg =>
  have e0 : 9 - i = 0:=oM
  rw [e0] at he
  repeat' (first | refine jR ?_ | refine ad F (aA oM) ?_)
  refine jY (vs:=[_]) ?_
  rw [← he];rfl
 obtain ⟨j,hj⟩ : ∃ j,9 - i = j + 1:=⟨8 - i,oM⟩
 rw [hj,bQ] at he
 by_cases hU : t.sort = 85
 case neg =>
  rw [if_pos hU] at he
  repeat' (first | refine jR ?_ | (refine jo ?_;refine jV (ao F F aS F F) ?_) | refine ac F (ar oM) ?_)
  refine jY (vs:=[_]) ?_
  rw [← he];rfl
 rw [if_neg (by simp [hU])] at he
 have hne:=hW.ne oM
 have h0 : 0 < t.fields.length:=List.length_pos_iff.2 hne
 obtain ⟨bf,of,cf,rfl,hsf⟩:=hfv.expl h0
 have hk0 : fG t = (ae t.fields 0).kind:=by
  unfold fG ae
  cases t.fields with
  | nil=>rfl
  | cons f r=>rfl
 have hko:=(hW.fld _ (bB h0)).kind oM
 have hrs:=yn hko
 have hhas : ew (ag qs) (ae t.fields 0).kind = true:=by
  rcases hk _ hqm with h5 | h5
  ·dsimp only at h5;omega
  ·exact h5 0 h0
 rw [hk0] at he
 by_cases hs1 : sg (ae t.fields 0).kind = []
 case neg =>
  rw [if_neg fun h=>hs1 h.1] at hrs
  unfold aT at he
  rw [hrs] at he
  repeat' (first | refine jR ?_ | (refine jo ?_;first | refine ak F ?_ | refine jV (ao F F aS F F) ?_ | (refine jV (fO F F aS ?_ F F) ?_;focus omega) | refine jV (ay F F oM) ?_ | refine jL fun _=>?_ | refine jC F F F ?_ | refine aH F ?_) | refine ax F F (ar ‹_›) ?_ | (refine ac F (by first | rfl | (refine decide_eq_true ?_;(omega))) ?_) | refine ad F (aA oM) ?_)
  all_goals refine jY (vs:=[_]) ?_
  all_goals (rw [← he];rfl)
 by_cases hs2 : bs (ae t.fields 0).kind = [64]
 case neg =>
  rw [if_neg fun h=>hs2 h.2] at hrs
  unfold aT at he
  rw [hrs] at he
  repeat' (first | refine jR ?_ | (refine jo ?_;first | refine ak F ?_ | refine jV (ao F F aS F F) ?_ | (refine jV (fO F F aS ?_ F F) ?_;focus omega) | refine jV (ay F F oM) ?_ | refine jL fun _=>?_ | refine jC F F F ?_ | refine aw F ?_) | (refine aj F F ?_ ?_;(focus ((simp [*];done);done))) | (refine ac F (by refine decide_eq_true ?_;first | assumption | omega) ?_) | refine ad F (aA oM) ?_)
  all_goals refine jY (vs:=[_]) ?_
  all_goals (rw [← he];rfl)
 rw [if_pos ⟨hs1,hs2⟩] at hrs
 unfold aT at he
 rw [hrs,Option.bind_some,← gD] at he
 have hkv:=gz qs (nm (ae t.fields 0).kind)
 have hr2 : bz (bj (ae t.fields 0).kind) = some (nm (ae t.fields 0).kind):=by
  have:=(i5 hko).1 hs2
  unfold nm
  cases hx : bz (bj (ae t.fields 0).kind) with
  | none=>rw [hx] at this;cases this
  | some n=>rfl
 unfold ew at hhas
 rw [hr2] at hhas
 dsimp only at hhas
 rw [← gD] at hhas
 cases hf : en qs (nm (ae t.fields 0).kind) with
 | none=>rw [hf] at hhas;cases hhas
 | some q =>
  rw [hf] at hkv he
  dsimp only [Option.map_some] at hkv he
  have hb1 : ¬ sg (ae t.fields 0).kind ≠ []:=fun h=>h hs1
  have hb2 : ¬ bs (ae t.fields 0).kind ≠ [64]:=fun h=>h hs2
  clear hs1 hs2 hrs hr2
  repeat' (first | refine jM ?_ | (refine jo ?_;first | refine ak F ?_ | refine jV (ao F F aS F F) ?_ | (refine jV (fO F F aS ?_ F F) ?_;focus omega) | refine jV (ay F F oM) ?_ | refine jL fun _=>?_ | refine jC F F F ?_ | refine aw F ?_) | refine aj F F (aA ‹_›) ?_ | refine ac F (ar oM) ?_ | (refine ad F (by refine decide_eq_false ?_;first | assumption | omega) ?_) | (refine ai (am (id:=8) _ (fun _ h=>h) ah ?_);refine jT 4 [0,1,2,4] (aa 8 23) ?_;(refine jG (aa 8 31) 3 F (ao F F aS F F) ?_);(refine jG (aa 8 63) 5 F (aD F F F) ?_);((refine jG (aa 8 127) 6 F (bY F F (dO aS) aS F) ?_));refine jT 0 [7] (aa 8 255) ?_;refine jQ ?_))
  refine aX (q,i + 1) ⟨gM hf,by dsimp only;omega,?_⟩ (by dsimp only;omega) tU rfl (by repeat (exact List.nil_sublist _))
  dsimp only
  rw [show 9 - (i + 1) = j by omega]
  exact he
structure Rdg (s : ac1) (ls : List ac1) (ts : List Ty) (t : ac1) : Prop where
 cutE : aV 10 s = ls ++ aV 10 t
 tyE : bW ls = some ts
theorem Rdg.start (s : ac1) : Rdg s [] [] s:=⟨rfl,rfl⟩
theorem Rdg.len {s : ac1} {ls : List ac1} {ts : List Ty} {t : ac1} (h : Rdg s ls ts t) : ts.length = ls.length:=(iy h.tyE).2
theorem lK {t line rest : ac1} (h : aG 10 t = (line,rest,true)) : aV 10 t = line :: aV 10 rest:=by rw [lM,h];rfl
theorem Rdg.step {s : ac1} {ls : List ac1} {ts : List Ty} {t line rest : ac1} {x : Ty} (h : Rdg s ls ts t) (hc : aG 10 t = (line,rest,true)) (hx : c9 line = some x) : Rdg s (ls ++ [line]) (ts ++ [x]) rest :=
 ⟨by rw [h.cutE,lK hc];simp,by rw [gU h.tyE,hx];rfl⟩
theorem Rdg.fin {s : ac1} {ls : List ac1} {ts : List Ty} (h : Rdg s ls ts []) (hl : s.length ≤ 400) (h8 : ts.length ≤ 8) : aO s = if iH ts then some ts else none:=by
 have hlen:=h.len
 have e : aV 10 s = ls ++ [[]]:=h.cutE
 unfold aO
 rw [e,if_pos ⟨hl,by simp;omega,by simp⟩,List.dropLast_concat,h.tyE]
theorem ut {s : ac1} (h : ¬ s.length ≤ 400) : aO s = none:=by
 unfold aO
 exact if_neg fun h2=>h h2.1
theorem Rdg.noend {s : ac1} {ls : List ac1} {ts : List Ty} {t : ac1} (h : Rdg s ls ts t) (ht : t ≠ []) (hc : (aG 10 t).2.2 = false) : aO s = none:=by
 have e : aV 10 s = ls ++ [t]:=by rw [h.cutE,lM,hc];rfl
 unfold aO
 rw [e,if_neg]
 rintro ⟨_,_,h3⟩
 simp at h3
 exact ht h3
theorem Rdg.many {s : ac1} {ls : List ac1} {ts : List Ty} {t line rest : ac1} (h : Rdg s ls ts t) (hc : aG 10 t = (line,rest,true)) (h8 : ts.length = 8) : aO s = none:=by
 have hlen:=h.len
 have hp:=dL (k:=10) (s:=rest)
 unfold aO
 rw [h.cutE,lK hc,if_neg]
 rintro ⟨_,h3,_⟩
 simp at h3
 omega
theorem qZ {ls : List ac1} {line rest : ac1} : (ls ++ line :: aV 10 rest).dropLast = (ls ++ [line]) ++ (aV 10 rest).dropLast:=by
 have hp:=dL (k:=10) (s:=rest)
 have hne : aV 10 rest ≠ []:=fun e=>by rw [e] at hp;simp at hp
 rw [List.dropLast_append_of_ne_nil (by simp),List.dropLast_cons_of_ne_nil hne];simp
theorem Rdg.bad {s : ac1} {ls : List ac1} {ts : List Ty} {t line rest : ac1} (h : Rdg s ls ts t) (hc : aG 10 t = (line,rest,true)) (hx : c9 line = none) : aO s = none:=by
 have hn : bW (ls ++ [line]) = none:=by rw [gU h.tyE,hx];rfl
 unfold aO
 split
 ·rw [h.cutE,lK hc,qZ,gp hn]
 ·rfl
theorem nq : ∀ {xs ys : List ac1} {ts us : List Ty},bW xs = some ts → bW (xs ++ ys) = some us → ∃ vs,us = ts ++ vs
 | [],ys,ts,us,h,h2=>by simp only [bW,Option.some.injEq] at h;subst h;exact ⟨us,F⟩
 | x :: xs,ys,ts,us,h,h2=>by
  unfold bW at h
  rw [List.cons_append,bW] at h2
  cases hx : c9 x with
  | none=>rw [hx] at h;cases h
  | some t =>
   rw [hx] at h h2
   dsimp only at h h2
   cases hr : bW xs with
   | none=>rw [hr] at h;cases h
   | some ws =>
    rw [hr] at h
    simp only [Option.map_some,Option.some.injEq] at h;subst h
    cases hq : bW (xs ++ ys) with
    | none=>rw [hq] at h2;cases h2
    | some zs =>
     rw [hq] at h2
     simp only [Option.map_some,Option.some.injEq] at h2;subst h2
     obtain ⟨vs,rfl⟩:=nq hr hq
     exact ⟨vs,F⟩
theorem ja {α : Type} [Inhabited α] {xs ys : List α} {i : Nat} (h : i < xs.length) : ae (xs ++ ys) i = ae xs i:=by
 rw [aP h,aP (by simp;omega),List.getElem_append_left h]
theorem Rdg.dup {s : ac1} {ls : List ac1} {ts : List Ty} {t line rest : ac1} {x : Ty} (h : Rdg s ls ts t) (hc : aG 10 t = (line,rest,true)) (hx : c9 line = some x) (i : Nat) (hi : i < ts.length) (hd : (ae ts i).name = x.name) : aO s = none:=by
 have h2:=h.step hc hx
 unfold aO
 split
 ·rw [h.cutE,lK hc,qZ]
  cases hr : bW (ls ++ [line] ++ (aV 10 rest).dropLast) with
  | none=>rfl
  | some us =>
   obtain ⟨vs,rfl⟩:=nq h2.tyE hr
   dsimp only
   rw [if_neg]
   intro hv
   have h3:=(hv.1 ts.length (by simp)).1 i hi
   have e1 : ae (ts ++ [x] ++ vs) i = ae ts i:=by rw [ja (by simp;omega),ja hi]
   have e2 : ae (ts ++ [x] ++ vs) ts.length = x:=by rw [ja (by simp),aP (by simp)];simp
   rw [e1,e2] at h3
   exact h3 hd
 ·rfl
abbrev tPT : TypeId:=157
abbrev tSc : TypeId:=155
def abo (s : ac1) (v : Value) (G : Gh) : Prop:=(aO s = none ∧ ∃ p,v = Tu [p,Bo false]) ∨ ∃ b qs,v = Tu [Pt b 0,Bo true] ∧ aO s = some (ag qs) ∧ ScI G b qs
theorem fq (qs : List co) : (ag qs).length = qs.length:=by simp [ag]
theorem kT {qs : List co} {i : Nat} (h : i < qs.length) : ae (ag qs) i = (ae qs i).2:=by
 rw [aP h,aP (by rw [fq];exact h)];simp [ag]
theorem uJ {qs : List co} {n : ac1} {q : co} (h : en qs n = some q) : ∃ i,i < (ag qs).length ∧ (ae (ag qs) i).name = n:=by
 have h1:=gM h
 have h2 : n = q.2.name:=by unfold en at h;simpa using List.find?_some h
 obtain ⟨i,hi,rfl⟩:=ni h1
 exact ⟨i,by rw [fq];exact hi,by rw [kT hi,h2]⟩
theorem uK {qs : List co} {n : ac1} (h : en qs n = none) : ∀ i,i < qs.length → (ae (ag qs) i).name ≠ n:=by
 intro i hi e
 unfold en at h
 rw [List.find?_eq_none] at h
 have:=h _ (bB hi)
 rw [kT hi] at e
 simp [e] at this
theorem mT {s : ac1} (h : s.length ≤ 10000000) : bi ac0 90 [S s] G (abo s):=by
 by_cases hl : s.length ≤ 400
 case neg =>
  have hno:=ut hl
  refine jB [(0,_)] Tryz.func90 Tryz.ntmps90 fun B hok hB hW=>?_
  repeat' (first | refine jR ?_ | refine ac F (ar oM) ?_)
  all_goals refine jZ (vs:=[_,_]) F ⟨F,F,trivial⟩ F ⟨Gh.le.refl _,F,?_⟩
  all_goals exact .inl ⟨hno,_,F⟩
 refine jB [(0,_)] Tryz.func90 Tryz.ntmps90 fun B hok hB hW=>?_
 repeat' (first | refine jR ?_ | (refine jo ?_;first | refine acf F fun _=>?_ | refine jV (an F F) ?_ | refine jO fun _=>?_) | refine ad F (aA oM) ?_)
 rename_i m x
 refine Nx.addNil tPT 1 ?_
 refine aR (ι:=Value × List co × List ac1 × ac1 × Gh) (fun i=>Rdg s i.2.2.1 (ag i.2.1) i.2.2.2.1 ∧ (i.2.1.length ≤ 8 ∧ i.2.2.2.1.length ≤ s.length) ∧ (∀ a,a < i.2.1.length → k3 (ag i.2.1) a) ∧ (∀ q ∈ i.2.1,iI i.2.2.2.2 q.1 q.2) ∧ Gh.le G i.2.2.2.2) (fun i=>[(0,S i.2.2.2.1),(4,Pt x 0)]) (fun i=>i.2.2.2.2) (fun i=>[.acc i.1 tPT 1 i.2.1.length (aI tA i.2.1),.blk x (.cells [i.1,.map (some m)].toArray tSc (0,0)),.blk m (eL (gX i.2.1))]) (fun i=>i.2.2.2.1.length) (aJ,[],[],s,G) ?_ tU F aW (fun i Hi=>?_)
 ·exact ⟨Rdg.start s,⟨by simp,Nat.le_refl _⟩,fun a ha=>absurd ha (by simp),by simp,Gh.le.refl _⟩
 obtain ⟨u,qs,ls,t,Gk⟩:=i
 dsimp only at Hi ⊢
 obtain ⟨hR,⟨h8,htl⟩,hna,hti,hgk⟩:=Hi
 refine Nx.shp (v:=u) (.head _) fun hsh=>?_
 have hsh2:=hsh
 obtain ⟨au,cu,rfl⟩:=hsh.sl
 by_cases ht : t = []
 case neg =>
  have cx_cut : ∀ G,aC ac0 116 [S t,S [10]] G (· = Tu [S (aG 10 t).1,S (aG 10 t).2.1,Bo (aG 10 t).2.2]):=fun G=>pJ (c:=10) oM
  have hcl:=jw (k:=10) (s:=t)
  cases hc : (aG 10 t).2.2 with
  | false =>
   have hno:=hR.noend ht hc
   have hc2 : (!(aG 10 t).2.2) = true:=by rw [hc];rfl
   repeat' (first | refine jR ?_ | (refine jo ?_;first | refine aH F ?_ | refine ab F F F (cx_cut _) F ?_) | refine ax F F ‹_› ?_ | (refine ac F (by first | rfl | (refine decide_eq_true ?_;(assumption))) ?_))
   all_goals refine jZ (vs:=[_,_]) F ⟨F,F,trivial⟩ F ⟨hgk,F,?_⟩
   all_goals exact .inl ⟨hno,_,F⟩
  | true =>
   have hce : aG 10 t = ((aG 10 t).1,(aG 10 t).2.1,true):=by rw [← hc]
   have hlt : (aG 10 t).2.1.length < t.length:=by
    obtain ⟨d,_,e⟩:=gP hce
    have:=congrArg List.length e
    simp at this;omega
   rw [hc] at cx_cut
   generalize (aG 10 t).1 = line at *
   generalize (aG 10 t).2.1 = rest at *
   clear hc
   by_cases h9 : qs.length = 8
   ·have hno:=hR.many hce (by rw [fq];exact h9)
    repeat' (first | refine jR ?_ | (refine jo ?_;first | refine ak F ?_ | refine jV (al F) ?_ | refine aw F ?_ | refine ab F F F (cx_cut _) F ?_) | refine aj F F F ?_ | (refine ac F (by refine decide_eq_true ?_;first | assumption | omega) ?_))
    all_goals refine jZ (vs:=[_,_]) F ⟨F,F,trivial⟩ F ⟨hgk,F,?_⟩
    all_goals exact .inl ⟨hno,_,F⟩
   have hle1 : line.length ≤ 1000:=oM
   cases hty : c9 line with
   | none =>
    have hno:=hR.bad hce hty
    have cx_rt0 : ∀ G,bi ac0 117 [S line] G (fun v _=>∃ p,v = Tu [p,Bo false]):=fun G=>by
     refine (pG (G:=G) hle1).mono ?_
     rintro v G' L' ⟨h1,h2,⟨_,p,rfl⟩ | ⟨_,_,_,h4,_⟩⟩
     ·exact ⟨h1,h2,p,F⟩
     ·rw [hty] at h4;cases h4
    repeat' (first | refine jR ?_ | (refine jo ?_;first | refine ak F ?_ | refine jV (al F) ?_ | refine aw F ?_ | refine ab F F F (cx_cut _) F ?_ | (refine aK F F F (cx_rt0 _) F ?_;rintro _ G hle ⟨p,rfl⟩;skip)) | refine aj F F F ?_ | (refine ac F (by first | rfl | (refine decide_eq_true ?_;(assumption))) ?_) | refine ad F (aA oM) ?_ | (refine ai (am (id:=9) _ (fun _ h=>h) ah ?_);refine jT 11 [0,1,2] (aa 14 7) ?_;(try (refine Nx.re (d:=47) (v':=Bo true) F (congrArg Value.bool F) ?_));refine jT 5 [3,4,5,7,8,9] (aa 14 959) ?_;(refine jN (aa 14 1023) 6 F ?_);(refine jN (aa 14 2047) 10 F ?_);(refine jN (aa 14 4095) 11 F ?_);(refine jN (aa 14 8191) 12 F ?_);(refine jG (aa 14 16383) 13 F (bD F F F) ?_);refine jQ ?_))
    all_goals refine jZ (vs:=[_,_]) F ⟨F,F,trivial⟩ F ⟨hgk.trans hle,F,?_⟩
    all_goals exact .inl ⟨hno,_,F⟩
   | some ty =>
   have cx_rt1 : ∀ G,bi ac0 117 [S line] G (fun v G'=>∃ b fv ln,v = Tu [Pt b 0,Bo true] ∧ cE G' b 0 [U8 ty.sort,S ty.name,fv,S ln] ∧ bR G' fv 6 ty.fields.length (aI iR ty.fields)):=fun G=>by
    refine (pG (G:=G) hle1).mono ?_
    rintro v G' L' ⟨h1,h2,⟨h4,_⟩ | ⟨b,t2,rfl,h4,fv,ln,h5,h6⟩⟩
    ·rw [hty] at h4;cases h4
    ·rw [hty] at h4;simp only [Option.some.injEq] at h4;subst h4
     exact ⟨h1,h2,b,fv,ln,F,h5,h6⟩
   have hkv:=gz qs ty.name
   cases hf : en qs ty.name with
   | some q =>
    rw [hf] at hkv
    dsimp only [Option.map_some] at hkv
    obtain ⟨i,hi,hn⟩:=uJ hf
    have hno:=hR.dup hce hty i hi hn
    repeat' (first | refine jR ?_ | (refine jo ?_;first | refine ak F ?_ | refine jV (al F) ?_ | refine aw F ?_ | refine ab F F F (cx_cut _) F ?_ | (refine aK F F F (cx_rt1 _) F ?_;rintro _ G hle ⟨b,fv,ln,rfl,hsg,hfv⟩;skip)) | refine aj F F F ?_ | (refine ac F (by first | rfl | (refine decide_eq_true ?_;(assumption))) ?_) | refine ad F (aA oM) ?_ | (refine ai (am (id:=9) _ (fun _ h=>h) ah ?_);refine jT 11 [0,1,2] (aa 14 7) ?_;(try (refine Nx.re (d:=47) (v':=Bo false) F (congrArg Value.bool F) ?_));refine jT 5 [3,4,5,7,8,9] (aa 14 959) ?_;(refine jG (aa 14 1023) 6 F (aD F F F) ?_);(refine jG (aa 14 2047) 10 F (ao F F aS F F) ?_);(refine jG (aa 14 4095) 11 F (bY F F (tC MapI.mem) aS F) ?_);(refine jG (aa 14 8191) 12 F (gZ F F) ?_);(refine jG (aa 14 16383) 13 F (bc F F F) ?_);refine jQ ?_))
    all_goals refine jZ (vs:=[_,_]) F ⟨F,F,trivial⟩ F ⟨hgk.trans hle,F,?_⟩
    all_goals exact .inl ⟨hno,_,F⟩
   | none =>
    rw [hf] at hkv
    dsimp only [Option.map_none] at hkv
    repeat' (first | refine jR ?_ | (refine jo ?_;first | refine ak F ?_ | refine jV (al F) ?_ | refine aw F ?_ | refine ab F F F (cx_cut _) F ?_ | (refine aK F F F (cx_rt1 _) F ?_;rintro _ G hle ⟨b,fv,ln,rfl,hsg,hfv⟩;skip)) | refine aj F F F ?_ | refine ac F (ar ‹_›) ?_ | refine ad F (aA oM) ?_)
    (refine ai (am (id:=9) _ (fun _ h=>h) ah ?_);refine jT 11 [0,1,2] (aa 14 7) ?_;(try (refine Nx.re (d:=47) (v':=Bo false) F (congrArg Value.bool F) ?_));refine jT 5 [3,4,5,7,8,9] (aa 14 959) ?_;(refine jG (aa 14 1023) 6 F (aD F F F) ?_);(refine jG (aa 14 2047) 10 F (ao F F aS F F) ?_);(refine jG (aa 14 4095) 11 F (bY F F (tC MapI.mem) aS F) ?_);(refine jG (aa 14 8191) 12 F (gZ F F) ?_);(refine jG (aa 14 16383) 13 F (bc F F F) ?_);refine jQ ?_)
    repeat' (first | refine jR ?_ | (refine jo ?_;first | refine ak F ?_ | refine jF fun _=>?_ | refine cQ F F F F F F F F F oM fun _ _=>?_ | refine jD F F F ?_) | refine ad F F ?_)
    rename_i w b2 c2
    (refine ai (am (id:=12) [.blk x (.cells [.slice (some ⟨b2,0,none⟩) (qs.length + 1) c2,.map (some m)].toArray tSc (0,0))] (by intro y hy;simp only [List.mem_cons,List.not_mem_nil,or_false] at hy ⊢;simp [hy]) ah ?_);refine jW 3 [0,1,2,4,5,6,8] (aa 10 375) ?_;(refine jG (aa 10 383) 3 F (aD F F F) ?_);(refine jG (aa 10 511) 7 F (ao F F aS F F) ?_);refine jA 9 F ?_;(refine acd F F F F ‹_› ?_);refine jS (aa 10 1023) ?_;refine jQ ?_)
    repeat' (refine jR ?_)
    have e1 : gX qs ++ [(ty.name,Pt b 0)] = gX (qs ++ [(b,ty)]):=by simp [gX]
    have e2 : aI tA qs ++ [Pt b 0] = aI tA (qs ++ [(b,ty)]):=(cB tA qs (b,ty)).symm
    have e3 : ag (qs ++ [(b,ty)]) = ag qs ++ [ty]:=by simp [ag]
    rw [e1,e2]
    refine aX (.slice (some ⟨b2,0,none⟩) (qs.length + 1) c2,qs ++ [(b,ty)],ls ++ [line],rest,G) ⟨?_,⟨by simp;omega,by dsimp only;omega⟩,?_,?_,hgk.trans hle⟩ (by dsimp only;omega) tU rfl (by dsimp only;simp only [List.length_append,List.length_cons,List.length_nil,Nat.zero_add];repeat (first | exact List.Sublist.refl _ | apply List.Sublist.cons_cons | apply List.Sublist.cons))
    ·dsimp only;rw [e3];exact hR.step hce hty
    ·intro a ha k hk
     dsimp only at ha ⊢
     rw [e3]
     have hlen:=fq qs
     have hal : a < qs.length + 1:=by simpa using ha
     rcases Nat.lt_or_ge a qs.length with h3 | h3
     ·rw [ja oM,ja oM];exact hna a h3 k hk
     ·have ea : a = qs.length:=oM
      have e4 : ae (ag qs ++ [ty]) a = ty:=by rw [aP (by simp;omega),List.getElem_append_right oM];simp
      rw [ja oM,e4]
      exact uK hf k oM
    ·intro q hq
     dsimp only at hq ⊢
     rcases List.mem_append.1 hq with hq | hq
     ·exact (hti q hq).mono hle
     ·simp only [List.mem_singleton] at hq;subst hq;exact ⟨fv,ln,hsg,hfv⟩
 ·subst ht
  have hfin:=hR.fin hl (by rw [fq];exact h8)
  have hw : ∀ q ∈ qs,TyW q.2:=fun q hq=>(iy hR.tyE).1 q.2 (show q.2 ∈ qs.map (fun y=>y.2) from List.mem_map_of_mem hq)
  refine Nx.sealS (v:=.slice au qs.length cu) fun G1 hl1 hsl=>?_
  refine Nx.sealC (b:=x) fun G2 hl2 hsx=>?_
  refine Nx.sealM (b:=m) fun G3 hl3 hmm=>?_
  have hS : ScI G3 x qs:=⟨⟨_,m,hsx.mono hl3,hsl.mono (hl2.trans hl3),hmm⟩,fun q hq=>(hti q hq).mono ((hl1.trans hl2).trans hl3)⟩
  have hgl : Gh.le G G3:=((hgk.trans hl1).trans hl2).trans hl3
  have hsx3:=hsx.mono hl3
  have hsl3:=hsl.mono (hl2.trans hl3)
  repeat' (first | refine jR ?_ | (refine jo ?_;first | refine jV (ao F F aS F F) ?_ | refine jV (al F) ?_) | refine ad F F ?_)
  refine aR (ι:=Nat) (fun k=>k ≤ qs.length ∧ ∀ j,j < k → it (ag qs) (ae qs j).2) (fun k=>[(4,Pt x 0),(82,.slice au qs.length cu),(83,I qs.length),(84,I k)]) (fun k=>G3) (fun k=>[]) (fun k=>qs.length - k) 0 ?_ tU F aW (fun k Hk=>?_)
  ·exact ⟨Nat.zero_le _,fun j hj=>absurd hj oM⟩
  by_cases hk : k < qs.length
  case neg =>
   have hko : ∀ q ∈ qs,it (ag qs) q.2:=fun q hq=>by
    obtain ⟨j,hj,rfl⟩:=ni hq
    exact Hk.2 j oM
   repeat' (first | refine jR ?_ | (refine jo ?_;first | refine jV (ao F F aS F F) ?_ | refine jV (al F) ?_) | refine ad F (aA oM) ?_)
   refine aR (ι:=Nat) (fun k=>k ≤ qs.length ∧ ∀ j,j < k → bQ (ag qs) 9 (ae qs j).2 = true) (fun k=>[(4,Pt x 0),(114,.slice au qs.length cu),(115,I qs.length),(116,I k)]) (fun k=>G3) (fun k=>[]) (fun k=>qs.length - k) 0 ?_ tU F aW (fun k Hk=>?_)
   ·exact ⟨Nat.zero_le _,fun j hj=>absurd hj oM⟩
   have hends : ∀ j,j < qs.length → bQ (ag qs) 9 (ae qs j).2 = bQ (ag qs) ((ag qs).length + 1) (ae (ag qs) j):=fun j hj=>by
    rw [kT hj]
    exact yU (by rw [fq];exact h8) (show (ae qs j).2 ∈ qs.map (fun y=>y.2) from List.mem_map_of_mem (bB hj))
   by_cases hk2 : k < qs.length
   case neg =>
    have hv : iH (ag qs):=by
     refine ⟨fun j hj=>?_,fun j hj=>?_⟩
     ·rw [fq] at hj
      exact ⟨hna j hj,by rw [kT hj];exact hko _ (bB hj)⟩
     ·rw [fq] at hj
      rw [← hends j hj];exact Hk.2 j oM
    repeat' (first | refine jR ?_ | refine ad F (aA oM) ?_)
    all_goals refine jZ (vs:=[_,_]) F ⟨F,F,trivial⟩ F ⟨hgl,F,?_⟩
    all_goals exact .inr ⟨x,qs,F,by rw [hfin,if_pos hv],hS⟩
   obtain ⟨ba,oa,ca,ea,hsa⟩:=hsl3.expl oM
   simp only [Value.slice.injEq] at ea
   obtain ⟨rfl,-,rfl⟩:=ea
   rcases hq : ae qs k with ⟨p,ty⟩
   have hqm : (p,ty) ∈ qs:=by rw [← hq];exact bB hk2
   have cx_en2:=zw hS hw hko hqm
   have hek:=hends k hk2
   rw [hq] at hek
   dsimp only at hek
   by_cases he : bQ (ag qs) 9 ty = true
   ·have he2 : (!bQ (ag qs) 9 ty) = false:=by rw [he];rfl
    repeat' (first | refine jM ?_ | (refine jo ?_;first | (refine jV (dp F F aS ?_ aS F) ?_;focus omega) | refine jV (ay F F oM) ?_ | refine ab F F F cx_en2 F ?_) | refine ac F (ar oM) ?_ | refine ad F ‹_› ?_)
    refine aX (k + 1) ⟨oM,fun j hj=>?_⟩ oM tU F aW
    rcases Nat.lt_or_ge j k with h3 | h3
    ·exact Hk.2 j h3
    ·have : j = k:=oM
     subst this;rw [hq];exact he
   ·have he2 : (!bQ (ag qs) 9 ty) = true:=by simpa using he
    have hno : aO s = none:=by
     rw [hfin,if_neg]
     intro hv
     have:=hv.2 k (by rw [fq];exact hk2)
     rw [← hek] at this
     exact he this
    repeat' (first | refine jR ?_ | (refine jo ?_;first | (refine jV (dp F F aS ?_ aS F) ?_;focus omega) | refine jV (ay F F oM) ?_ | refine ab F F F cx_en2 F ?_) | (refine ac F (by first | assumption | (refine decide_eq_true ?_;(omega))) ?_))
    all_goals refine jZ (vs:=[_,_]) F ⟨F,F,trivial⟩ F ⟨hgl,F,?_⟩
    all_goals exact .inl ⟨hno,_,F⟩
  obtain ⟨ba,oa,ca,ea,hsa⟩:=hsl3.expl oM
  simp only [Value.slice.injEq] at ea
  obtain ⟨rfl,-,rfl⟩:=ea
  rcases hq : ae qs k with ⟨p,ty⟩
  have hqm : (p,ty) ∈ qs:=by rw [← hq];exact bB hk
  obtain ⟨fv,ln,hsg,hfv⟩:=hS.ty _ hqm
  dsimp only at hsg hfv
  have hW:=hw _ hqm
  dsimp only at hW
  have h88:=hW.len
  repeat' (first | refine jR ?_ | (refine jo ?_;first | refine jV (ao F F aS F F) ?_ | (refine jV (dp F F aS ?_ aS F) ?_;focus omega) | refine jV (fN F aS) ?_ | refine jV (ay F F oM) ?_) | refine ac F (ar oM) ?_)
  refine aR (ι:=Nat) (fun l=>l ≤ ty.fields.length ∧ (ty.sort = 69 ∨ ∀ j,j < l → ew (ag qs) (ae ty.fields j).kind = true)) (fun l=>[(4,Pt x 0),(11,Pt p 0),(82,.slice (some ⟨ba,oa,none⟩) qs.length cu),(83,I qs.length),(84,I k),(91,fv),(92,I ty.fields.length),(93,I l)]) (fun l=>G3) (fun l=>[]) (fun l=>ty.fields.length - l) 0 ?_ tU F aW (fun l Hl=>?_)
  ·exact ⟨Nat.zero_le _,.inr fun j hj=>absurd hj oM⟩
  by_cases hl2 : l < ty.fields.length
  case neg =>
   repeat' (first | refine jM ?_ | refine ad F (aA oM) ?_)
   refine aX (k + 1) ⟨oM,fun j hj=>?_⟩ oM tU F aW
   rcases Nat.lt_or_ge j k with h3 | h3
   ·exact Hk.2 j h3
   ·have : j = k:=oM
    subst this
    rw [hq]
    rcases Hl.2 with h5 | h5
    ·exact .inl h5
    ·exact .inr fun j2 hj2=>h5 j2 (by dsimp only at hj2;omega)
  obtain ⟨bf,of,cf,rfl,hsf⟩:=hfv.expl oM
  by_cases h69 : ty.sort = 69
  ·repeat' (first | refine jM ?_ | (refine jo ?_;first | (refine jV (dY F F aS ?_) ?_;focus omega) | refine jV (ao F F aS F F) ?_ | refine aw F ?_ | refine jC F F F ?_ | refine jV (ay F F oM) ?_ | refine jL fun _=>?_) | refine aj F F (aA oM) ?_ | refine ac F (ar oM) ?_ | refine ad F F ?_)
   refine aX (l + 1) ⟨oM,.inl h69⟩ oM tU F (by repeat (exact List.nil_sublist _))
  have hko1:=(hW.fld _ (bB hl2)).kind h69
  have cx_has:=uS hS hko1
  by_cases hh : ew (ag qs) (ae ty.fields l).kind = true
  ·have hh2 : (!ew (ag qs) (ae ty.fields l).kind) = false:=by rw [hh];rfl
   repeat' (first | refine jM ?_ | (refine jo ?_;first | (refine jV (dY F F aS ?_) ?_;focus omega) | refine aN F ?_ | refine jV (ao F F aS F F) ?_ | refine aH F ?_ | refine jC F F F ?_ | refine jV (ay F F oM) ?_ | refine jL fun _=>?_ | refine ab F F F cx_has F ?_) | refine ax F F (ar oM) ?_ | refine ac F (ar oM) ?_ | refine ad F ‹_› ?_)
   refine aX (l + 1) ⟨oM,.inr fun j hj=>?_⟩ oM tU F (by repeat (exact List.nil_sublist _))
   rcases Nat.lt_or_ge j l with h3 | h3
   ·rcases Hl.2 with h5 | h5
    ·exact absurd h5 h69
    ·exact h5 j h3
   ·have : j = l:=oM
    subst this;exact hh
  ·have hh2 : (!ew (ag qs) (ae ty.fields l).kind) = true:=by simpa using hh
   have hno : aO s = none:=by
    rw [hfin,if_neg]
    intro hv
    have h5:=(hv.1 k (by rw [fq];exact hk)).2
    rw [kT hk,hq] at h5
    rcases h5 with h6 | h6
    ·exact h69 h6
    ·exact hh (h6 l hl2)
   repeat' (first | refine jR ?_ | (refine jo ?_;first | (refine jV (dY F F aS ?_) ?_;focus omega) | refine aN F ?_ | refine jV (ao F F aS F F) ?_ | refine aH F ?_ | refine jC F F F ?_ | refine jV (ay F F oM) ?_ | refine jL fun _=>?_ | refine ab F F F cx_has F ?_) | refine ax F F (ar oM) ?_ | (refine ac F (by first | assumption | (refine decide_eq_true ?_;(omega))) ?_))
   all_goals refine jZ (vs:=[_,_]) F ⟨F,F,trivial⟩ F ⟨hgl,F,?_⟩
   all_goals exact .inl ⟨hno,_,F⟩
def xz (s k : ac1) (v : Value) (G : Gh) : Prop:=(cP s k = false ∧ ∃ p a b c,v = Tu [p,Ag [S a,S b,S c],Bo false]) ∨ ∃ b qs,v = Tu [Pt b 0,Ag (cS k),Bo true] ∧ aO s = some (ag qs) ∧ aE (ag qs) k = true ∧ ScI G b qs
theorem mW {s k : ac1} (h : s.length ≤ 10000000) (hk : k.length ≤ 2000000) : bi ac0 59 [S s,S k] G (xz s k):=by
 cases hs : aO s with
 | none =>
  have hno : cP s k = false:=by unfold cP;rw [hs]
  have cx_rs0 : ∀ G,bi ac0 90 [S s] G (fun v _=>∃ p,v = Tu [p,Bo false]):=fun G=>by
   refine (mT (G:=G) h).mono ?_
   rintro v G' L' ⟨h1,h2,⟨_,p,rfl⟩ | ⟨_,_,_,h4,_⟩⟩
   ·exact ⟨h1,h2,p,F⟩
   ·rw [hs] at h4;cases h4
  refine jB [(0,_),(1,_)] Tryz.func59 Tryz.ntmps59 fun B hok hB hW=>?_
  repeat' (first | refine jR ?_ | (refine jo ?_;first | refine jL fun _=>?_ | refine jV (an F F) ?_ | refine jC F F F ?_ | (refine aK F F F (cx_rs0 _) F ?_;rintro _ G hle ⟨p,rfl⟩;skip)) | refine ac F F ?_)
  all_goals refine jZ (vs:=[_,_,_]) F ⟨F,av F F F F,F,trivial⟩ F ⟨hle,F,?_⟩
  all_goals exact .inl ⟨hno,_,[],[],[],F⟩
 | some ts =>
  have cx_rs1 : ∀ G,bi ac0 90 [S s] G (fun v G'=>∃ b qs,v = Tu [Pt b 0,Bo true] ∧ ag qs = ts ∧ ScI G' b qs):=fun G=>by
   refine (mT (G:=G) h).mono ?_
   rintro v G' L' ⟨h1,h2,⟨h4,_⟩ | ⟨b,qs,rfl,h4,h5⟩⟩
   ·rw [hs] at h4;cases h4
   ·rw [hs] at h4;simp only [Option.some.injEq] at h4;exact ⟨h1,h2,b,qs,F,h4.symm,h5⟩
  by_cases hko : bA k = true
  case neg =>
   have hkc2 : bA k = false:=by simpa using hko
   have hno : cP s k = false:=by unfold cP aE;rw [hs];simp [hkc2]
   have cx_kn : ∀ G,aC ac0 91 [S k] G (fun v=>∃ x y z,v = Tu [Ag [S x,S y,S z],Bo false]):=fun G=>by
    refine (lS (G:=G) (s:=k) oM).mono ?_
    rintro v G' L' ⟨h1,h2,x,y,z,rfl,_⟩
    exact ⟨h1,h2,x,y,z,by rw [hkc2]⟩
   refine jB [(0,_),(1,_)] Tryz.func59 Tryz.ntmps59 fun B hok hB hW=>?_
   repeat' (first | refine jR ?_ | (refine jo ?_;first | refine jL fun _=>?_ | refine jC F F F ?_ | (refine aK F F F (cx_rs1 _) F ?_;rintro _ G hle ⟨b,qs,rfl,hqs,hS⟩;skip) | (refine cZ F F F (cx_kn _) F ?_;rintro _ ⟨x,y,z,rfl⟩)) | refine ad F F ?_ | (refine ai (dA (id:=5) (tt:=5) F ah ?_);refine jW 8 [0,2,3] (aa 11 13) ?_;(try (refine Nx.re (d:=26) (v':=Bo false) F (congrArg Value.bool F) ?_));refine jW 7 [4] (aa 11 29) ?_;(refine jG (aa 11 31) 1 F (bo F F F F) ?_);(refine jN (aa 11 63) 5 F ?_);(refine jN (aa 11 127) 6 F ?_);refine jW 3 [8] (aa 11 383) ?_;((refine jG (aa 11 511) 7 F (bc F F ?_) ?_;(focus ((rfl);done))));refine jA 9 F ?_;(refine jC F F F ?_);refine jK (aa 11 1023) ?_;refine jW 0 [10] (aa 11 2047) ?_;refine jQ ?_))
   all_goals refine jZ (vs:=[_,_,_]) F ⟨F,av F F F F,F,trivial⟩ F ⟨hle,F,?_⟩
   all_goals exact .inl ⟨hno,_,_,_,_,F⟩
  have cx_kq : ∀ G,aC ac0 91 [S k] G (· = Tu [Ag [S (sg k),S (bs k),S (nm k)],Bo true]):=fun G=>t4 oM hko
  have hkk : cS k = [S (sg k),S (bs k),S (nm k)]:=rfl
  by_cases hH : ew ts k = true
  case pos =>
   have cx_hy : ∀ G b qs,ag qs = ts → ScI G b qs → aC ac0 92 [Pt b 0,Ag [S (sg k),S (bs k),S (nm k)]] G (· = Bo true):=by
    intro G b qs hq hS
    refine (uS hS hko).mono ?_
    rintro v G' L' ⟨h1,h2,rfl⟩
    exact ⟨h1,h2,by rw [hq,hH]⟩
   refine jB [(0,_),(1,_)] Tryz.func59 Tryz.ntmps59 fun B hok hB hW=>?_
   repeat' (first | refine jR ?_ | (refine jo ?_;first | refine jL fun _=>?_ | refine jC F F F ?_ | (refine aK F F F (cx_rs1 _) F ?_;rintro _ G hle ⟨b,qs,rfl,hqs,hS⟩;skip) | refine ab F F F (cx_kq _) F ?_) | refine ad F F ?_ | (refine ai (dA (id:=5) (tt:=5) F ah ?_);refine jW 8 [0,2,3] (aa 11 13) ?_;(try (refine Nx.re (d:=26) (v':=Bo true) F (congrArg Value.bool F) ?_));refine jW 7 [4] (aa 11 29) ?_;(refine jG (aa 11 31) 1 F (bo F F F F) ?_);(refine jG (aa 11 63) 5 F (bo F F F F) ?_);((refine jA 6 F ?_;((refine ab F F F ((cx_hy _ _ _) (by (repeat (assumption));done) (by (repeat (assumption));done)) rfl ?_));refine jK (aa 11 127) ?_));refine jW 3 [8] (aa 11 383) ?_;((refine jG (aa 11 511) 7 F (bD F F ?_) ?_;(focus ((rfl);done))));refine jA 9 F ?_;(refine jC F F F ?_);refine jK (aa 11 1023) ?_;refine jW 0 [10] (aa 11 2047) ?_;refine jQ ?_))
   all_goals refine jZ (vs:=[_,_,_]) F ⟨F,av F F F F,F,trivial⟩ F ⟨hle,F,?_⟩
   all_goals exact .inr ⟨b,qs,F,by rw [hs,hqs],by simp [aE,hqs,hko,hH],hS⟩
  case neg =>
   have hH2 : ew ts k = false:=by simpa using hH
   have hno : cP s k = false:=by unfold cP aE;rw [hs];simp [hH2]
   have cx_hn : ∀ G b qs,ag qs = ts → ScI G b qs → aC ac0 92 [Pt b 0,Ag [S (sg k),S (bs k),S (nm k)]] G (· = Bo false):=by
    intro G b qs hq hS
    refine (uS hS hko).mono ?_
    rintro v G' L' ⟨h1,h2,rfl⟩
    exact ⟨h1,h2,by rw [hq,hH2]⟩
   refine jB [(0,_),(1,_)] Tryz.func59 Tryz.ntmps59 fun B hok hB hW=>?_
   repeat' (first | refine jR ?_ | (refine jo ?_;first | refine jL fun _=>?_ | refine jC F F F ?_ | (refine aK F F F (cx_rs1 _) F ?_;rintro _ G hle ⟨b,qs,rfl,hqs,hS⟩;skip) | refine ab F F F (cx_kq _) F ?_) | refine ad F F ?_ | (refine ai (dA (id:=5) (tt:=5) F ah ?_);refine jW 8 [0,2,3] (aa 11 13) ?_;(try (refine Nx.re (d:=26) (v':=Bo true) F (congrArg Value.bool F) ?_));refine jW 7 [4] (aa 11 29) ?_;(refine jG (aa 11 31) 1 F (bo F F F F) ?_);(refine jG (aa 11 63) 5 F (bo F F F F) ?_);((refine jA 6 F ?_;((refine ab F F F ((cx_hn _ _ _) (by (repeat (assumption));done) (by (repeat (assumption));done)) rfl ?_));refine jK (aa 11 127) ?_));refine jW 3 [8] (aa 11 383) ?_;((refine jG (aa 11 511) 7 F (bD F F ?_) ?_;(focus ((rfl);done))));refine jA 9 F ?_;(refine jC F F F ?_);refine jK (aa 11 1023) ?_;refine jW 0 [10] (aa 11 2047) ?_;refine jQ ?_))
   all_goals refine jZ (vs:=[_,_,_]) F ⟨F,av F F F F,F,trivial⟩ F ⟨hle,F,?_⟩
   all_goals exact .inl ⟨hno,_,_,_,_,F⟩
theorem ke {t : Ty} : fG t = (ae t.fields 0).kind:=by
 unfold fG ae
 cases t.fields with
 | nil=>rfl
 | cons f r=>rfl
theorem jm {t : Ty} : tag0 t = (ae t.fields 0).tag:=by
 unfold tag0 ae
 cases t.fields with
 | nil=>rfl
 | cons f r=>rfl
theorem mQ {n : Int} (h : 0 ≤ n ∧ n ≤ 9223372036854775807) : (a8 n).length ≤ 19:=jv h.2
theorem s6 (k : ac1) : (fV k).length ≤ 2:=by
 unfold fV
 split
 ·simp
 ·split
  ·simp
  ·split <;> simp
theorem SchW.tag0 {ts : List Ty} (h : SchW ts) {t : Ty} (ht : t ∈ ts) : 0 ≤ Go.E.tag0 t ∧ Go.E.tag0 t ≤ 200:=by
 rw [jm]
 by_cases h0 : 0 < t.fields.length
 ·have:=((h.ty t ht).fld _ (bB h0)).tag;omega
 ·have : t.fields = []:=List.eq_nil_of_length_eq_zero oM
  rw [this];exact ⟨Int.le_refl _,by decide⟩
theorem lf {ts : List Ty} (h : SchW ts) : ∀ (n : Nat) (k : ac1),(cm ts n k).length ≤ 30 * n
 | 0,k=>by simp [cm]
 | n + 1,[]=>by simp [cm]
 | n + 1,c :: r=>by
  unfold cm
  split
  ·simp;omega
  ·split
   ·simp;omega
   ·split
    ·have:=s6 (c :: r);omega
    ·rename_i t ht
     have h1:=h.tag0 (bJ ht)
     have h2:=mQ (n:=tag0 t) oM
     have h3:=lf h n (fG t)
     split
     ·simp;omega
     ·split
      ·simp;omega
      ·simp;omega
theorem dK {ts : List Ty} (h : SchW ts) {t : Ty} (ht : t ∈ ts) (hs : t.sort ≠ 69) {f : Fld} (hf : f ∈ t.fields) : aE ts f.kind = true:=by
 unfold aE
 rw [((h.ty t ht).fld f hf).kind hs,Bool.true_and]
 obtain ⟨i,hi,rfl⟩:=List.mem_iff_getElem.1 ht
 obtain ⟨j,hj,rfl⟩:=List.mem_iff_getElem.1 hf
 have h1:=(h.valid.1 i hi).2
 rw [aP hi] at h1
 rcases h1 with h1 | h1
 ·exact absurd h1 hs
 ·have:=h1 j hj
  rwa [aP hj] at this
theorem cR {ts : List Ty} {k : ac1} (h : aE ts k = true) : bA k = true:=by
 unfold aE at h;simp only [Bool.and_eq_true] at h;exact h.1
theorem eE {c : UInt8} {r : ac1} (h : ¬ (c.toNat = 91 ∨ c.toNat = 63)) : bj (c :: r) = c :: r:=by rw [bj,if_neg h]
theorem tL {ts : List Ty} (h : SchW ts) {k : ac1} (t : Ty) (ht : aT ts k = some t) : bQ ts (ts.length + 1) t = true:=by
 obtain ⟨i,hi,rfl⟩:=List.mem_iff_getElem.1 (bJ ht)
 have:=h.valid.2 i hi
 rwa [aP hi] at this
theorem vV {u : Value} {vs : List bZ} (h : SchR G u vs) (hw : SchW (af vs)) : ∀ (n : Nat) {k : ac1},n ≤ 1000 → aE (af vs) k = true → (∀ t,aT (af vs) k = some t → bQ (af vs) n t = true) →
  aC ac0 115 [u,S k] G (· = S (cm (af vs) (n + 1) k)):=by
 have hvl : vs.length ≤ 1000000:=by have:=hw.len;rw [pO] at this;omega
 intro n
 induction n with
 | zero =>
  intro k hn hk he
  have hko:=cR hk
  have hkk:=cH hko
  match k,hkk with
  | c :: r,hkk =>
   have e0:=lZ c r
   by_cases h1 : c.toNat = 91
   ·refine jE [(0,_),(1,_)] Tryz.func115 Tryz.ntmps115 fun B hB=>?_
    repeat' (first | refine jX ?_ | (refine ac F ?_ ?_;(focus ((simp [*];done);done))))
    all_goals refine jY (vs:=[_]) ?_
    all_goals (rw [aB];unfold cm;rw [if_pos h1])
   by_cases h2 : c.toNat = 63
   ·refine jE [(0,_),(1,_)] Tryz.func115 Tryz.ntmps115 fun B hB=>?_
    repeat' (first | refine jX ?_ | (refine ac F ?_ ?_;(focus ((simp [*];done);done))) | (refine ad F ?_ ?_;(focus ((simp [*];done);done))))
    all_goals refine jY (vs:=[_]) ?_
    all_goals (rw [aB];unfold cm;rw [if_neg h1,if_pos h2])
   have href:=fU vs (c :: r)
   have cx_rf:=kx (k:=c :: r) h hvl hkk.1 oM
   cases hr : eQ vs (c :: r) with
   | some x=>rw [hr] at href;have:=he _ href.symm;cases this
   | none =>
    rw [hr] at href cx_rf
    refine jE [(0,_),(1,_)] Tryz.func115 Tryz.ntmps115 fun B hB=>?_
    repeat' (first | refine jX ?_ | (refine jo ?_;first | refine jL fun _=>?_ | refine jC F F F ?_ | refine ab F F F cx_rf F ?_ | refine ab F F F rf F ?_) | refine ac F F ?_ | (refine ad F ?_ ?_;(focus ((simp;omega);done))))
    all_goals refine jY (vs:=[_]) ?_
    all_goals (rw [aB];unfold cm;rw [if_neg h1,if_neg h2,← href];rfl)
 | succ n ih =>
  intro k hn hk he
  have hko:=cR hk
  have hkk:=cH hko
  match k,hkk with
  | c :: r,hkk =>
   have e0:=lZ c r
   by_cases h1 : c.toNat = 91
   ·refine jE [(0,_),(1,_)] Tryz.func115 Tryz.ntmps115 fun B hB=>?_
    repeat' (first | refine jX ?_ | (refine ac F ?_ ?_;(focus ((simp [*];done);done))))
    all_goals refine jY (vs:=[_]) ?_
    all_goals (rw [aB];unfold cm;rw [if_pos h1])
   by_cases h2 : c.toNat = 63
   ·refine jE [(0,_),(1,_)] Tryz.func115 Tryz.ntmps115 fun B hB=>?_
    repeat' (first | refine jX ?_ | (refine ac F ?_ ?_;(focus ((simp [*];done);done))) | (refine ad F ?_ ?_;(focus ((simp [*];done);done))))
    all_goals refine jY (vs:=[_]) ?_
    all_goals (rw [aB];unfold cm;rw [if_neg h1,if_pos h2])
   have href:=fU vs (c :: r)
   have cx_rf:=kx (k:=c :: r) h hvl hkk.1 oM
   rcases hr : eQ vs (c :: r) with _ | ⟨⟨a,ca⟩,t⟩
   ·rw [hr] at href cx_rf
    refine jE [(0,_),(1,_)] Tryz.func115 Tryz.ntmps115 fun B hB=>?_
    repeat' (first | refine jX ?_ | (refine jo ?_;first | refine jL fun _=>?_ | refine jC F F F ?_ | refine ab F F F cx_rf F ?_ | refine ab F F F rf F ?_) | refine ac F F ?_ | (refine ad F ?_ ?_;(focus ((simp;omega);done))))
    all_goals refine jY (vs:=[_]) ?_
    all_goals (rw [aB];unfold cm;rw [if_neg h1,if_neg h2,← href];rfl)
   rw [hr] at href cx_rf
   have hrf : aT (af vs) (c :: r) = some t:=href.symm
   have htm:=bJ hrf
   have hW:=hw.ty t htm
   have htg:=hw.tag0 htm
   rw [jm] at htg
   have e3 : cm (af vs) (n + 1 + 1) (c :: r) = if t.sort = 82 then [123,125] else if t.sort = 69 then 35 :: a8 (tag0 t) else 60 :: (a8 (tag0 t) ++ 61 :: (cm (af vs) (n + 1) (fG t) ++ [62])):=by
    rw [cm,if_neg h1,if_neg h2,hrf]
   rw [e3,jm,ke]
   clear e3
   by_cases s1 : t.sort = 82
   ·rw [if_pos s1]
    refine jE [(0,_),(1,_)] Tryz.func115 Tryz.ntmps115 fun B hB=>?_
    repeat' (first | refine jX ?_ | (refine jo ?_;first | refine jL fun _=>?_ | refine jC F F F ?_ | refine ak F ?_ | refine ab F F F cx_rf F ?_) | (refine ac F ?_ ?_;(focus ((simp [*];done);done))) | (refine ad F ?_ ?_;(focus ((first | rfl | (simp;omega));done))))
    all_goals refine jY (vs:=[_]) ?_
    all_goals rfl
   have h0 : 0 < t.fields.length:=List.length_pos_iff.2 (hW.ne s1)
   obtain ⟨bf,of,cf,ef,hsf⟩:=(h.fl _ (fK hr)).expl h0
   simp only [gJ,Value.slice.injEq] at ef
   obtain ⟨rfl,-,rfl⟩:=ef
   dsimp only at hsf
   have cx_rf : aC ac0 113 [u,S (c :: r)] G (· = Tu [Ag [U8 t.sort,S t.name,.slice (some ⟨bf,of,none⟩) t.fields.length ca],Bo true]):=cx_rf
   have hdl:=mQ (n:=(ae t.fields 0).tag) oM
   rw [if_neg s1]
   by_cases s2 : t.sort = 69
   ·rw [if_pos s2]
    refine jE [(0,_),(1,_)] Tryz.func115 Tryz.ntmps115 fun B hB=>?_
    repeat' (first | refine jX ?_ | (refine jo ?_;first | refine jL fun _=>?_ | refine jC F F F ?_ | refine ak F ?_ | (refine jV (b9 F F aS ?_ F F) ?_;focus omega) | refine jV (ay F F oM) ?_ | refine ab F F F cx_rf F ?_ | (refine ab F F F (ga ?_) F ?_;(focus ((simp;omega);done)))) | refine ac F (ar oM) ?_ | (refine ad F ?_ ?_;(focus ((first | rfl | (refine decide_eq_false ?_;(omega)) | (simp;omega));done))))
    all_goals refine jY (vs:=[_]) ?_
    all_goals rfl
   have hin:=dK hw htm s2 (bB h0)
   have hen : ∀ t',aT (af vs) (ae t.fields 0).kind = some t' → bQ (af vs) n t' = true:=by
    intro t' ht'
    have:=he t hrf
    have s3 : t.sort = 85:=by rcases hW.sort with h | h | h <;> omega
    rw [bQ,if_neg (by simp [s3]),ke,ht'] at this
    exact this
   have cx_std:=ih (k:=(ae t.fields 0).kind) oM hin hen
   have hsl:=lf hw (n + 1) (ae t.fields 0).kind
   rw [if_neg s2]
   refine jE [(0,_),(1,_)] Tryz.func115 Tryz.ntmps115 fun B hB=>?_
   repeat' (first | refine jX ?_ | (refine jo ?_;first | refine jL fun _=>?_ | refine jC F F F ?_ | refine ak F ?_ | refine ab F F F cx_rf F ?_) | (refine ad F ?_ ?_;(focus ((first | rfl | (refine decide_eq_false ?_;(omega)) | (simp;omega));done))) | (refine ai (am (id:=13) _ (fun _ h=>h) ah ?_);refine jT 15 [0,8,9] (aa 18 769) ?_;(refine jG (aa 18 771) 1 F (aD F F F) ?_);(refine jG (aa 18 775) 2 F (ay F F oM) ?_);refine jT 12 [3] (aa 18 783) ?_;((refine jG (aa 18 799) 4 F (b9 F F aS ?_ F F) ?_;focus omega));(refine jG (aa 18 1823) 10 F (aD F F F) ?_);(refine jG (aa 18 3871) 11 F (ay F F oM) ?_);refine jT 8 [12] (aa 18 7967) ?_;((refine jG (aa 18 16159) 13 F (b9 F F aS ?_ F F) ?_;focus omega));refine jA 5 F ?_;((refine ab F F F (ga ?_) F ?_;(focus ((simp;omega);done))));refine jS (aa 18 16191) ?_;refine jW 4 [6,7] (aa 18 16383) ?_;refine jA 14 F ?_;(refine ab F F F cx_std F ?_);refine jS (aa 18 32767) ?_;refine jW 0 [15,16,17] (aa 18 262143) ?_;refine jQ ?_))
   all_goals refine jY (vs:=[_]) ?_
   all_goals (rw [aB];simp)
theorem vX {u : Value} {vs : List bZ} (h : SchR G u vs) (hw : SchW (af vs)) {k : ac1} (hk : aE (af vs) k = true) : aC ac0 115 [u,S k] G (· = S (oQ (af vs) k)) :=
 vV h hw ((af vs).length + 1) (by have:=hw.len;omega) hk (fun t ht=>tL hw t ht)
theorem kN {c : UInt8} {r : ac1} (h : c.toNat = 91 ∨ c.toNat = 63) : sg (c :: r) = c :: sg r:=by
 unfold sg
 rw [bj,if_pos h]
 have:=ku r
 rw [List.length_cons,show r.length + 1 - (bj r).length = (r.length - (bj r).length) + 1 by omega]
 rfl
theorem i9 {c : UInt8} {r : ac1} (h : ¬ (c.toNat = 91 ∨ c.toNat = 63)) : sg (c :: r) = []:=by
 unfold sg;rw [eE h];simp
theorem di {b c : ac1} : aC ac0 123 [Ag [S [],S b,S c]] G (· = U8 (0 : Nat)):=by
 refine jE [(0,_)] Tryz.func123 Tryz.ntmps123 fun B hB=>?_
 repeat' (first | refine jR ?_ | (refine jo ?_;first | refine jO fun _=>?_ | refine ak F ?_) | refine ac F F ?_)
 all_goals refine jY (vs:=[_]) ?_
 all_goals rfl
theorem gQ {x : UInt8} {a b c : ac1} : aC ac0 123 [Ag [S (x :: a),S b,S c]] G (· = U8 (x.toNat : Nat)):=by
 have e0:=lZ x a
 refine jE [(0,_)] Tryz.func123 Tryz.ntmps123 fun B hB=>?_
 repeat' (first | refine jX ?_ | (refine jo ?_;first | refine jO fun _=>?_ | refine ak F ?_) | refine ad F F ?_)
 all_goals refine jY (vs:=[_]) ?_
 all_goals (rw [aB];(rfl))
theorem oK {k : ac1} (hk : bA k = true) (hr : bz (bj k) = none) : bs k = [110] ∨ bs k = [116] ∨ bs k = [102]:=by
 have h:=jx (cH hk).1
 unfold bs
 cases hc : bj k with
 | nil=>rw [hc] at h;cases h
 | cons c r =>
  rw [hc] at h hr
  have h64 : ¬ c.toNat = 64:=by
   intro h64
   simp [bz,h64] at hr
  have h91 : ¬ (c.toNat = 91 ∨ c.toNat = 63):=mS hc
  have e : nP (c :: r) = c :: r:=by simp [nP,h64]
  rw [e]
  rw [ep,if_neg h91,if_neg h64] at h
  simp only [Bool.and_eq_true,Bool.or_eq_true,decide_eq_true_eq] at h
  obtain ⟨rfl,h⟩:=h
  have hu : ∀ n : Nat,c.toNat = n → n < 256 → c = UInt8.ofNat n:=fun n h1 h2=>by
   apply UInt8.toNat_inj.1;rw [h1,UInt8.toNat_ofNat'];omega
  rcases h with (h | h) | h
  ·exact .inl (by rw [hu _ h dC];rfl)
  ·exact .inr (.inl (by rw [hu _ h dC];rfl))
  ·exact .inr (.inr (by rw [hu _ h dC];rfl))
theorem ScI.W {b : Nat} {qs : List co} (_ : ScI G b qs) (hw : SchW (ag qs)) {q : co} (hq : q ∈ qs) : q.2 ∈ ag qs ∧ TyW q.2:=by
 have h1 : q.2 ∈ ag qs:=List.mem_map_of_mem hq
 exact ⟨h1,hw.ty _ h1⟩
theorem rJ {k : ac1} (hs : sg k = []) (hk : bA k = true) (hr : bz (bj k) = none) : fV k = fV (bs k):=by
 match k,hk with
 | c :: r,hk =>
  have h91 : ¬ (c.toNat = 91 ∨ c.toNat = 63):=fun h=>by rw [kN h] at hs;cases hs
  have hc:=eE (r:=r) h91
  have h64 : ¬ c.toNat = 64:=fun h64=>by rw [hc] at hr;simp [bz,h64] at hr
  unfold bs;rw [hc];simp [nP,h64]
theorem vW {b : Nat} {qs : List co} (h : ScI G b qs) (hw : SchW (ag qs)) : ∀ (n : Nat) {k : ac1},n ≤ 1000 → aE (ag qs) k = true → (∀ t,aT (ag qs) k = some t → bQ (ag qs) n t = true) →
  aC ac0 181 [Pt b 0,Ag [S (sg k),S (bs k),S (nm k)]] G (· = S (cm (ag qs) (n + 1) k)):=by
 obtain ⟨u,m,g1,g2,g3⟩:=h.at'
 intro n
 induction n with
 | zero =>
  intro k hn hk he
  have hko:=cR hk
  match k,hko with
  | c :: r,hko =>
   by_cases h91 : c.toNat = 91 ∨ c.toNat = 63
   ·have cx_sign:=@gQ G c (sg r) (bs (c :: r)) (nm (c :: r))
    rw [kN h91]
    by_cases h1 : c.toNat = 91
    ·refine jE [(0,_),(1,_)] Tryz.func181 Tryz.ntmps181 fun B hB=>?_
     repeat' (first | refine jR ?_ | (refine jo ?_;first | refine jO fun _=>?_ | refine aN F ?_ | refine ab F F F cx_sign F ?_) | refine ac F (ar oM) ?_)
     all_goals refine jY (vs:=[_]) ?_
     all_goals (rw [aB];unfold cm;rw [if_pos h1])
    have h2 : c.toNat = 63:=oM
    refine jE [(0,_),(1,_)] Tryz.func181 Tryz.ntmps181 fun B hB=>?_
    repeat' (first | refine jR ?_ | (refine jo ?_;first | refine jO fun _=>?_ | refine aN F ?_ | refine ab F F F cx_sign F ?_) | refine ac F (ar oM) ?_ | refine ad F (aA oM) ?_)
    all_goals refine jY (vs:=[_]) ?_
    all_goals (rw [aB];unfold cm;rw [if_neg h1,if_pos h2])
   have hsg:=i9 (r:=r) h91
   have hcs:=eE (r:=r) h91
   rw [hsg]
   cases hrf : aT (ag qs) (c :: r) with
   | some t=>have:=he t hrf;cases this
   | none =>
    have hrn : bz (bj (c :: r)) = none:=by
     cases hx : bz (bj (c :: r)) with
     | none=>rfl
     | some x =>
      obtain ⟨t,ht⟩:=mF hk (by rw [hx];rfl)
      rw [hcs,hrf] at ht;cases ht
    have hpl:=rJ hsg hko hrn
    have e3 : cm (ag qs) (0 + 1) (c :: r) = fV (bs (c :: r)):=by
     rw [cm,if_neg oM,if_neg oM,hrf];exact hpl
    rw [e3]
    rcases oK hko hrn with e | e | e
    all_goals
     rw [e]
     refine jE [(0,_),(1,_)] Tryz.func181 Tryz.ntmps181 fun B hB=>?_
     repeat' (first | refine jR ?_ | (refine jo ?_;first | refine jO fun _=>?_ | refine ak F ?_ | refine aN F ?_ | refine ab F F F di F ?_) | refine ac F F ?_ | refine ad F F ?_)
     all_goals refine jY (vs:=[_]) ?_
     all_goals rfl
 | succ n ih =>
  intro k hn hk he
  have hko:=cR hk
  match k,hko with
  | c :: r,hko =>
   by_cases h91 : c.toNat = 91 ∨ c.toNat = 63
   ·have cx_sign:=@gQ G c (sg r) (bs (c :: r)) (nm (c :: r))
    rw [kN h91]
    by_cases h1 : c.toNat = 91
    ·refine jE [(0,_),(1,_)] Tryz.func181 Tryz.ntmps181 fun B hB=>?_
     repeat' (first | refine jR ?_ | (refine jo ?_;first | refine jO fun _=>?_ | refine aN F ?_ | refine ab F F F cx_sign F ?_) | refine ac F (ar oM) ?_)
     all_goals refine jY (vs:=[_]) ?_
     all_goals (rw [aB];unfold cm;rw [if_pos h1])
    have h2 : c.toNat = 63:=oM
    refine jE [(0,_),(1,_)] Tryz.func181 Tryz.ntmps181 fun B hB=>?_
    repeat' (first | refine jR ?_ | (refine jo ?_;first | refine jO fun _=>?_ | refine aN F ?_ | refine ab F F F cx_sign F ?_) | refine ac F (ar oM) ?_ | refine ad F (aA oM) ?_)
    all_goals refine jY (vs:=[_]) ?_
    all_goals (rw [aB];unfold cm;rw [if_neg h1,if_pos h2])
   have hsg:=i9 (r:=r) h91
   have hcs:=eE (r:=r) h91
   rw [hsg]
   cases hrf : aT (ag qs) (c :: r) with
   | none =>
    have hrn : bz (bj (c :: r)) = none:=by
     cases hx : bz (bj (c :: r)) with
     | none=>rfl
     | some x =>
      obtain ⟨t,ht⟩:=mF hk (by rw [hx];rfl)
      rw [hcs,hrf] at ht;cases ht
    have hpl:=rJ hsg hko hrn
    have e3 : cm (ag qs) (n + 1 + 1) (c :: r) = fV (bs (c :: r)):=by
     rw [cm,if_neg oM,if_neg oM,hrf];exact hpl
    rw [e3]
    rcases oK hko hrn with e | e | e
    all_goals
     rw [e]
     refine jE [(0,_),(1,_)] Tryz.func181 Tryz.ntmps181 fun B hB=>?_
     repeat' (first | refine jR ?_ | (refine jo ?_;first | refine jO fun _=>?_ | refine ak F ?_ | refine aN F ?_ | refine ab F F F di F ?_) | refine ac F F ?_ | refine ad F F ?_)
     all_goals refine jY (vs:=[_]) ?_
     all_goals rfl
   | some t =>
    have hrn : (bz (bj (c :: r))).isSome = true:=by
     rw [hcs];unfold aT at hrf
     cases hx : bz (c :: r) with
     | none=>rw [hx] at hrf;cases hrf
     | some x=>rfl
    have hbs : bs (c :: r) = [64]:=(i5 hko).2 hrn
    have hnm : bz (c :: r) = some (nm (c :: r)):=by
     unfold nm;rw [hcs] at hrn ⊢
     cases hx : bz (c :: r) with
     | none=>rw [hx] at hrn;cases hrn
     | some x=>rfl
    have hft : gn (ag qs) (nm (c :: r)) = some t:=by unfold aT at hrf;rw [hnm] at hrf;exact hrf
    have hkv:=gz qs (nm (c :: r))
    rw [← gD] at hft
    rcases hfq : en qs (nm (c :: r)) with _ | ⟨p,t'⟩
    ·rw [hfq] at hft;cases hft
    rw [hfq] at hft hkv
    dsimp only [Option.map_some] at hft hkv
    have htt : t' = t:=Option.some.inj hft
    subst htt
    have hqm:=gM hfq
    have htm:=bJ hrf
    have hW:=hw.ty t' htm
    have htg:=hw.tag0 htm
    rw [jm] at htg
    obtain ⟨fv,ln,hsg2,hfv⟩:=h.ty _ hqm
    dsimp only at hsg2 hfv
    have e3 : cm (ag qs) (n + 1 + 1) (c :: r) = if t'.sort = 82 then [123,125] else if t'.sort = 69 then 35 :: a8 (tag0 t') else 60 :: (a8 (tag0 t') ++ 61 :: (cm (ag qs) (n + 1) (fG t') ++ [62])):=by
     rw [cm,if_neg oM,if_neg oM,hrf]
    rw [e3,jm,ke,hbs]
    clear e3 hcs hsg hrn hnm hbs
    by_cases s1 : t'.sort = 82
    ·rw [if_pos s1]
     refine jE [(0,_),(1,_)] Tryz.func181 Tryz.ntmps181 fun B hB=>?_
     repeat' (first | refine jR ?_ | (refine jo ?_;first | refine jO fun _=>?_ | refine ak F ?_ | refine aN F ?_ | refine jV (ao F F aS F F) ?_ | refine ab F F F di F ?_) | refine ac F (ar oM) ?_ | refine ad F F ?_ | (refine ai (am (id:=13) _ (fun _ h=>h) ah ?_);refine jT 4 [0,1,2,4] (aa 8 23) ?_;(refine jG (aa 8 31) 3 F (ao F F aS F F) ?_);(refine jG (aa 8 63) 5 F (aD F F F) ?_);((refine jG (aa 8 127) 6 F (bY F F (dO aS) aS F) ?_));refine jT 0 [7] (aa 8 255) ?_;refine jQ ?_))
     all_goals refine jY (vs:=[_]) ?_
     all_goals rfl
    have h0 : 0 < t'.fields.length:=List.length_pos_iff.2 (hW.ne s1)
    obtain ⟨bf,of,cf,rfl,hsf⟩:=hfv.expl h0
    have hdl:=mQ (n:=(ae t'.fields 0).tag) oM
    rw [if_neg s1]
    by_cases s2 : t'.sort = 69
    ·rw [if_pos s2]
     refine jE [(0,_),(1,_)] Tryz.func181 Tryz.ntmps181 fun B hB=>?_
     repeat' (first | refine jX ?_ | (refine jo ?_;first | refine jO fun _=>?_ | refine ak F ?_ | (refine jV (b9 F F aS ?_ F F) ?_;focus omega) | refine aN F ?_ | refine jV (ao F F aS F F) ?_ | refine jV (ay F F oM) ?_ | refine ab F F F di F ?_ | (refine ab F F F (ge ?_) F ?_;(focus ((simp;omega);done)))) | refine ac F (ar oM) ?_ | (refine ad F (by first | rfl | (refine decide_eq_false ?_;(omega))) ?_) | (refine ai (am (id:=13) _ (fun _ h=>h) ah ?_);refine jT 4 [0,1,2,4] (aa 8 23) ?_;(refine jG (aa 8 31) 3 F (ao F F aS F F) ?_);(refine jG (aa 8 63) 5 F (aD F F F) ?_);((refine jG (aa 8 127) 6 F (bY F F (dO aS) aS F) ?_));refine jT 0 [7] (aa 8 255) ?_;refine jQ ?_))
     all_goals refine jY (vs:=[_]) ?_
     all_goals rfl
    have hin:=dK hw htm s2 (bB h0)
    have hen : ∀ t2,aT (ag qs) (ae t'.fields 0).kind = some t2 → bQ (ag qs) n t2 = true:=by
     intro t2 ht2
     have:=he t' hrf
     have s3 : t'.sort = 85:=by rcases hW.sort with h | h | h <;> omega
     rw [bQ,if_neg (by simp [s3]),ke,ht2] at this
     exact this
    have cx_std:=ih (k:=(ae t'.fields 0).kind) oM hin hen
    have hsl:=lf hw (n + 1) (ae t'.fields 0).kind
    rw [if_neg s2]
    refine jE [(0,_),(1,_)] Tryz.func181 Tryz.ntmps181 fun B hB=>?_
    repeat' (first | refine jR ?_ | (refine jo ?_;first | refine jO fun _=>?_ | refine ak F ?_ | refine aN F ?_ | refine jV (ao F F aS F F) ?_ | refine ab F F F di F ?_) | (refine ad F (by first | rfl | (refine decide_eq_false ?_;(omega))) ?_) | (refine ai (am (id:=13) _ (fun _ h=>h) ah ?_);refine jT 4 [0,1,2,4] (aa 8 23) ?_;(refine jG (aa 8 31) 3 F (ao F F aS F F) ?_);(refine jG (aa 8 63) 5 F (aD F F F) ?_);((refine jG (aa 8 127) 6 F (bY F F (dO aS) aS F) ?_));refine jT 0 [7] (aa 8 255) ?_;refine jQ ?_) | (refine ai (am (id:=19) _ (fun _ h=>h) ah ?_);refine jT 15 [0,1,2,10,11,12,13] (aa 22 15367) ?_;(refine jG (aa 22 15375) 3 F (ao F F aS F F) ?_);(refine jG (aa 22 15391) 4 F (ay F F oM) ?_);refine jT 12 [5] (aa 22 15423) ?_;((refine jG (aa 22 15487) 6 F (b9 F F aS ?_ F F) ?_;focus omega));(refine jG (aa 22 31871) 14 F (ao F F aS F F) ?_);(refine jG (aa 22 64639) 15 F (ay F F oM) ?_);refine jT 8 [16] (aa 22 130175) ?_;((refine jG (aa 22 261247) 17 F (fO F F aS ?_ F F) ?_;focus omega));refine jA 7 F ?_;((refine ab F F F (ge ?_) F ?_;(focus ((simp;omega);done))));refine jS (aa 22 261375) ?_;refine jW 4 [8,9] (aa 22 262143) ?_;refine jA 18 F ?_;(refine ab F F F cx_std F ?_);refine jS (aa 22 524287) ?_;refine jW 0 [19,20,21] (aa 22 4194303) ?_;refine jQ ?_))
    all_goals refine jY (vs:=[_]) ?_
    all_goals (rw [aB];simp)
theorem vY {b : Nat} {qs : List co} (h : ScI G b qs) (hw : SchW (ag qs)) {k : ac1} (hk : aE (ag qs) k = true) : aC ac0 181 [Pt b 0,Ag [S (sg k),S (bs k),S (nm k)]] G (· = S (oQ (ag qs) k)) :=
 vW h hw ((ag qs).length + 1) (by have:=hw.len;omega) hk (fun t ht=>tL hw t ht)
theorem tJ {α : Type} [Inhabited α] {p : α → Bool} : ∀ {l : List α} {i : Nat},i < l.length → (∀ k,k < i → p (ae l k) = false) → p (ae l i) = true → l.find? p = some (ae l i)
 | [],i,hi,_,_=>by simp at hi
 | a :: l,0,_,_,h=>by
  have h : p a = true:=h
  rw [List.find?_cons,h];rfl
 | a :: l,i + 1,hi,hno,h=>by
  have h0 : p a = false:=hno 0 oM
  rw [List.find?_cons,h0]
  exact tJ (l:=l) (i:=i) (by simpa using hi) (fun k hk=>hno (k + 1) oM) h
theorem yT {α : Type} [Inhabited α] {p : α → Bool} {l : List α} (hno : ∀ k,k < l.length → p (ae l k) = false) : l.find? p = none:=by
 rw [List.find?_eq_none]
 intro x hx
 obtain ⟨i,hi,rfl⟩:=List.mem_iff_getElem.1 hx
 have:=hno i hi
 rw [aP hi] at this
 simp [this]
theorem tI {fs : List Fld} {tag : Int} {i : Nat} (hi : i < fs.length) (hno : ∀ k,k < i → (ae fs k).tag ≠ tag) (h : (ae fs i).tag = tag) : br fs tag = some (ae fs i) :=
 tJ hi (fun k hk=>by simpa using hno k hk) (by simpa using h)
theorem yR {fs : List Fld} {tag : Int} (hno : ∀ k,k < fs.length → (ae fs k).tag ≠ tag) : br fs tag = none:=yT fun k hk=>by simpa using hno k hk
theorem d9 {fs : List Fld} {tag : Int} {f : Fld} (h : br fs tag = some f) : ∃ i,i < fs.length ∧ (∀ k,k < i → (ae fs k).tag ≠ tag) ∧ (ae fs i).tag = tag ∧ ae fs i = f:=by
 have hex : ∃ i,i < fs.length ∧ (ae fs i).tag = tag:=by
  have hm:=List.mem_of_find?_eq_some h
  have ht:=List.find?_some h
  obtain ⟨i,hi,rfl⟩:=List.mem_iff_getElem.1 hm
  exact ⟨i,hi,by rw [aP hi];simpa using ht⟩
 obtain ⟨i,hi,ht⟩:=hex
 induction i using Nat.strongRecOn with
 | _ i ih =>
  by_cases hc : ∃ k,k < i ∧ (ae fs k).tag = tag
  ·obtain ⟨k,hk,hkt⟩:=hc
   exact ih k hk oM hkt
  ·have hno : ∀ k,k < i → (ae fs k).tag ≠ tag:=fun k hk e=>hc ⟨k,hk,e⟩
   refine ⟨i,hi,hno,ht,?_⟩
   rw [tI hi hno ht] at h
   exact Option.some.inj h
abbrev zF : Fld:=⟨0,[],[],[]⟩
abbrev abx : TypeId:=128
abbrev acI : TypeId:=122
theorem gF {x : bZ} {tag : Int} (hf : bR G (gJ x) 4 x.2.fields.length (aI gC x.2.fields)) (hl : x.2.fields.length ≤ 1000) :
  aC ac0 114 [Ag [U8 x.2.sort,S x.2.name,gJ x],I tag] G (· = Tu [Ag (gC ((br x.2.fields tag).getD zF)),Bo (br x.2.fields tag).isSome]):=by
 obtain ⟨⟨a,ca⟩,t⟩:=x
 simp only [gJ] at hf ⊢
 dsimp only at hl
 refine jE [(0,_),(1,_)] Tryz.func114 Tryz.ntmps114 fun B hB=>?_
 repeat' (first | refine jR ?_ | (refine jo ?_;first | refine jO fun _=>?_ | refine jL fun _=>?_))
 rename_i y z
 refine aR (ι:=Nat) (fun i=>i ≤ t.fields.length ∧ ∀ k,k < i → (ae t.fields k).tag ≠ tag) (fun i=>[(1,I tag),(2,Pt y 0),(4,Pt z 0),(6,I i)]) (fun _=>G) (fun i=>[.blk z (.cells [I 0,S [],S [],S []].toArray abx (0,0)),.blk y (.cells [U8 t.sort,S t.name,.slice a t.fields.length ca].toArray acI (0,0))]) (fun i=>t.fields.length - i) 0 ?_ tU F aW (fun i Hi=>?_)
 ·exact ⟨Nat.zero_le _,fun k hk=>absurd hk oM⟩
 by_cases hi : i < t.fields.length
 ·obtain ⟨bf,of,cf,e,hs⟩:=hf.expl oM
  simp only [Value.slice.injEq] at e
  obtain ⟨rfl,-,rfl⟩:=e
  repeat' (first | refine jM ?_ | (refine jo ?_;first | refine ak F ?_ | (refine jV (dY F F aS ?_) ?_;focus omega) | (refine jV (b9 F F aS ?_ F F) ?_;focus omega) | refine jV (al F) ?_ | refine jV (ay F F oM) ?_ | refine jC F F F ?_) | refine ac F (ar oM) ?_ | refine er F (fun _=>?_) (fun _=>?_))
  ·rename_i he
   refine jZ (vs:=[_,_]) F ⟨av F F F F,F,trivial⟩ F ⟨F,F,?_⟩
   rw [tI hi Hi.2 he];rfl
  ·rename_i he
   refine aX (i + 1) ⟨oM,fun k hk=>?_⟩ oM tU F aW
   rcases Nat.lt_or_ge k i with h3 | h3
   ·exact Hi.2 k h3
   ·have : k = i:=oM
    subst this;exact he
 ·repeat' (first | refine jR ?_ | (refine jo ?_;first | refine ak F ?_ | refine jV (al F) ?_ | refine jC F F F ?_ | refine jV (an F F) ?_) | refine ad F (aA oM) ?_)
  refine jZ (vs:=[_,_]) F ⟨av F F F F,F,trivial⟩ F ⟨F,F,?_⟩
  rw [yR fun k hk=>Hi.2 k oM];rfl
theorem dV {b : Nat} {t : Ty} {fv : Value} {ln : ac1} {tag : Int} (hs : cE G b 0 [U8 t.sort,S t.name,fv,S ln]) (hf : bR G fv 6 t.fields.length (aI iR t.fields)) (hl : t.fields.length ≤ 1000) (h : br t.fields tag = none) :
  aC ac0 126 [Pt b 0,I tag] G (· = .pointer none):=by
 have hno : ∀ k,k < t.fields.length → (ae t.fields k).tag ≠ tag:=fun k hk e=>by
  have h1:=List.find?_eq_none.1 h (ae t.fields k) (bB hk)
  exact h1 (by simpa using e)
 refine jE [(0,_),(1,_)] Tryz.func126 Tryz.ntmps126 fun B hB=>?_
 repeat' (first | refine jR ?_ | (refine jo ?_;first | refine jV (ao F F aS F F) ?_ | refine jV (fN F aS) ?_))
 refine aR (ι:=Nat) (fun i=>i ≤ t.fields.length) (fun i=>[(0,Pt b 0),(1,I tag),(10,I t.fields.length),(11,I i)]) (fun _=>G) (fun i=>[]) (fun i=>t.fields.length - i) 0 ?_ tU F aW (fun i Hi=>?_)
 ·exact Nat.zero_le _
 by_cases hi : i < t.fields.length
 ·obtain ⟨bf,of,cf,rfl,hsf⟩:=hf.expl oM
  have h2:=hno i hi
  repeat' (first | refine jM ?_ | (refine jo ?_;first | (refine jV (b9 F F aS ?_ F F) ?_;focus omega) | refine jV (ao F F aS F F) ?_ | refine jV (ay F F oM) ?_) | refine ac F (ar oM) ?_ | refine ad F (aA ‹_›) ?_)
  exact aX (i + 1) oM oM tU F aW
 ·repeat' (first | refine jR ?_ | refine ad F (aA oM) ?_)
  refine jY (vs:=[_]) ?_
  rfl
theorem eG {b bf of cf j : Nat} {t : Ty} {ln : ac1} {tag : Int} (hs : cE G b 0 [U8 t.sort,S t.name,.slice (some ⟨bf,of,none⟩) t.fields.length cf,S ln]) (hsf : cE G bf of (aI iR t.fields)) (hl : t.fields.length ≤ 1000) (hj : j < t.fields.length) (hno : ∀ k,k < j → (ae t.fields k).tag ≠ tag) (hat : (ae t.fields j).tag = tag) :
  aC ac0 126 [Pt b 0,I tag] G (· = Pt bf (of + j * 6)):=by
 refine jE [(0,_),(1,_)] Tryz.func126 Tryz.ntmps126 fun B hB=>?_
 repeat' (first | refine jR ?_ | (refine jo ?_;first | refine jV (ao F F aS F F) ?_ | refine jV (al F) ?_))
 refine aR (ι:=Nat) (fun i=>i ≤ j) (fun i=>[(0,Pt b 0),(1,I tag),(10,I t.fields.length),(11,I i)]) (fun _=>G) (fun i=>[]) (fun i=>t.fields.length - i) 0 ?_ tU F aW (fun i Hi=>?_)
 ·exact Nat.zero_le _
 by_cases hij : i = j
 ·subst hij
  repeat' (first | refine jR ?_ | (refine jo ?_;first | (refine jV (b9 F F aS ?_ F F) ?_;focus omega) | refine jV (ao F F aS F F) ?_ | refine jV (ay F F oM) ?_) | (refine ac F (by refine decide_eq_true ?_;first | assumption | omega) ?_))
  all_goals refine jY (vs:=[_]) ?_
  all_goals rfl
 ·have h2:=hno i oM
  repeat' (first | refine jM ?_ | (refine jo ?_;first | (refine jV (b9 F F aS ?_ F F) ?_;focus omega) | refine jV (ao F F aS F F) ?_ | refine jV (ay F F oM) ?_) | refine ac F (ar oM) ?_ | refine ad F (aA ‹_›) ?_)
  exact aX (i + 1) oM oM tU F aW
theorem oD {u : Value} {vs : List bZ} {f : Fld} (h : SchR G u vs) (hw : SchW (af vs)) (hk : aE (af vs) f.kind = true) :
  aC ac0 89 [u,Ag [I f.tag,S f.name,S f.kind,S f.stand]] G (· = S (bI (af vs) f)):=by
 have cx_std:=vX h hw hk
 unfold bI
 by_cases hs : f.stand = []
 ·rw [if_pos hs,hs]
  refine jE [(0,_),(1,_)] Tryz.func89 Tryz.ntmps89 fun B hB=>?_
  repeat' (first | refine jR ?_ | (refine jo ?_;first | refine jO fun _=>?_ | refine ak F ?_ | refine ab F F F cx_std F ?_) | refine ad F F ?_)
  all_goals refine jY (vs:=[_]) ?_
  all_goals rfl
 ·rw [if_neg hs]
  refine jE [(0,_),(1,_)] Tryz.func89 Tryz.ntmps89 fun B hB=>?_
  repeat' (first | refine jR ?_ | (refine jo ?_;first | refine jO fun _=>?_ | refine ak F ?_) | refine ac F (ar ‹_›) ?_)
  all_goals refine jY (vs:=[_]) ?_
  all_goals rfl
theorem uQ {b bf of j : Nat} {qs : List co} {fs : List Fld} (h : ScI G b qs) (hw : SchW (ag qs)) (hsf : cE G bf of (aI iR fs)) (hj : j < fs.length) (hk : aE (ag qs) (ae fs j).kind = true) :
  aC ac0 159 [Pt b 0,Pt bf (of + j * 6)] G (· = S (bI (ag qs) (ae fs j))):=by
 have cx_std:=vY h hw hk
 unfold bI
 by_cases hs : (ae fs j).stand = []
 ·rw [if_pos hs]
  have hs2 : ¬ (ae fs j).stand ≠ []:=fun h=>h hs
  refine jE [(0,_),(1,_)] Tryz.func159 Tryz.ntmps159 fun B hB=>?_
  repeat' (first | refine jR ?_ | (refine jo ?_;first | (refine jV (b9 F F aS ?_ F F) ?_;focus omega) | (refine jV (fO F F aS ?_ F F) ?_;focus omega) | refine ab F F F cx_std F ?_) | refine ad F (aA ‹_›) ?_)
  all_goals refine jY (vs:=[_]) ?_
  all_goals rfl
 ·rw [if_neg hs]
  refine jE [(0,_),(1,_)] Tryz.func159 Tryz.ntmps159 fun B hB=>?_
  repeat' (first | refine jR ?_ | (refine jo ?_;(refine jV (b9 F F aS ?_ F F) ?_;focus omega)) | refine ac F (ar ‹_›) ?_)
  all_goals refine jY (vs:=[_]) ?_
  all_goals rfl
abbrev du : TypeId:=104
abbrev zO : TypeId:=9
theorem cC {w : Nat} {x : ac1} {t : Int} {ks : List V} : V.tot (.nd w x t ks) = 20 + x.length + V.tots ks:=by rw [V.tot]
theorem kX : ∀ (n : Nat) {v : V} {c : VC},v.tot ≤ n → v.tot ≤ 1000000 → V.rep G v c → aC ac0 61 [Ag (bx c)] G (· = S v.out):=by
 intro n
 induction n with
 | zero=>intro v c h1 _ _;have:=i8 v;omega
 | succ n ih =>
  intro v c h1 h2 h
  obtain ⟨w,x,t,ks⟩:=v
  rw [cC] at h1 h2
  obtain ⟨a,k,cs,rfl,hw,ht,h61,hcl,hsl,hks⟩:=fu h
  have hkl:=dx ks
  have hol:=jr ks
  have hjl:=n7 hks
  have hj2:=fM 44 (V.outs ks)
  rw [hol] at hj2
  simp only [bx,VC.sl]
  refine jB (Post:=fun v G' L'=>G' = G ∧ L' = [] ∧ _) [(0,_)] Tryz.func61 Tryz.ntmps61 fun B hok hB hW=>?_
  repeat' (first | refine jR ?_ | (refine jo ?_;first | refine jO fun _=>?_ | refine ak F ?_ | refine jV (al F) ?_))
  rename_i bv
  refine Nx.addNil zO 1 ?_
  refine aR (ι:=Nat × Value) (fun q=>q.1 ≤ ks.length) (fun q=>[(1,Pt bv 0),(2,S []),(3,q.2),(8,.slice a ks.length k),(9,I ks.length),(10,I q.1)]) (fun _=>G) (fun q=>[.acc q.2 zO 1 q.1 (aI dz ((V.outs ks).take q.1)),.blk bv (.cells (List.toArray [U8 w,S x,I t,.slice a ks.length k]) du (0,0))]) (fun q=>ks.length - q.1) (0,aJ) ?_ tU F aW (fun q Hq=>?_)
  ·exact Nat.zero_le _
  obtain ⟨i,pv⟩:=q
  dsimp only at Hq ⊢
  by_cases hi : i < ks.length
  ·have hti:=fT hi
   have cx_pr:=ih oM oM (gv hks i hi)
   obtain ⟨bf,of,cf,e,hs⟩:=hsl.expl oM
   simp only [Value.slice.injEq] at e
   obtain ⟨rfl,-,rfl⟩:=e
   repeat' (first | refine jM ?_ | (refine jo ?_;first | (refine jV (dY F F aS ?_) ?_;focus omega) | refine aN F ?_ | refine jV (ay F F oM) ?_ | refine jL fun _=>?_ | refine jC F F F ?_ | refine jF fun _=>?_ | refine cQ F F F F F F F F F oM fun _ _=>?_ | refine ab F F F cx_pr F ?_) | refine ac F (ar oM) ?_)
   have e2 : aI dz ((V.outs ks).take i) ++ [S (ae ks i).out] = aI dz ((V.outs ks).take (i + 1)):=by rw [d4 oM,cB,lu hi];rfl
   rw [e2]
   exact aX (i + 1,_) (by dsimp only;omega) (by dsimp only;omega) tU rfl sB
  ·have hin : i = ks.length:=oM
   subst hin
   refine Nx.sealA .here fun G1 hG1 hsP=>?_
   rw [← hol,List.take_length] at hsP
   have cx_join:=abg (c:=44) hsP oM
   have hd:=f8 ht.2
   have hE : ks.isEmpty = decide (ks.length = 0):=by cases ks <;> simp
   repeat' (first | refine jX ?_ | (refine jo ?_;first | refine ak F ?_ | refine jV (al F) ?_ | refine ab F F F cx_join F ?_ | refine ab F F F (ge oM) F ?_) | refine ad F (aA oM) ?_ | refine er F (fun _=>?_) (fun _=>?_))
   all_goals refine Nx.base hok hB ?_
   all_goals refine jY (vs:=[_]) ?_
   all_goals (rw [aB,V.out,hE];unfold dv;simp only [decide_eq_true_eq];repeat (first | rw [if_pos oM] | rw [if_neg oM]))
   all_goals (first | rfl | (simp;done))
theorem vS {x : ac1} {t : Int} {u : V} : V.deep (.nd 61 x t [u]) = u.deep:=by rw [V.deep,if_pos rfl,V.deeps,V.deeps,Nat.max_zero]
theorem py (v : V) : ∀ (ks : List V),V.deeps (ks ++ [v]) = max (V.deeps ks) v.deep
 | []=>by simp [V.deeps]
 | u :: r=>by simp only [List.cons_append,V.deeps,py v r];omega
mutual
theorem oo : ∀ v : V,v.deep ≤ v.tot
 | .nd w x t ks=>by
  have:=mP ks
  rw [V.deep,V.tot];split <;> omega
theorem mP : ∀ ks : List V,V.deeps ks ≤ V.tots ks
 | []=>by simp [V.deeps]
 | v :: r=>by
  have:=oo v
  have:=mP r
  rw [V.deeps,V.tots];omega
end
theorem wi : ∀ (n : Nat) {v : V} {c : VC},v.tot ≤ n → v.tot ≤ 1000000 → V.rep G v c → aC ac0 129 [Ag (bx c)] G (· = I (v.deep : Nat)):=by
 intro n
 induction n with
 | zero=>intro v c h1 _ _;have:=i8 v;omega
 | succ n ih =>
  intro v c h1 h2 h
  obtain ⟨w,x,t,ks⟩:=v
  rw [cC] at h1 h2
  obtain ⟨a,k,cs,rfl,hw,ht,h61,hcl,hsl,hks⟩:=fu h
  have hkl:=dx ks
  simp only [bx,VC.sl]
  by_cases hq : w = 61
  ·have hk1:=h61 hq
   have hti:=fT (ks:=ks) (i:=0) oM
   have cx_dp:=ih oM oM (gv hks 0 oM)
   obtain ⟨bf,of,cf,e,hs⟩:=hsl.expl oM
   simp only [Value.slice.injEq] at e
   obtain ⟨rfl,-,rfl⟩:=e
   refine jE [(0,_)] Tryz.func129 Tryz.ntmps129 fun B hB=>?_
   repeat' (first | refine jR ?_ | (refine jo ?_;first | refine jO fun _=>?_ | refine ak F ?_ | (refine jV (dY F F aS ?_) ?_;focus omega) | refine jV (be F F oM) ?_ | refine ab F F F cx_dp F ?_) | refine ac F (ar oM) ?_)
   refine jY (vs:=[_]) ?_
   rw [aB]
   obtain ⟨u,rfl⟩:=List.length_eq_one_iff.1 hk1
   subst hq
   rw [vS];rfl
  ·rw [ck hq]
   refine jE [(0,_)] Tryz.func129 Tryz.ntmps129 fun B hB=>?_
   repeat' (first | refine jR ?_ | (refine jo ?_;first | refine jO fun _=>?_ | refine ak F ?_ | refine jV (al F) ?_) | refine ad F (aA oM) ?_)
   rename_i bv
   refine Nx.re (d:=3) (v':=I (V.deeps (ks.take 0) : Nat)) F F ?_
   refine aR (ι:=Nat) (fun i=>i ≤ ks.length) (fun i=>[(3,I (V.deeps (ks.take i) : Nat)),(15,.slice a ks.length k),(16,I ks.length),(17,I i)]) (fun _=>G) (fun i=>[]) (fun i=>ks.length - i) 0 ?_ tU F (by repeat (exact List.nil_sublist _)) (fun i Hi=>?_)
   ·exact Nat.zero_le _
   by_cases hi : i < ks.length
   ·have hti:=fT hi
    have cx_dp:=ih oM oM (gv hks i hi)
    obtain ⟨bf,of,cf,e,hs⟩:=hsl.expl oM
    simp only [Value.slice.injEq] at e
    obtain ⟨rfl,-,rfl⟩:=e
    repeat' (first | refine jM ?_ | (refine jo ?_;first | (refine jV (dY F F aS ?_) ?_;focus omega) | refine aN F ?_ | refine jV (ay F F oM) ?_ | refine jL fun _=>?_ | refine jC F F F ?_ | refine jV (abQ F F) ?_ | refine ab F F F cx_dp F ?_) | refine ac F (ar oM) ?_)
    refine Nx.re (d:=3) (v':=I (V.deeps (ks.take (i + 1)) : Nat)) F (congrArg (Value.int .i64) (by rw [d4 hi,py];omega)) ?_
    exact aX (i + 1) oM oM tU F (by repeat (exact List.nil_sublist _))
   ·have hin : i = ks.length:=oM
    subst hin
    rw [List.take_length]
    have hdt:=mP ks
    repeat' (first | refine jM ?_ | refine ad F (aA oM) ?_)
    refine jY (vs:=[_]) ?_
    rw [aB];congr 1
abbrev acK : TypeId:=183
theorem sU {s p : ac1} (hs : s.length ≤ 1000000 ∧ p.length ≤ 1000000) : aC ac0 195 [S s,S p] G (· = Tu [S (if p.isPrefixOf s = true then s.drop p.length else s),Bo (p.isPrefixOf s)]):=by
 have cx_hp : aC ac0 157 [S s,S p] G (· = Bo (p.isPrefixOf s)):=hO
 cases hp : p.isPrefixOf s with
 | false =>
  rw [hp] at cx_hp
  refine jE [(0,_),(1,_)] Tryz.func195 Tryz.ntmps195 fun B hB=>?_
  repeat' (first | refine jR ?_ | (refine jo ?_;refine ab F F F hO F ?_) | (refine ac F ?_ ?_;(focus ((simp [*];done);done))))
  refine jY (vs:=[_,_]) ?_
  rfl
 | true =>
  rw [hp] at cx_hp
  have hl : p.length ≤ s.length:=by
   have:=List.isPrefixOf_iff_prefix.1 hp
   exact this.length_le
  refine jE [(0,_),(1,_)] Tryz.func195 Tryz.ntmps195 fun B hB=>?_
  repeat' (first | refine jM ?_ | (refine jo ?_;refine ab F F F hO F ?_) | (refine ad F ?_ ?_;(focus ((simp [*];done);done))))
  refine jY (vs:=[_,_]) ?_
  rfl
theorem tf {s p : ac1} (hs : s.length ≤ 1000000 ∧ p.length ≤ 1000000) : aC ac0 184 [S s,S p] G (· = Tu [S (if p.isPrefixOf s = true then s.drop p.length else s),Bo (p.isPrefixOf s)]):=by
 have cx_cp:=sU (G:=G) hs
 refine jE [(0,_),(1,_)] Tryz.func184 Tryz.ntmps184 fun B hB=>?_
 repeat' (first | refine jR ?_ | (refine jo ?_;refine ab F F F cx_cp F ?_))
 refine jY (vs:=[_,_]) ?_
 rfl
def cO (l s : ac1) (b : Bool) : Bool:=!b && l.isPrefixOf s
def dR (l s : ac1) (b : Bool) : ac1:=if cO l s b = true then s.drop l.length else s
abbrev dX (r sc : Nat) (s : ac1) (b : Bool) : Own:=.blk r (.cells (List.toArray [Pt sc 0,S s,Bo b]) acK (0,0))
theorem hC {r sc : Nat} {s l : ac1} {b : Bool} (hs : s.length ≤ 1000000 ∧ l.length ≤ 1000000) : c8 ac0 163 [Pt r 0,S l] G [dX r sc s b] (fun v L'=>v = Bo (cO l s b) ∧ L' = [dX r sc (dR l s b) b]):=by
 have cx_cp:=tf (G:=G) hs
 unfold dR cO
 cases hp : l.isPrefixOf s with
 | false =>
  rw [hp] at cx_cp
  refine jH [(0,_),(1,_)] Tryz.func163 Tryz.ntmps163 fun B hB hW=>?_
  repeat' (first | refine jR ?_ | (refine jo ?_;first | refine ak F ?_ | refine aw F ?_ | refine ab F F F cx_cp F ?_) | refine aj F F F ?_ | refine ad F F ?_)
  exact bh (vs:=[_]) F ⟨F,trivial⟩ F (List.Sublist.refl _) ⟨F,by cases b <;> rfl,by cases b <;> rfl⟩
 | true =>
  rw [hp] at cx_cp
  cases b with
  | true =>
   refine jH [(0,_),(1,_)] Tryz.func163 Tryz.ntmps163 fun B hB hW=>?_
   repeat' (first | refine jR ?_ | (refine jo ?_;first | refine ak F ?_ | refine aH F ?_ | refine ab F F F cx_cp F ?_) | refine ax F F F ?_ | refine ad F F ?_)
   exact bh (vs:=[_]) F ⟨F,trivial⟩ F (List.Sublist.refl _) ⟨F,F,F⟩
  | false =>
   refine jH [(0,_),(1,_)] Tryz.func163 Tryz.ntmps163 fun B hB hW=>?_
   repeat' (first | refine jR ?_ | (refine jo ?_;first | refine ak F ?_ | refine aH F ?_ | refine jD F F F ?_ | refine ab F F F cx_cp F ?_) | refine ax F F F ?_ | refine ac F F ?_)
   exact bh (vs:=[_]) F ⟨F,trivial⟩ F (List.Sublist.refl _) ⟨F,F,F⟩
theorem dq {r sc : Nat} {s l : ac1} {b : Bool} (hs : s.length ≤ 1000000 ∧ l.length ≤ 1000000) : c8 ac0 164 [Pt r 0,S l] G [dX r sc s b] (fun v L'=>L' = [dX r sc (dR l s b) (!cO l s b)]):=by
 have cx_tk:=hC (G:=G) (r:=r) (sc:=sc) (b:=b) hs
 cases ht : cO l s b with
 | false =>
  rw [ht] at cx_tk
  refine jH [(0,_),(1,_)] Tryz.func164 Tryz.ntmps164 fun B hB hW=>?_
  repeat' (first | refine jR ?_ | (refine jo ?_;first | refine jD F F F ?_ | (refine aq F F F cx_tk F ?_;rintro _ _ ⟨rfl,rfl⟩;dsimp only [zA,fA])) | refine ac F F ?_)
  exact ob (vs:=[]) F trivial F (List.Sublist.refl _) ⟨F,F⟩
 | true =>
  have hb : b = false:=by unfold cO at ht;cases b <;> simp_all
  subst hb
  rw [ht] at cx_tk
  refine jH [(0,_),(1,_)] Tryz.func164 Tryz.ntmps164 fun B hB hW=>?_
  repeat' (first | refine jR ?_ | (refine jo ?_;(refine aq F F F cx_tk F ?_;rintro _ _ ⟨rfl,rfl⟩;dsimp only [zA,fA])) | refine ad F F ?_)
  exact ob (vs:=[]) F trivial F (List.Sublist.refl _) ⟨F,F⟩
theorem k8 {p : Nat → Bool} {q : UInt8 → Bool} (h : ∀ c : UInt8,p c.toNat = q c) : ∀ s : ac1,dl p s = s.dropWhile q
 | []=>rfl
 | c :: r=>by
  rw [dl,h c,List.dropWhile_cons]
  cases q c with
  | true=>simp only [if_true];exact k8 h r
  | false=>simp
theorem aaK : ∀ c : UInt8,eV [48,49,50,51,52,53,54,55,56,57] c.toNat = aY c:=by
 intro c
 have : ∀ n : Nat,n < 256 → eV [48,49,50,51,52,53,54,55,56,57] n = decide (48 ≤ n ∧ n ≤ 57):=by decide +kernel
 exact this _ c.toNat_lt
def txB : ac1:=[97,98,99,100,101,102,103,104,105,106,107,108,109,110,111,112,113,114,115,116,117,118,119,120,121,122,48,49,50,51,52,53,54,55,56,57,32]
def cT (c : UInt8) : Bool:=decide (iP c.toNat)
theorem zM : ∀ c : UInt8,eV txB c.toNat = cT c:=by
 intro c
 have : ∀ n : Nat,n < 256 → eV txB n = decide (iP n):=by decide +kernel
 exact this _ c.toNat_lt
theorem j4 (q : UInt8 → Bool) (s : ac1) : s.take (s.length - (s.dropWhile q).length) = s.takeWhile q:=by
 have h:=List.takeWhile_append_dropWhile (p:=q) (l:=s)
 have hl : (s.takeWhile q).length + (s.dropWhile q).length = s.length:=by
  have:=congrArg List.length h
  rwa [List.length_append] at this
 have e : s.length - (s.dropWhile q).length = (s.takeWhile q).length:=oM
 rw [e]
 have h2 : (s.takeWhile q ++ s.dropWhile q).take (s.takeWhile q).length = s.takeWhile q:=List.take_left
 rwa [h] at h2
theorem dQ (q : UInt8 → Bool) (s : ac1) : (s.takeWhile q).length + (s.dropWhile q).length = s.length:=by
 have h:=List.takeWhile_append_dropWhile (p:=q) (l:=s)
 have:=congrArg List.length h
 rwa [List.length_append] at this
theorem pP (x : ac1) : cX (39 :: (x ++ [39])) = true ↔ x.length ≤ 12 ∧ ∀ c ∈ x,cT c = true:=by
 unfold cX
 rw [decide_eq_true_eq]
 unfold ya
 have e0 : bt (39 :: (x ++ [39])) 0 = 39:=a6 _ _
 have e1 : (39 :: (x ++ [39]) : ac1).length = x.length + 2:=by simp
 have e2 : bt (39 :: (x ++ [39])) (x.length + 1) = 39:=by
  rw [dG];simp [bt]
 have e3 : ∀ i,i < x.length → bt (39 :: (x ++ [39])) (i + 1) = bt x i:=fun i hi=>by
  rw [dG];simp [bt,List.getD,List.getElem?_append_left hi]
 rw [e1,show x.length + 2 - 1 = x.length + 1 by omega]
 constructor
 ·rintro ⟨⟨_,h1⟩,_,_,h2⟩
  refine ⟨oM,fun c hc=>?_⟩
  obtain ⟨i,hi,rfl⟩:=List.mem_iff_getElem.1 hc
  have:=h2 (i + 1) oM
  rw [e3 i hi] at this
  have h3 : bt x i = (x[i]).toNat:=by simp [bt,List.getD,List.getElem?_eq_getElem hi]
  rw [h3] at this
  unfold cT
  rw [decide_eq_true_eq]
  rcases this with h | h
  ·omega
  ·exact h
 ·rintro ⟨h1,h2⟩
  refine ⟨⟨oM,oM⟩,e0,e2,fun i hi=>?_⟩
  cases i with
  | zero=>exact .inl F
  | succ i =>
   have hi' : i < x.length:=oM
   rw [e3 i hi']
   have h3 : bt x i = (x[i]).toNat:=by simp [bt,List.getD,List.getElem?_eq_getElem hi']
   rw [h3]
   have:=h2 _ (List.getElem_mem hi')
   unfold cT at this
   rw [decide_eq_true_eq] at this
   exact .inr this
theorem aae {c : UInt8} (h : c.toNat = 39) : cT c = false:=by
 have : c = 39:=UInt8.toNat_inj.1 h
 subst this;decide
theorem vt (s : ac1) : dh s = match s with
  | []=>none
  | c :: r=>if c.toNat = 39 then (match r.dropWhile cT with
   | []=>none
   | d :: t=>if d.toNat = 39 ∧ (r.takeWhile cT).length ≤ 12 then some (.nd 116 (r.takeWhile cT) 0 [],t) else none) else none:=by
 cases s with
 | nil=>rfl
 | cons c r =>
  unfold dh
  dsimp only
  by_cases hc : c.toNat = 39
  ·rw [if_pos hc,if_pos hc]
   have hcut : ∀ r : ac1,aG 39 r = match r.dropWhile cT with
    | []=>(r,[],false)
    | d :: t=>if d.toNat = 39 then (r.takeWhile cT,t,true) else (r.takeWhile cT ++ (aG 39 (d :: t)).1,(aG 39 (d :: t)).2):=by
    intro r
    induction r with
    | nil=>rfl
    | cons x r ih =>
     rw [List.dropWhile_cons,List.takeWhile_cons]
     by_cases hx : cT x = true
     ·rw [if_pos hx,if_pos hx]
      have h39 : ¬ x.toNat = 39:=fun h=>by rw [aae h] at hx;cases hx
      rw [aG,if_neg h39,ih]
      cases hd : r.dropWhile cT with
      | nil=>rfl
      | cons d t =>
       dsimp only
       split
       ·rfl
       ·rfl
     ·rw [if_neg hx,if_neg hx]
      dsimp only
      split
      ·rename_i h39;rw [aG,if_pos h39]
      ·simp
   rw [hcut]
   cases hd : r.dropWhile cT with
   | nil=>rfl
   | cons d t =>
    dsimp only
    by_cases h39 : d.toNat = 39
    ·rw [if_pos h39]
     dsimp only
     by_cases h12 : (r.takeWhile cT).length ≤ 12
     ·rw [if_pos ((pP _).2 ⟨h12,fun c hc=>List.all_eq_true.1 (List.all_takeWhile (l:=r) (p:=cT)) c hc⟩),if_pos ⟨h39,h12⟩]
     ·rw [if_neg (fun h=>h12 ((pP _).1 h).1),if_neg (fun h=>h12 h.2)]
    ·rw [if_neg h39,if_neg (fun h=>h39 h.1)]
     cases hcc : aG 39 (d :: t) with
     | mk a b =>
      obtain ⟨b,f⟩:=b
      cases f with
      | false=>rfl
      | true =>
       dsimp only
       rw [if_neg]
       intro h
       have hall:=((pP _).1 h).2
       have hdx : cT d = false:=by
        have:=List.head_dropWhile_not (p:=cT) (l:=r) (by rw [hd];simp)
        simpa [hd] using this
       have ha : d ∈ a:=by
        rw [aG,if_neg h39] at hcc
        simp only [Prod.mk.injEq] at hcc
        rw [← hcc.1];simp
       have:=hall d (List.mem_append_right _ ha)
       rw [hdx] at this;cases this
  ·rw [if_neg hc,if_neg hc]
theorem lT {r sc : Nat} {s : ac1} {b : Bool} {top : Int} (hs : s.length ≤ 1000000) : c8 ac0 165 [Pt r 0,I top] G [dX r sc s b]
  (fun v L'=>∃ n,v = I n ∧ (0 ≤ n ∧ n ≤ 999999) ∧ (∀ m,aL (s.takeWhile aY) top = some m → n = m) ∧ L' = [dX r sc (s.dropWhile aY) (b || (aL (s.takeWhile aY) top).isNone)]):=by
 have hwl:=dQ aY s
 have cx_tl : aC ac0 119 [S s,S [48,49,50,51,52,53,54,55,56,57]] G (· = S (s.dropWhile aY)):=by
  rw [← k8 aaK]
  exact lX F kR F
 have e1 : s.take (((s.length : Nat) : Int) - (((s.dropWhile aY).length : Nat) : Int)).toNat = s.takeWhile aY:=by
  rw [← j4];congr 1;omega
 have cx_pnB:=io (G:=G) (s:=s.takeWhile aY) (top:=top) oM
 rw [← e1] at cx_pnB
 cases hnum2 : (aL (s.takeWhile aY) top) with
 | none =>
  rw [← e1] at hnum2
  have hno : (!(aL (s.take (((s.length : Nat) : Int) - (((s.dropWhile aY).length : Nat) : Int)).toNat) top).isSome) = true:=by rw [hnum2];rfl
  refine jH [(0,_),(1,_)] Tryz.func165 Tryz.ntmps165 fun B hB hW=>?_
  repeat' (first | refine jR ?_ | (refine jo ?_;first | refine ak F ?_ | refine jD F F F ?_ | refine ab F F F cx_tl F ?_) | refine ac F ‹_› ?_ | (refine ai (am (id:=2) _ (fun _ h=>h) ah ?_);refine jT 11 [0,1,2,4,5,6,9,10,13] (aa 20 9847) ?_;(refine jG (aa 20 9855) 3 F (aD F F F) ?_);(refine jG (aa 20 9983) 7 F (aD F F F) ?_);refine jW 6 [8,11,12] (aa 20 16383) ?_;refine jA 14 F ?_;(refine cZ F F F cx_pnB F ?_;rintro _ ⟨n,rfl,hnum,hn0,hn1⟩);refine jS (aa 20 32767) ?_;refine jT 0 [15,16,17,18,19] (aa 20 1048575) ?_;refine jQ ?_))
  exact bh (vs:=[_]) F ⟨F,trivial⟩ F (List.Sublist.refl _) ⟨F,_,F,⟨hn0,hn1⟩,fun m hm=>(by cases hm),by simp⟩
 | some m =>
  rw [← e1] at hnum2
  have hno : (!(aL (s.take (((s.length : Nat) : Int) - (((s.dropWhile aY).length : Nat) : Int)).toNat) top).isSome) = false:=by rw [hnum2];rfl
  refine jH [(0,_),(1,_)] Tryz.func165 Tryz.ntmps165 fun B hB hW=>?_
  repeat' (first | refine jR ?_ | (refine jo ?_;first | refine ak F ?_ | refine jD F F F ?_ | refine ab F F F cx_tl F ?_) | refine ad F ‹_› ?_ | (refine ai (am (id:=2) _ (fun _ h=>h) ah ?_);refine jT 11 [0,1,2,4,5,6,9,10,13] (aa 20 9847) ?_;(refine jG (aa 20 9855) 3 F (aD F F F) ?_);(refine jG (aa 20 9983) 7 F (aD F F F) ?_);refine jW 6 [8,11,12] (aa 20 16383) ?_;refine jA 14 F ?_;(refine cZ F F F cx_pnB F ?_;rintro _ ⟨n,rfl,hnum,hn0,hn1⟩);refine jS (aa 20 32767) ?_;refine jT 0 [15,16,17,18,19] (aa 20 1048575) ?_;refine jQ ?_))
  exact bh (vs:=[_]) F ⟨F,trivial⟩ F (List.Sublist.refl _) ⟨F,_,F,⟨hn0,hn1⟩,fun m' hm=>hnum m' (by rw [hnum2];exact hm),by simp⟩
theorem jl {l s : ac1} {b : Bool} : (dR l s b).length ≤ s.length:=by unfold dR;split <;> simp
theorem fm {c : UInt8} {s : ac1} : cO [c] s false = true ↔ ∃ r,s = c :: r:=by
 cases s with
 | nil =>
  constructor
  ·intro h;simp [cO,List.isPrefixOf] at h
  ·rintro ⟨r,h⟩;cases h
 | cons d r =>
  constructor
  ·intro h
   have : c = d:=by simpa [cO,List.isPrefixOf] using h
   exact ⟨r,by rw [this]⟩
  ·rintro ⟨r',h⟩
   simp only [List.cons.injEq] at h
   simp [cO,List.isPrefixOf,h.1]
theorem gg {c : UInt8} {r : ac1} : dR [c] (c :: r) false = r:=by unfold dR;rw [if_pos (fm.2 ⟨r,rfl⟩)];rfl
theorem gH {l s : ac1} : cO l s true = false:=by simp [cO]
theorem iJ {l s : ac1} : dR l s true = s:=by simp [dR,gH]
theorem gt {l s : ac1} {b : Bool} (h : cO l s b = false) : dR l s b = s:=by simp [dR,h]
def QuP (s : ac1) (b : Bool) (x s' : ac1) (b' : Bool) : Prop :=
 x.length + s'.length ≤ s.length ∧ (b' = false → b = false ∧ dh s = some (.nd 116 x 0 [],s')) ∧ (b' = true → b = true ∨ dh s = none)
theorem aaa (s : ac1) (b : Bool) : QuP s b ((dR [39] s b).takeWhile cT) (dR [39] ((dR [39] s b).dropWhile cT) (!cO [39] s b)) (!cO [39] ((dR [39] s b).dropWhile cT) (!cO [39] s b) || decide (12 < ((dR [39] s b).takeWhile cT).length)):=by
 have hl : ((dR [39] s b).takeWhile cT).length + (dR [39] ((dR [39] s b).dropWhile cT) (!cO [39] s b)).length ≤ s.length:=by
  have h1:=jl (l:=[39]) (s:=s) (b:=b)
  have h2:=dQ cT (dR [39] s b)
  have h3:=jl (l:=[39]) (s:=(dR [39] s b).dropWhile cT) (b:=!cO [39] s b)
  omega
 refine ⟨hl,?_⟩
 rw [vt]
 cases b with
 | true=>rw [iJ,gH];simp [gH]
 | false =>
  cases ht : cO [39] s false with
  | false =>
   simp only [Bool.not_false,gH,Bool.true_or]
   refine ⟨fun h=>(by cases h),fun _=>.inr ?_⟩
   cases s with
   | nil=>rfl
   | cons c r =>
    dsimp only
    rw [if_neg]
    intro hc
    have : cO [39] (c :: r) false = true:=fm.2 ⟨r,by rw [show c = 39 from UInt8.toNat_inj.1 hc]⟩
    rw [this] at ht;cases ht
  | true =>
   obtain ⟨r,rfl⟩:=fm.1 ht
   rw [gg]
   dsimp only
   rw [if_pos (show (39 : UInt8).toNat = 39 from rfl),Bool.not_true]
   cases ht2 : cO [39] (r.dropWhile cT) false with
   | false =>
    simp only [Bool.not_false,Bool.true_or]
    refine ⟨fun h=>(by cases h),fun _=>.inr ?_⟩
    cases hd : r.dropWhile cT with
    | nil=>rfl
    | cons d t =>
     dsimp only
     rw [if_neg]
     rintro ⟨hc,_⟩
     have : cO [39] (r.dropWhile cT) false = true:=fm.2 ⟨t,by rw [hd,show d = 39 from UInt8.toNat_inj.1 hc]⟩
     rw [this] at ht2;cases ht2
   | true =>
    obtain ⟨t,hd⟩:=fm.1 ht2
    rw [hd,gg]
    dsimp only
    by_cases h12 : 12 < (r.takeWhile cT).length
    ·rw [decide_eq_true h12,if_neg (fun h=>by omega)]
     exact ⟨fun h=>(by cases h),fun _=>.inr F⟩
    ·rw [decide_eq_false h12,if_pos ⟨rfl,oM⟩]
     exact ⟨fun _=>⟨F,F⟩,fun h=>(by cases h)⟩
theorem zp {r sc : Nat} {s : ac1} {b : Bool} (hs : s.length ≤ 1000000) : c8 ac0 166 [Pt r 0] G [dX r sc s b]
  (fun v L'=>∃ x s' b',v = S x ∧ QuP s b x s' b' ∧ L' = [dX r sc s' b']):=by
 have hq:=aaa s b
 have h1:=jl (l:=[39]) (s:=s) (b:=b)
 have h2:=dQ cT (dR [39] s b)
 have h3:=jl (l:=[39]) (s:=(dR [39] s b).dropWhile cT) (b:=!cO [39] s b)
 have cx_wa:=dq (G:=G) (r:=r) (sc:=sc) (s:=s) (l:=[39]) (b:=b) ⟨hs,by simp⟩
 have cx_wb:=dq (G:=G) (r:=r) (sc:=sc) (s:=(dR [39] s b).dropWhile cT) (l:=[39]) (b:=!cO [39] s b) ⟨oM,by simp⟩
 have cx_tl : aC ac0 119 [S (dR [39] s b),S [97,98,99,100,101,102,103,104,105,106,107,108,109,110,111,112,113,114,115,116,117,118,119,120,121,122,48,49,50,51,52,53,54,55,56,57,32]] G (· = S ((dR [39] s b).dropWhile cT)):=by
  rw [← k8 zM]
  exact lX F kR F
 have e1 : (dR [39] s b).take ((((dR [39] s b).length : Nat) : Int) - ((((dR [39] s b).dropWhile cT).length : Nat) : Int)).toNat = (dR [39] s b).takeWhile cT:=by
  rw [← j4];congr 1;omega
 by_cases h12 : 12 < ((dR [39] s b).takeWhile cT).length
 ·rw [decide_eq_true h12,Bool.or_true] at hq
  rw [← e1] at h12
  refine jH [(0,_)] Tryz.func166 Tryz.ntmps166 fun B hB hW=>?_
  repeat' (first | refine jR ?_ | (refine jo ?_;first | refine ak F ?_ | refine jD F F F ?_ | (refine aq F F F cx_wa F ?_;rintro _ _ rfl;dsimp only [zA,fA]) | (refine aq F F F cx_wb F ?_;rintro _ _ rfl;dsimp only [zA,fA]) | refine ab F F F cx_tl F ?_) | refine ac F (ar oM) ?_ | (refine ai (am (id:=3) _ (fun _ h=>h) ah ?_);refine jT 6 [0,1,2,4,5,6,9,10] (aa 14 1655) ?_;(refine jG (aa 14 1663) 3 F (aD F F F) ?_);(refine jG (aa 14 1791) 7 F (aD F F F) ?_);refine jW 0 [8,11,12,13] (aa 14 16383) ?_;refine jQ ?_))
  all_goals exact bh (vs:=[_]) F ⟨F,trivial⟩ F (List.Sublist.refl _) ⟨F,_,_,_,F,by rw [e1];exact hq,F⟩
 ·rw [decide_eq_false h12,Bool.or_false] at hq
  rw [← e1] at h12
  refine jH [(0,_)] Tryz.func166 Tryz.ntmps166 fun B hB hW=>?_
  repeat' (first | refine jR ?_ | (refine jo ?_;first | refine ak F ?_ | refine jD F F F ?_ | (refine aq F F F cx_wa F ?_;rintro _ _ rfl;dsimp only [zA,fA]) | (refine aq F F F cx_wb F ?_;rintro _ _ rfl;dsimp only [zA,fA]) | refine ab F F F cx_tl F ?_) | refine ad F (aA oM) ?_ | (refine ai (am (id:=3) _ (fun _ h=>h) ah ?_);refine jT 6 [0,1,2,4,5,6,9,10] (aa 14 1655) ?_;(refine jG (aa 14 1663) 3 F (aD F F F) ?_);(refine jG (aa 14 1791) 7 F (aD F F F) ?_);refine jW 0 [8,11,12,13] (aa 14 16383) ?_;refine jQ ?_))
  all_goals exact bh (vs:=[_]) F ⟨F,trivial⟩ F (List.Sublist.refl _) ⟨F,_,_,_,F,by rw [e1];exact hq,F⟩
def RdP (f : ac1 → Option (V × ac1)) (s : ac1) (b : Bool) (u : V) (s' : ac1) (b' : Bool) : Prop :=
 s'.length ≤ s.length ∧ (b' = false → b = false ∧ f s = some (u,s')) ∧ (b' = true → (b = true ∨ f s = none) ∧ u.tot + 100 * s'.length ≤ 100 * s.length + 100)
def ir (f : ac1 → Option (V × ac1)) (r sc : Nat) (s : ac1) (b : Bool) (v : Value) (G' : Gh) (L' : List Own) : Prop :=
 ∃ u c s' b',v = Ag (bx c) ∧ V.rep G' u c ∧ L' = [dX r sc s' b'] ∧ RdP f s b u s' b'
def m6 (n sc : Nat) (qs : List co) : Prop:=∀ (G : Gh) (r : Nat) (k s : ac1) (b : Bool),ScI G sc qs → aE (ag qs) k = true → s.length < n → s.length ≤ 1000 →
 dw ac0 133 [Pt r 0,Ag (cS k)] G [dX r sc s b] (ir (rd (ag qs) n k) r sc s b)
def eR (f : ac1 → Option (V × ac1)) : ac1 → Option (V × ac1)
 | []=>none
 | d :: s'=>if d.toNat = 91 then (match s' with
   | []=>none
   | e :: r=>if e.toNat = 93 then some (.nd 91 [] 0 [],r) else (a9 f 20 s' []).map fun x=>(.nd 91 [] 0 x.1,x.2)) else none
theorem mt {f : ac1 → Option (V × ac1)} (hf : ∀ s x,f s = some x → x.2.length < s.length) : ∀ (m M : Nat) (s : ac1) (acc : List V),s.length < M →
  a9 f m s acc = match a9 f M s acc with
   | none=>none
   | some x=>if x.1.length ≤ acc.length + m then some x else none
 | 0,M,s,acc,hM=>by
  cases hr : a9 f M s acc with
  | none=>rfl
  | some x =>
   have : acc.length + 1 ≤ x.1.length:=by
    clear hM
    induction M generalizing s acc with
    | zero=>cases hr
    | succ M ih =>
     unfold a9 at hr
     cases hfs : f s with
     | none=>rw [hfs] at hr;cases hr
     | some y =>
      rw [hfs] at hr
      obtain ⟨v,r⟩:=y
      cases r with
      | nil=>cases hr
      | cons c r =>
       dsimp only at hr
       split at hr
       ·have:=ih _ _ hr;simp at this;omega
       ·split at hr
        ·simp only [Option.some.injEq] at hr;subst hr;simp
        ·cases hr
   dsimp only
   rw [if_neg oM];rfl
 | m + 1,0,s,acc,hM=>by omega
 | m + 1,M + 1,s,acc,hM=>by
  rw [a9,a9]
  cases hfs : f s with
  | none=>rfl
  | some y =>
   have hlt:=hf _ _ hfs
   obtain ⟨v,r⟩:=y
   cases r with
   | nil=>rfl
   | cons c r =>
    simp only [List.length_cons] at hlt
    dsimp only
    split
    ·rw [mt hf m M r (acc ++ [v]) oM]
     cases a9 f M r (acc ++ [v]) with
     | none=>rfl
     | some x=>dsimp only;simp only [List.length_append,List.length_singleton];congr 1;simp;omega
    ·split
     ·dsimp only;rw [if_pos (by simp)]
     ·rfl
theorem iY {f : ac1 → Option (V × ac1)} {t : ac1} {vs : List V} : ∀ {m : Nat},(f t = none ∨ ∃ u,f t = some (u,[])) → a9 f m t vs = none
 | 0,_=>rfl
 | m + 1,h=>by
  rw [a9]
  rcases h with h | ⟨u,h⟩ <;> rw [h]
theorem iX {f : ac1 → Option (V × ac1)} {t t2 : ac1} {c : UInt8} {u : V} {vs : List V} {m : Nat} (h : f t = some (u,c :: t2)) (hm : 0 < m) :
  a9 f m t vs = if c.toNat = 44 then a9 f (m - 1) t2 (vs ++ [u]) else if c.toNat = 93 then some (vs ++ [u],t2) else none:=by
 obtain ⟨m,rfl⟩ : ∃ k,m = k + 1:=⟨m - 1,oM⟩
 rw [a9,h];rfl
theorem ic {ts : List Ty} {n : Nat} {k s : ac1} {x : V × ac1} (h : rd ts n k s = some x) : x.2.length < s.length:=by
 have:=iB n k s x h
 have:=i8 x.1
 omega
abbrev eI : TypeId:=99
abbrev qS (b : Nat) (cs : List Value) : Own:=.blk b (.cells cs.toArray du (0,0))
theorem aa3 {n r sc : Nat} {qs : List co} {k s : ac1} {b : Bool} (hV : m6 n sc qs) (hS : ScI G sc qs) (hk : aE (ag qs) k = true) (hs : s.length ≤ n ∧ s.length ≤ 1000) :
  dw ac0 162 [Pt r 0,Ag (cS k)] G [dX r sc s b] (ir (eR (rd (ag qs) n k)) r sc s b):=by
 have cx_wa:=dq (G:=G) (r:=r) (sc:=sc) (s:=s) (l:=[91]) (b:=b) ⟨oM,by simp⟩
 have cx_tk:=hC (G:=G) (r:=r) (sc:=sc) (s:=dR [91] s b) (l:=[93]) (b:=!cO [91] s b) ⟨by have:=jl (l:=[91]) (s:=s) (b:=b);omega,by simp⟩
 simp only [cS]
 cases ht : cO [91] s b with
 | false =>
  rw [ht,gt ht] at cx_wa cx_tk
  rw [Bool.not_false,gH,iJ] at cx_tk
  have cx_wb:=dq (G:=G) (r:=r) (sc:=sc) (s:=s) (l:=[93]) (b:=true) ⟨oM,by simp⟩
  rw [gH,iJ] at cx_wb
  refine cG [(0,_),(1,_)] Tryz.func162 kR Tryz.ntmps162 F F tU fun B hB hW=>?_
  repeat' (first | refine jR ?_ | (refine jo ?_;first | refine jO fun _=>?_ | refine jL fun _=>?_ | refine jV (an F F) ?_ | refine jC F F F ?_ | (refine aq F F F cx_wa F ?_;rintro _ _ rfl;dsimp only [zA,fA]) | (refine aq F F F cx_tk F ?_;rintro _ _ ⟨rfl,rfl⟩;dsimp only [zA,fA])) | refine ad F F ?_)
  rename_i x3 x4 x5 _
  refine aR (ι:=Unit) (fun i=>True) (fun i=>[(0,Pt r 0),(4,Pt x4 0),(5,Pt x5 0)]) (fun _=>G) (fun i=>[dX r sc s true,qS x5 [U8 91,S [],I 0,aJ],qS x4 [U8 0,S [],I 0,aJ]]) (fun i=>0) () ?_ tU F sB (fun i Hi=>?_)
  ·trivial
  repeat' (first | refine jR ?_ | (refine jo ?_;first | refine jC F F F ?_ | refine ak F ?_ | refine aN F ?_ | refine jV (al F) ?_ | (refine aq F F F cx_wb F ?_;rintro _ _ rfl;dsimp only [zA,fA])) | refine ad F F ?_)
  refine bh (vs:=[_]) F ⟨av F F F F,trivial⟩ F sB ⟨Gh.le.refl _,.nd 91 [] 0 [],⟨91,[],0,none,0,0⟩,s,true,F,bq dC dC,F,Nat.le_refl _,fun h=>(by cases h),fun _=>⟨?_,by simp only [V.tot,V.tots,List.length_nil];omega⟩⟩
  cases b with
  | true=>exact .inl F
  | false =>
   right
   cases s with
   | nil=>rfl
   | cons d r' =>
    unfold eR
    dsimp only
    rw [if_neg]
    intro h91
    have : cO [91] (d :: r') false = true:=fm.2 ⟨r',by rw [show d = 91 from UInt8.toNat_inj.1 h91]⟩
    rw [this] at ht;cases ht
 | true =>
  have hb : b = false:=by cases b with | true=>rw [gH] at ht;cases ht | false=>rfl
  subst hb
  obtain ⟨s1,rfl⟩:=fm.1 ht
  rw [ht,gg] at cx_wa cx_tk
  rw [Bool.not_true] at cx_wa cx_tk
  simp only [List.length_cons] at hs
  cases ht2 : cO [93] s1 false with
  | true =>
   obtain ⟨s2,rfl⟩:=fm.1 ht2
   rw [ht2,gg] at cx_tk
   refine cG [(0,_),(1,_)] Tryz.func162 kR Tryz.ntmps162 F F tU fun B hB hW=>?_
   repeat' (first | refine jR ?_ | (refine jo ?_;first | refine jO fun _=>?_ | refine jL fun _=>?_ | refine jV (an F F) ?_ | refine jC F F F ?_ | refine aN F ?_ | (refine aq F F F cx_wa F ?_;rintro _ _ rfl;dsimp only [zA,fA]) | (refine aq F F F cx_tk F ?_;rintro _ _ ⟨rfl,rfl⟩;dsimp only [zA,fA])) | refine ac F F ?_)
   refine bh (vs:=[_]) F ⟨av F F F F,trivial⟩ F sB ⟨Gh.le.refl _,.nd 91 [] 0 [],⟨91,[],0,none,0,0⟩,s2,false,F,bq dC dC,F,by simp only [List.length_cons];omega,fun _=>⟨rfl,rfl⟩,fun h=>(by cases h)⟩
  | false =>
   rw [ht2,gt ht2] at cx_tk
   have hR : eR (rd (ag qs) n k) (91 :: s1) = (a9 (rd (ag qs) n k) 20 s1 []).map fun x=>(.nd 91 [] 0 x.1,x.2):=by
    unfold eR
    dsimp only
    rw [if_pos (show (91 : UInt8).toNat = 91 from rfl)]
    cases s1 with
    | nil =>
     have : rd (ag qs) n k [] = none:=by
      cases h : rd (ag qs) n k [] with
      | none=>rfl
      | some x=>have:=ic h;simp at this
     simp [a9,this]
    | cons e r' =>
     dsimp only
     rw [if_neg]
     intro h93
     have : cO [93] (e :: r') false = true:=fm.2 ⟨r',by rw [show e = 93 from UInt8.toNat_inj.1 h93]⟩
     rw [this] at ht2;cases ht2
   have hmore:=mt (f:=rd (ag qs) n k) (fun s x h=>ic h) 20 (s1.length + 1) s1 [] oM
   refine cG [(0,_),(1,_)] Tryz.func162 kR Tryz.ntmps162 F F tU fun B hB hW=>?_
   repeat' (first | refine jR ?_ | (refine jo ?_;first | refine jO fun _=>?_ | refine jL fun _=>?_ | refine jV (an F F) ?_ | refine jC F F F ?_ | (refine aq F F F cx_wa F ?_;rintro _ _ rfl;dsimp only [zA,fA]) | (refine aq F F F cx_tk F ?_;rintro _ _ ⟨rfl,rfl⟩;dsimp only [zA,fA])) | refine ad F F ?_)
   rename_i x3 x4 x5 _
   refine Nx.addNil du 4 (Nx.perm (List.Perm.swap _ _ _) ?_)
   refine aR (ι:=List V × List VC × Option Addr × Nat × ac1 × Nat × Gh) (fun q=>(V.reps q.2.2.2.2.2.2 q.1 q.2.1 ∧ Gh.le G q.2.2.2.2.2.2) ∧ (a9 (rd (ag qs) n k) (s1.length + 1) s1 [] = a9 (rd (ag qs) n k) q.2.2.2.2.2.1 q.2.2.2.2.1 q.1 ∧ q.2.2.2.2.1.length < q.2.2.2.2.2.1) ∧ (V.tots q.1 + 100 * q.2.2.2.2.1.length + 100 ≤ 100 * (s1.length + 1) ∧ q.2.2.2.2.1.length ≤ s1.length)) (fun q=>[(0,Pt r 0),(3,Pt x3 0),(4,Pt x4 0),(5,Pt x5 0)]) (fun q=>q.2.2.2.2.2.2) (fun q=>[dX r sc q.2.2.2.2.1 false,.acc (.slice q.2.2.1 q.1.length q.2.2.2.1) du 4 q.1.length (aI bx q.2.1),qS x5 [U8 91,S [],I 0,.slice q.2.2.1 q.1.length q.2.2.2.1],qS x4 [U8 0,S [],I 0,aJ],.blk x3 (.cells (List.toArray [S (sg k),S (bs k),S (nm k)]) eI (0,0))]) (fun q=>q.2.2.2.2.1.length) ([],[],none,0,s1,s1.length + 1,G) ?_ tU F aW (fun q Hq=>?_)
   ·exact ⟨⟨F,Gh.le.refl _⟩,⟨F,by dsimp only;omega⟩,by dsimp only;simp only [V.tots];omega,Nat.le_refl _⟩
   obtain ⟨vs,cs,a,cap,t,m,Gq⟩:=q
   dsimp only at Hq ⊢
   obtain ⟨⟨hreps,hgq⟩,⟨hit,htm⟩,hT,htl⟩:=Hq
   have hcl:=ib hreps
   have hkl:=dx vs
   have cx_vl:=hV Gq r k t false (hS.mono hgq) hk oM oM
   repeat' (first | refine jR ?_ | (refine jo ?_;refine ak F ?_) | refine ac F F ?_)
   (refine ai (am (id:=6) [.blk x3 (.cells (List.toArray [S (sg k),S (bs k),S (nm k)]) eI (0,0))] (by intro y hy;simp only [List.mem_cons,List.not_mem_nil,or_false] at hy ⊢;simp [hy]) ah ?_);refine jW 7 [0,2] (aa 9 5) ?_;(refine jG (aa 9 13) 3 F (bo F F F F) ?_);refine dN [1,4] kR dC ⟨?_,?_,trivial⟩;(focus (refine b6 F F ?_;(refine ak F ?_);refine jK (aa 9 15) ?_;refine jA 4 F ?_;(refine dZ F F F cx_vl F ?_;rintro _ G1 _ hle ⟨u1,c1,t1,b1,rfl,hrep,rfl,hP⟩;dsimp only [zA,fA];skip);refine jK (aa 9 31) ?_;refine jA 5 F ?_;(refine jF fun _=>?_);refine jK (aa 9 63) ?_;refine jA 6 F ?_;((refine cQ F F F F F F F F F ?_ fun _ _=>?_;focus omega));refine jK (aa 9 127) ?_;refine jW 1 [7] (aa 9 255) ?_;refine jA 8 F ?_;(refine jD F F F ?_);refine jK (aa 9 511) ?_;refine jQ ?_));rotate_left 1;(focus (refine b6 F F ?_;(refine dZ F F F cx_vl F ?_;rintro _ G1 _ hle ⟨u1,c1,t1,b1,rfl,hrep,rfl,hP⟩;dsimp only [zA,fA];skip);refine jK (aa 9 29) ?_;refine dN [1,5] kR dC ⟨?_,?_,trivial⟩;(focus (refine b6 F F ?_;(refine ak F ?_);refine jK (aa 9 31) ?_;refine jA 5 F ?_;(refine jF fun _=>?_);refine jK (aa 9 63) ?_;refine jA 6 F ?_;((refine cQ F F F F F F F F F ?_ fun _ _=>?_;focus omega));refine jK (aa 9 127) ?_;refine jW 1 [7] (aa 9 255) ?_;refine jA 8 F ?_;(refine jD F F F ?_);refine jK (aa 9 511) ?_;refine jQ ?_));rotate_left 1;(focus (refine b6 F F ?_;(refine jF fun _=>?_);refine jK (aa 9 61) ?_;refine jA 1 F ?_;(refine ak F ?_);refine jK (aa 9 63) ?_;refine jA 6 F ?_;((refine cQ F F F F F F F F F ?_ fun _ _=>?_;focus omega));refine jK (aa 9 127) ?_;refine jW 1 [7] (aa 9 255) ?_;refine jA 8 F ?_;(refine jD F F F ?_);refine jK (aa 9 511) ?_;refine jQ ?_));rotate_left 1));rotate_left 2)
   all_goals
    rename_i y1 yc
    have hrow : aI bx cs ++ [U8 (c1.what : Nat),S c1.text,I c1.tag,c1.sl] = aI bx (cs ++ [c1]):=(cB bx cs c1).symm
    have hr2 : V.reps G1 (vs ++ [u1]) (cs ++ [c1]):=iA hrep (bX hle hreps)
    have hvl : (vs ++ [u1]).length = vs.length + 1:=by simp
    have htu : V.tots (vs ++ [u1]) = V.tots vs + u1.tot:=by simp [gq,V.tots]
    have hgl:=hgq.trans hle
    obtain ⟨hPl,hP0,hP1⟩:=hP
    rw [hrow]
    cases b1 with
    | true =>
     obtain ⟨hno,hto⟩:=hP1 rfl
     have hno : rd (ag qs) n k t = none:=by
      rcases hno with h | h
      ·cases h
      ·exact h
     have hit2 : a9 (rd (ag qs) n k) m t vs = none:=iY (.inl hno)
     have cx_tm:=hC (G:=G1) (r:=r) (sc:=sc) (s:=t1) (l:=[44]) (b:=true) ⟨oM,by simp⟩
     have cx_wb:=dq (G:=G1) (r:=r) (sc:=sc) (s:=t1) (l:=[93]) (b:=true) ⟨oM,by simp⟩
     rw [gH,iJ] at cx_tm cx_wb
     repeat' (first | refine jR ?_ | (refine jo ?_;first | refine jD F F F ?_ | refine jC F F F ?_ | refine ak F ?_ | refine aN F ?_ | refine jV (al F) ?_ | (refine aq F F F cx_wb F ?_;rintro _ _ rfl;dsimp only [zA,fA]) | (refine aq F F F cx_tm F ?_;rintro _ _ ⟨rfl,rfl⟩;dsimp only [zA,fA])) | refine ac F F ?_ | refine er F (fun _=>?_) (fun _=>?_))
     all_goals (refine Nx.sealS (v:=.slice (some ⟨y1,0,none⟩) (vs.length + 1) yc) fun G2 hG2 hsl=>?_)
     all_goals refine bh (vs:=[_]) F ⟨av F F F F,trivial⟩ F sB ⟨hgl.trans hG2,.nd 91 [] 0 (vs ++ [u1]),⟨91,[],0,some ⟨y1,0,none⟩,vs.length + 1,yc⟩,t1,true,F,cW dC dC (fun h=>absurd h dC) hvl.symm (by rw [List.length_append,List.length_singleton,hcl];exact hsl) (bX hG2 hr2),F,by simp only [List.length_cons];omega,fun h=>(by cases h),fun _=>⟨.inr (by rw [hR,hmore,hit,hit2];rfl),by rw [cC,htu];simp only [List.length_cons,List.length_nil];omega⟩⟩
    | false =>
     obtain ⟨_,hfs⟩:=hP0 rfl
     have htot:=iB n k t _ hfs
     dsimp only at htot
     have hup:=i8 u1
     have cx_tm:=hC (G:=G1) (r:=r) (sc:=sc) (s:=t1) (l:=[44]) (b:=false) ⟨oM,by simp⟩
     cases ht3 : cO [44] t1 false with
     | true =>
      obtain ⟨t2,rfl⟩:=fm.1 ht3
      rw [ht3,gg] at cx_tm
      have hit2:=iX (m:=m) (vs:=vs) hfs oM
      rw [if_pos (show (44 : UInt8).toNat = 44 from rfl)] at hit2
      simp only [List.length_cons] at htot hPl
      have hlt : t2.length < m - 1:=oM
      repeat' (first | refine jR ?_ | (refine jo ?_;(refine aq F F F cx_tm F ?_;rintro _ _ ⟨rfl,rfl⟩;dsimp only [zA,fA])) | refine ad F F ?_)
      exact aX (vs ++ [u1],cs ++ [c1],some ⟨y1,0,none⟩,yc,t2,m - 1,G1) ⟨⟨hr2,hgl⟩,⟨by rw [hit,hit2],hlt⟩,by dsimp only;omega,by dsimp only;omega⟩ (by dsimp only;omega) tU rfl (by rw [hvl];repeat (first | exact List.Sublist.refl _ | apply List.Sublist.cons_cons | apply List.Sublist.cons))
     | false =>
      rw [ht3,gt ht3] at cx_tm
      have cx_wb:=dq (G:=G1) (r:=r) (sc:=sc) (s:=t1) (l:=[93]) (b:=false) ⟨oM,by simp⟩
      cases ht4 : cO [93] t1 false with
      | true =>
       obtain ⟨t2,rfl⟩:=fm.1 ht4
       rw [ht4,gg,Bool.not_true] at cx_wb
       have hit2:=iX (m:=m) (vs:=vs) hfs oM
       rw [if_neg (show ¬ (93 : UInt8).toNat = 44 by decide),if_pos (show (93 : UInt8).toNat = 93 from rfl)] at hit2
       simp only [List.length_cons] at htot hPl
       by_cases h20 : vs.length + 1 ≤ 20
       ·repeat' (first | refine jR ?_ | (refine jo ?_;first | refine jC F F F ?_ | refine ak F ?_ | refine aN F ?_ | refine jV (al F) ?_ | (refine aq F F F cx_wb F ?_;rintro _ _ rfl;dsimp only [zA,fA]) | (refine aq F F F cx_tm F ?_;rintro _ _ ⟨rfl,rfl⟩;dsimp only [zA,fA])) | refine ac F F ?_ | refine ad F (aA oM) ?_)
        refine Nx.sealS (v:=.slice (some ⟨y1,0,none⟩) (vs.length + 1) yc) fun G2 hG2 hsl=>?_
        refine bh (vs:=[_]) F ⟨av F F F F,trivial⟩ F sB ⟨hgl.trans hG2,.nd 91 [] 0 (vs ++ [u1]),⟨91,[],0,some ⟨y1,0,none⟩,vs.length + 1,yc⟩,t2,false,F,cW dC dC (fun h=>absurd h dC) hvl.symm (by rw [List.length_append,List.length_singleton,hcl];exact hsl) (bX hG2 hr2),F,by simp only [List.length_cons];omega,fun _=>⟨rfl,by rw [hR,hmore,hit,hit2];dsimp only;rw [if_pos (by simp;omega)];rfl⟩,fun h=>(by cases h)⟩
       ·repeat' (first | refine jR ?_ | (refine jo ?_;first | refine jD F F F ?_ | refine jC F F F ?_ | refine ak F ?_ | refine aN F ?_ | refine jV (al F) ?_ | (refine aq F F F cx_wb F ?_;rintro _ _ rfl;dsimp only [zA,fA]) | (refine aq F F F cx_tm F ?_;rintro _ _ ⟨rfl,rfl⟩;dsimp only [zA,fA])) | (refine ac F (by first | rfl | (refine decide_eq_true ?_;(omega))) ?_))
        refine Nx.sealS (v:=.slice (some ⟨y1,0,none⟩) (vs.length + 1) yc) fun G2 hG2 hsl=>?_
        refine bh (vs:=[_]) F ⟨av F F F F,trivial⟩ F sB ⟨hgl.trans hG2,.nd 91 [] 0 (vs ++ [u1]),⟨91,[],0,some ⟨y1,0,none⟩,vs.length + 1,yc⟩,t2,true,F,cW dC dC (fun h=>absurd h dC) hvl.symm (by rw [List.length_append,List.length_singleton,hcl];exact hsl) (bX hG2 hr2),F,by simp only [List.length_cons];omega,fun h=>(by cases h),fun _=>⟨.inr (by rw [hR,hmore,hit,hit2];dsimp only;rw [if_neg (by simp;omega)];rfl),by rw [cC,htu];simp only [List.length_cons,List.length_nil];omega⟩⟩
      | false =>
       rw [ht4,gt ht4,Bool.not_false] at cx_wb
       have hit2 : a9 (rd (ag qs) n k) m t vs = none:=by
        cases t1 with
        | nil=>exact iY (.inr ⟨u1,hfs⟩)
        | cons d t2 =>
         rw [iX hfs oM,if_neg,if_neg]
         ·intro h93
          have : cO [93] (d :: t2) false = true:=fm.2 ⟨t2,by rw [show d = 93 from UInt8.toNat_inj.1 h93]⟩
          rw [this] at ht4;cases ht4
         ·intro h44
          have : cO [44] (d :: t2) false = true:=fm.2 ⟨t2,by rw [show d = 44 from UInt8.toNat_inj.1 h44]⟩
          rw [this] at ht3;cases ht3
       repeat' (first | refine jR ?_ | (refine jo ?_;first | refine jD F F F ?_ | refine jC F F F ?_ | refine ak F ?_ | refine aN F ?_ | refine jV (al F) ?_ | (refine aq F F F cx_wb F ?_;rintro _ _ rfl;dsimp only [zA,fA]) | (refine aq F F F cx_tm F ?_;rintro _ _ ⟨rfl,rfl⟩;dsimp only [zA,fA])) | refine ac F F ?_ | refine er F (fun _=>?_) (fun _=>?_))
       all_goals (refine Nx.sealS (v:=.slice (some ⟨y1,0,none⟩) (vs.length + 1) yc) fun G2 hG2 hsl=>?_)
       all_goals refine bh (vs:=[_]) F ⟨av F F F F,trivial⟩ F sB ⟨hgl.trans hG2,.nd 91 [] 0 (vs ++ [u1]),⟨91,[],0,some ⟨y1,0,none⟩,vs.length + 1,yc⟩,t1,true,F,cW dC dC (fun h=>absurd h dC) hvl.symm (by rw [List.length_append,List.length_singleton,hcl];exact hsl) (bX hG2 hr2),F,by simp only [List.length_cons];omega,fun h=>(by cases h),fun _=>⟨.inr (by rw [hR,hmore,hit,hit2];rfl),by rw [cC,htu];simp only [List.length_cons,List.length_nil];omega⟩⟩
def zVC : VC:=⟨0,[],0,none,0,0⟩
def abp (t : Ty) (bf of : Nat) (f : ac1 → ac1 → Option (V × ac1)) (r sc : Nat) (s : ac1) (b : Bool) (v : Value) (G' : Gh) (L' : List Own) : Prop :=
  ∃ s' b',L' = [dX r sc s' b'] ∧ s'.length ≤ s.length ∧
    ((v = Tu [Ag (bx zVC),.pointer none] ∧ b' = true ∧ (b = true ∨ aQ f t s = none)) ∨
     (∃ j u c,j < t.fields.length ∧ v = Tu [Ag (bx c),Pt bf (of + j * 6)] ∧ V.rep G' (.nd 61 [] (ae t.fields j).tag [u]) c ∧ b = false ∧ u.tot + 100 * s'.length + 100 ≤ 100 * s.length ∧
       (b' = false → aQ f t s = some ((ae t.fields j,u),s')) ∧ (b' = true → aQ f t s = none)))
abbrev zP : Value:=Ag [U8 0,S [],I 0,aJ]
theorem fh {f : ac1 → ac1 → Option (V × ac1)} {t : Ty} {s : ac1} (h : aL (s.takeWhile aY) 200 = none ∨ ∃ m,aL (s.takeWhile aY) 200 = some m ∧ br t.fields m = none) : aQ f t s = none:=by
 unfold aQ ce
 rcases h with h | ⟨m,h,h2⟩
 ·rw [h];rfl
 ·rw [h];dsimp only [Option.map_some];rw [h2]
theorem g8 {f : ac1 → ac1 → Option (V × ac1)} {t : Ty} {s : ac1} {m : Int} (h : aL (s.takeWhile aY) 200 = some m) (h2 : ∀ s2,s.dropWhile aY ≠ 61 :: s2) : aQ f t s = none:=by
 unfold aQ ce
 rw [h];dsimp only [Option.map_some]
 cases br t.fields m with
 | none=>rfl
 | some d =>
  dsimp only
  cases hd : s.dropWhile aY with
  | nil=>rfl
  | cons c r =>
   dsimp only
   rw [if_neg]
   intro hc
   exact h2 r (by rw [hd,show c = 61 from UInt8.toNat_inj.1 hc])
theorem lH {f : ac1 → ac1 → Option (V × ac1)} {t : Ty} {s s2 : ac1} {m : Int} {d : Fld} (h : aL (s.takeWhile aY) 200 = some m) (hd : br t.fields m = some d) (h2 : s.dropWhile aY = 61 :: s2) : aQ f t s = (f d.kind s2).map fun x=>((d,x.1),x.2):=by
 unfold aQ ce
 rw [h];dsimp only [Option.map_some];rw [hd,h2];dsimp only;rw [if_pos (show (61 : UInt8).toNat = 61 from rfl)]
theorem oH {n r sc bt bf of cf : Nat} {qs : List co} {t : Ty} {ln s : ac1} {b : Bool} {fv : Value} (hV : m6 n sc qs) (hS : ScI G sc qs) (hw : TyW t) (hkf : ∀ d ∈ t.fields,aE (ag qs) d.kind = true)
  (h1 : cE G bt 0 [U8 t.sort,S t.name,fv,S ln]) (h2 : bR G fv 6 t.fields.length (aI iR t.fields)) (hfv : t.fields ≠ [] → fv = .slice (some ⟨bf,of,none⟩) t.fields.length cf ∧ cE G bf of (aI iR t.fields)) (hs : s.length ≤ n ∧ s.length ≤ 1000) :
  dw ac0 185 [Pt r 0,Pt bt 0] G [dX r sc s b] (abp t bf of (rd (ag qs) n) r sc s b):=by
 have hwl:=dQ aY s
 have hfl:=hw.len
 have cx_nu:=lT (G:=G) (r:=r) (sc:=sc) (s:=s) (b:=b) (top:=200) oM
 have cx_wa:=dq (G:=G) (r:=r) (sc:=sc) (s:=s.dropWhile aY) (l:=[61]) (b:=(b || (aL (s.takeWhile aY) 200).isNone)) ⟨oM,by simp⟩
 have htl:=jl (l:=[61]) (s:=s.dropWhile aY) (b:=(b || (aL (s.takeWhile aY) 200).isNone))
 have hleft : ∀ (s' : ac1),s'.length ≤ s.length → (b = true ∨ aQ (rd (ag qs) n) t s = none) → ∀ G',abp t bf of (rd (ag qs) n) r sc s b (Tu [Ag (bx zVC),.pointer none]) G' [dX r sc s' true]:=fun s' h3 h4 G'=>⟨s',true,rfl,h3,.inl ⟨rfl,rfl,h4⟩⟩
 refine cG [(0,_),(1,_)] Tryz.func185 kR Tryz.ntmps185 F F tU fun B hB hW=>?_
 repeat' (first | refine jR ?_ | (refine jo ?_;first | refine jL fun _=>?_ | (refine aq F F F cx_nu F ?_;rintro _ _ ⟨n1,rfl,⟨hn0,hn1⟩,hnum,rfl⟩;dsimp only [zA,fA])))
 rename_i x4
 cases hft : br t.fields n1 with
 | none =>
  have hno : aQ (rd (ag qs) n) t s = none:=by
   cases hm : aL (s.takeWhile aY) 200 with
   | none=>exact fh (.inl hm)
   | some m=>exact fh (.inr ⟨m,hm,by rw [← hnum m hm];exact hft⟩)
  have cx_fld:=dV h1 h2 oM hft
  repeat' (first | refine jR ?_ | (refine jo ?_;first | refine jV (b8 F F) ?_ | refine aH F ?_ | refine jD F F F ?_ | refine jC F F F ?_ | refine jV (an F F) ?_ | refine ab F F F cx_fld F ?_ | (refine aq F F F cx_wa F ?_;rintro _ _ rfl;dsimp only [zA,fA])) | refine ax F F F ?_ | refine ac F F ?_)
  refine bh (vs:=[_,_]) F ⟨av F F F F,F,trivial⟩ F sB ⟨Gh.le.refl _,hleft _ oM (.inr hno) _⟩
 | some d =>
  obtain ⟨j,hj,hjn,hjt,hjd⟩:=d9 hft
  subst hjd
  obtain ⟨rfl,hsf⟩:=hfv (fun h=>by rw [h] at hj;simp at hj)
  have cx_fld:=eG h1 hsf oM hj hjn hjt
  cases ht : cO [61] (s.dropWhile aY) (b || (aL (s.takeWhile aY) 200).isNone) with
  | false =>
   rw [ht,Bool.not_false] at cx_wa
   have hno : b = true ∨ aQ (rd (ag qs) n) t s = none:=by
    cases b with
    | true=>exact .inl F
    | false =>
     right
     cases hm : aL (s.takeWhile aY) 200 with
     | none=>exact fh (.inl hm)
     | some m =>
      refine g8 hm (fun s2 h=>?_)
      rw [hm,h] at ht
      have : cO [61] (61 :: s2) false = true:=fm.2 ⟨s2,rfl⟩
      rw [show (false || (some m).isNone) = false from rfl,this] at ht;cases ht
   repeat' (first | refine jR ?_ | (refine jo ?_;first | refine jV (b8 F F) ?_ | refine ak F ?_ | refine aw F ?_ | refine jD F F F ?_ | refine jC F F F ?_ | refine jV (an F F) ?_ | refine ab F F F cx_fld F ?_ | (refine aq F F F cx_wa F ?_;rintro _ _ rfl;dsimp only [zA,fA])) | refine aj F F F ?_ | refine ac F F ?_)
   refine bh (vs:=[_,_]) F ⟨av F F F F,F,trivial⟩ F sB ⟨Gh.le.refl _,hleft _ oM hno _⟩
  | true =>
   have hb0 : (b || (aL (s.takeWhile aY) 200).isNone) = false:=by
    cases hb : (b || (aL (s.takeWhile aY) 200).isNone) with
    | false=>rfl
    | true=>rw [hb,gH] at ht;cases ht
   rw [hb0] at ht cx_wa htl
   rw [hb0]
   simp only [Bool.or_eq_false_iff] at hb0
   obtain ⟨hb,hnn⟩:=hb0
   obtain ⟨m,hm⟩ : ∃ m,aL (s.takeWhile aY) 200 = some m:=by
    cases hm : aL (s.takeWhile aY) 200 with
    | none=>rw [hm] at hnn;cases hnn
    | some m=>exact ⟨m,F⟩
   obtain ⟨s2,hs2⟩:=fm.1 ht
   rw [ht,hs2,gg,Bool.not_true] at cx_wa
   have hdig : 1 ≤ (s.takeWhile aY).length:=by
    have h3:=(dm hm).2.1
    rw [h3];exact gE m
   rw [hs2,List.length_cons] at hwl
   have hfd : ∀ x,aQ (rd (ag qs) n) t s = some x ↔ (rd (ag qs) n (ae t.fields j).kind s2).map (fun x=>((ae t.fields j,x.1),x.2)) = some x:=fun x=>by
    rw [lH hm (d:=ae t.fields j) (by rw [← hnum m hm,hft]) hs2]
   have hkd:=hkf (ae t.fields j) (bB hj)
   have cx_vl:=hV G r (ae t.fields j).kind s2 false hS hkd oM oM
   rw [hs2]
   repeat' (first | refine jR ?_ | (refine jo ?_;first | refine jL fun _=>?_ | refine jV (b8 F F) ?_ | refine ak F ?_ | (refine jV (fO F F aS ?_ F F) ?_;focus omega) | refine aw F ?_ | refine jC F F F ?_ | refine ab F F F cx_fld F ?_ | (refine aq F F F cx_wa F ?_;rintro _ _ rfl;dsimp only [zA,fA]) | (refine dZ F F F cx_vl F ?_;rintro _ G1 _ hle ⟨u1,c1,t1,b1,rfl,hrep,rfl,hP⟩;dsimp only [zA,fA];skip)) | refine aj F F F ?_ | refine ad F F ?_)
   have hsf1:=hsf.mono hle
   have htag:=(hw.fld _ (bB hj)).tag
   repeat' (first | refine jR ?_ | (refine ai (dA (id:=7) (tt:=4) F ah ?_);refine jW 6 [0,1,2,7] (aa 10 135) ?_;((refine jG (aa 10 143) 3 F (b9 F F aS ?_ F F) ?_;focus omega));(refine jG (aa 10 159) 4 F (bo F F F F) ?_);refine jA 5 F ?_;(refine jF fun _=>?_);refine jK (aa 10 191) ?_;(refine jG (aa 10 255) 6 F (an F F) ?_);refine jA 8 F ?_;(refine jC F F F ?_);refine jK (aa 10 511) ?_;refine jW 0 [9] (aa 10 1023) ?_;refine jQ ?_))
   rename_i y
   refine Nx.sealC (b:=y) fun G2 hG2 hsy=>?_
   have hsl : bR G2 (.slice (some ⟨y,0,none⟩) 1 1) 4 ([c1] : List VC).length (aI bx [c1]):=⟨rfl,.inr ⟨y,0,1,rfl,Nat.le_refl _,hsy⟩⟩
   have hrp : V.rep G2 (.nd 61 [] (ae t.fields j).tag [u1]) ⟨61,[],(ae t.fields j).tag,some ⟨y,0,none⟩,1,1⟩:=cW dC oM (fun _=>rfl) rfl hsl ⟨c1,[],rfl,fb hG2 hrep,rfl⟩
   obtain ⟨hPl,hP0,hP1⟩:=hP
   have hf2:=fun x=>hfd x
   cases b1 with
   | false =>
    obtain ⟨_,hgood⟩:=hP0 rfl
    have htot:=iB n _ _ _ hgood
    dsimp only at htot
    refine bh (vs:=[_,_]) F ⟨av F F F F,F,trivial⟩ F sB ⟨hle.trans hG2,t1,false,F,oM,.inr ⟨j,u1,⟨61,[],(ae t.fields j).tag,some ⟨y,0,none⟩,1,1⟩,hj,F,hrp,hb,oM,fun _=>(hfd _).2 (by rw [hgood];rfl),fun h=>(by cases h)⟩⟩
   | true =>
    obtain ⟨hbad,hto⟩:=hP1 rfl
    have hbad2 : rd (ag qs) n (ae t.fields j).kind s2 = none:=by
     rcases hbad with h | h
     ·cases h
     ·exact h
    have hno : aQ (rd (ag qs) n) t s = none:=by
     cases hx : aQ (rd (ag qs) n) t s with
     | none=>rfl
     | some x=>have:=(hfd x).1 hx;rw [hbad2] at this;cases this
    refine bh (vs:=[_,_]) F ⟨av F F F F,F,trivial⟩ F sB ⟨hle.trans hG2,t1,true,F,oM,.inr ⟨j,u1,⟨61,[],(ae t.fields j).tag,some ⟨y,0,none⟩,1,1⟩,hj,F,hrp,hb,oM,fun h=>(by cases h),fun _=>hno⟩⟩
theorem iS {c : UInt8} {s : ac1} (h : cO [c] s false = false) : ∀ s2,s ≠ c :: s2:=fun s2 e=>by
 have : cO [c] s false = true:=fm.2 ⟨s2,e⟩
 rw [this] at h;cases h
theorem nS {ts : List Ty} {f : ac1 → ac1 → Option (V × ac1)} {t : Ty} {s : ac1} {c : UInt8} (hc : t.sort = 82 ∧ c = 123 ∨ t.sort = 69 ∧ c = 35 ∨ (t.sort ≠ 82 ∧ t.sort ≠ 69) ∧ c = 60) (h : ∀ s2,s ≠ c :: s2) : aZ ts f t s = none:=by
 cases s with
 | nil=>rfl
 | cons d r =>
  have hd : d ≠ c:=fun e=>h r (by rw [e])
  unfold aZ
  dsimp only
  have hn : ∀ k : Nat,k < 256 → c = UInt8.ofNat k → ¬ d.toNat = k:=fun k hk e h2=>hd (by rw [e,bn h2 hk])
  rcases hc with ⟨h1,h2⟩ | ⟨h1,h2⟩ | ⟨⟨h1,h1'⟩,h2⟩
  ·rw [if_pos h1,if_neg (hn 123 dC h2)]
  ·rw [if_neg oM,if_pos h1,if_neg (hn 35 dC h2)]
  ·rw [if_neg h1,if_neg h1',if_neg (hn 60 dC h2)]
theorem acb {n r sc bt : Nat} {qs : List co} {t : Ty} {s : ac1} {b : Bool} (hT : iI G bt t) (hw : TyW t) (hso : t.sort = 69) (hs : s.length ≤ n ∧ s.length ≤ 1000) :
  dw ac0 167 [Pt r 0,Pt bt 0] G [dX r sc s b] (ir (aZ (ag qs) (rd (ag qs) n) t) r sc s b):=by
 obtain ⟨fv,ln,h1,h2⟩:=hT
 have hfl:=hw.len
 have hso' : (t.sort : Int) = 69:=oM
 have cx_wa:=dq (G:=G) (r:=r) (sc:=sc) (s:=s) (l:=[35]) (b:=b) ⟨oM,by simp⟩
 cases ht : cO [35] s b with
 | false =>
  rw [ht,gt ht,Bool.not_false] at cx_wa
  have hno : b = true ∨ aZ (ag qs) (rd (ag qs) n) t s = none:=by
   cases b with
   | true=>exact .inl F
   | false=>exact .inr (nS (.inr (.inl ⟨hso,F⟩)) (iS ht))
  have cx_nu:=lT (G:=G) (r:=r) (sc:=sc) (s:=s) (b:=true) (top:=200) oM
  rw [Bool.true_or] at cx_nu
  have hwl:=dQ aY s
  refine cG [(0,_),(1,_)] Tryz.func167 kR Tryz.ntmps167 F F tU fun B hB hW=>?_
  repeat' (first | refine jR ?_ | (refine jo ?_;first | refine jL fun _=>?_ | refine ak F ?_ | refine jV (ao F F aS F F) ?_ | refine jV (an F F) ?_ | refine jD F F F ?_ | refine jC F F F ?_ | (refine aq F F F cx_wa F ?_;rintro _ _ rfl;dsimp only [zA,fA]) | (refine aq F F F cx_nu F ?_;rintro _ _ ⟨n1,rfl,⟨hn0,hn1⟩,hnum,rfl⟩;dsimp only [zA,fA])) | refine ac F (ar ‹_›) ?_)
  cases hft : br t.fields n1 with
  | none =>
   have cx_fld:=dV h1 h2 oM hft
   repeat' (first | refine jR ?_ | (refine jo ?_;first | refine aN F ?_ | refine jD F F F ?_ | refine jC F F F ?_ | refine jV (b8 F F) ?_ | refine ab F F F cx_fld F ?_) | refine ac F F ?_)
   refine bh (vs:=[_]) F ⟨av F F F F,trivial⟩ F sB ⟨Gh.le.refl _,.nd 69 [] n1 [],⟨69,[],n1,none,0,0⟩,s.dropWhile aY,true,by rw [hso];rfl,bq dC ⟨hn0,hn1⟩,rfl,oM,fun h=>(by cases h),fun _=>⟨hno,by simp only [V.tot,V.tots,List.length_nil];omega⟩⟩
  | some d =>
   obtain ⟨j,hj,hjn,hjt,hjd⟩:=d9 hft
   obtain ⟨bf,of,cf,rfl,hsf⟩:=h2.expl oM
   have cx_fld:=eG h1 hsf oM hj hjn hjt
   repeat' (first | refine jR ?_ | (refine jo ?_;first | refine aN F ?_ | refine jC F F F ?_ | refine jV (b8 F F) ?_ | refine ab F F F cx_fld F ?_) | refine ad F F ?_)
   refine bh (vs:=[_]) F ⟨av F F F F,trivial⟩ F sB ⟨Gh.le.refl _,.nd 69 [] n1 [],⟨69,[],n1,none,0,0⟩,s.dropWhile aY,true,by rw [hso];rfl,bq dC ⟨hn0,hn1⟩,rfl,oM,fun h=>(by cases h),fun _=>⟨hno,by simp only [V.tot,V.tots,List.length_nil];omega⟩⟩
 | true =>
  have hb : b = false:=by cases b with | true=>rw [gH] at ht;cases ht | false=>rfl
  subst hb
  obtain ⟨s1,rfl⟩:=fm.1 ht
  rw [ht,gg,Bool.not_true] at cx_wa
  simp only [List.length_cons] at hs
  have cx_nu:=lT (G:=G) (r:=r) (sc:=sc) (s:=s1) (b:=false) (top:=200) oM
  rw [Bool.false_or] at cx_nu
  have hwl:=dQ aY s1
  have hRT : aZ (ag qs) (rd (ag qs) n) t (35 :: s1) = match ce 200 s1 with
    | none=>none
    | some (n,r)=>if (br t.fields n).isSome = true then some (.nd 69 [] n [],r) else none:=by
   unfold aZ
   dsimp only
   rw [if_neg oM,if_pos hso,if_pos (show (35 : UInt8).toNat = 35 from rfl)]
   cases ce 200 s1 <;> rfl
  cases hnu : aL (s1.takeWhile aY) 200 with
  | none =>
   have hno : aZ (ag qs) (rd (ag qs) n) t (35 :: s1) = none:=by rw [hRT];unfold ce;rw [hnu];rfl
   rw [hnu] at cx_nu
   refine cG [(0,_),(1,_)] Tryz.func167 kR Tryz.ntmps167 F F tU fun B hB hW=>?_
   repeat' (first | refine jR ?_ | (refine jo ?_;first | refine jL fun _=>?_ | refine ak F ?_ | refine jV (ao F F aS F F) ?_ | refine jV (an F F) ?_ | refine jD F F F ?_ | refine jC F F F ?_ | (refine aq F F F cx_wa F ?_;rintro _ _ rfl;dsimp only [zA,fA]) | (refine aq F F F cx_nu F ?_;rintro _ _ ⟨n1,rfl,⟨hn0,hn1⟩,hnum,rfl⟩;dsimp only [zA,fA])) | refine ac F (ar ‹_›) ?_)
   cases hft : br t.fields n1 with
   | none =>
    have cx_fld:=dV h1 h2 oM hft
    repeat' (first | refine jR ?_ | (refine jo ?_;first | refine aN F ?_ | refine jD F F F ?_ | refine jC F F F ?_ | refine jV (b8 F F) ?_ | refine ab F F F cx_fld F ?_) | refine ac F F ?_)
    refine bh (vs:=[_]) F ⟨av F F F F,trivial⟩ F sB ⟨Gh.le.refl _,.nd 69 [] n1 [],⟨69,[],n1,none,0,0⟩,s1.dropWhile aY,true,by rw [hso];rfl,bq dC ⟨hn0,hn1⟩,rfl,by simp only [List.length_cons];omega,fun h=>(by cases h),fun _=>⟨.inr hno,by simp only [V.tot,V.tots,List.length_nil,List.length_cons];omega⟩⟩
   | some d =>
    obtain ⟨j,hj,hjn,hjt,hjd⟩:=d9 hft
    obtain ⟨bf,of,cf,rfl,hsf⟩:=h2.expl oM
    have cx_fld:=eG h1 hsf oM hj hjn hjt
    repeat' (first | refine jR ?_ | (refine jo ?_;first | refine aN F ?_ | refine jC F F F ?_ | refine jV (b8 F F) ?_ | refine ab F F F cx_fld F ?_) | refine ad F F ?_)
    refine bh (vs:=[_]) F ⟨av F F F F,trivial⟩ F sB ⟨Gh.le.refl _,.nd 69 [] n1 [],⟨69,[],n1,none,0,0⟩,s1.dropWhile aY,true,by rw [hso];rfl,bq dC ⟨hn0,hn1⟩,rfl,by simp only [List.length_cons];omega,fun h=>(by cases h),fun _=>⟨.inr hno,by simp only [V.tot,V.tots,List.length_nil,List.length_cons];omega⟩⟩
  | some m =>
   rw [hnu] at cx_nu
   have hRT2 : aZ (ag qs) (rd (ag qs) n) t (35 :: s1) = if (br t.fields m).isSome = true then some (.nd 69 [] m [],s1.dropWhile aY) else none:=by rw [hRT];unfold ce;rw [hnu];rfl
   refine cG [(0,_),(1,_)] Tryz.func167 kR Tryz.ntmps167 F F tU fun B hB hW=>?_
   repeat' (first | refine jR ?_ | (refine jo ?_;first | refine jL fun _=>?_ | refine ak F ?_ | refine jV (ao F F aS F F) ?_ | refine jV (an F F) ?_ | refine jD F F F ?_ | refine jC F F F ?_ | (refine aq F F F cx_wa F ?_;rintro _ _ rfl;dsimp only [zA,fA]) | (refine aq F F F cx_nu F ?_;rintro _ _ ⟨n1,rfl,⟨hn0,hn1⟩,hnum,rfl⟩;dsimp only [zA,fA])) | refine ac F (ar ‹_›) ?_)
   obtain rfl : n1 = m:=hnum m rfl
   cases hft : br t.fields n1 with
   | none =>
    rw [hft] at hRT2
    have cx_fld:=dV h1 h2 oM hft
    repeat' (first | refine jR ?_ | (refine jo ?_;first | refine aN F ?_ | refine jD F F F ?_ | refine jC F F F ?_ | refine jV (b8 F F) ?_ | refine ab F F F cx_fld F ?_) | refine ac F F ?_)
    refine bh (vs:=[_]) F ⟨av F F F F,trivial⟩ F sB ⟨Gh.le.refl _,.nd 69 [] n1 [],⟨69,[],n1,none,0,0⟩,s1.dropWhile aY,true,by rw [hso];rfl,bq dC ⟨hn0,hn1⟩,rfl,by simp only [List.length_cons];omega,fun h=>(by cases h),fun _=>⟨.inr hRT2,by simp only [V.tot,V.tots,List.length_nil,List.length_cons];omega⟩⟩
   | some d =>
    rw [hft] at hRT2
    obtain ⟨j,hj,hjn,hjt,hjd⟩:=d9 hft
    obtain ⟨bf,of,cf,rfl,hsf⟩:=h2.expl oM
    have cx_fld:=eG h1 hsf oM hj hjn hjt
    repeat' (first | refine jR ?_ | (refine jo ?_;first | refine aN F ?_ | refine jC F F F ?_ | refine jV (b8 F F) ?_ | refine ab F F F cx_fld F ?_) | refine ad F F ?_)
    refine bh (vs:=[_]) F ⟨av F F F F,trivial⟩ F sB ⟨Gh.le.refl _,.nd 69 [] n1 [],⟨69,[],n1,none,0,0⟩,s1.dropWhile aY,false,by rw [hso];rfl,bq dC ⟨hn0,hn1⟩,rfl,by simp only [List.length_cons];omega,fun _=>⟨rfl,hRT2⟩,fun h=>(by cases h)⟩
theorem tu {G : Gh} {t : Int} {u : V} {c : VC} (h : V.rep G (.nd 61 [] t [u]) c) : ∃ (b o k : Nat) (d : VC),c = ⟨61,[],t,some ⟨b,o,none⟩,1,k⟩ ∧ (0 ≤ t ∧ t ≤ 999999) ∧ cE G b o (aI bx [d]) ∧ V.rep G u d ∧ V.rep G (.nd 85 [] t [u]) ⟨85,[],t,some ⟨b,o,none⟩,1,k⟩:=by
 obtain ⟨a,k,cs,rfl,_,ht,_,hcl,hsl,hks⟩:=fu h
 rw [V.reps] at hks
 obtain ⟨d,cs',rfl,hd,hcs⟩:=hks
 rw [V.reps] at hcs
 subst hcs
 obtain ⟨b,o,cap,e,hs⟩:=hsl.expl (by simp)
 simp only [Value.slice.injEq] at e
 obtain ⟨rfl,-,rfl⟩:=e
 exact ⟨b,o,k,d,F,ht,hs,hd,cW dC ht (fun h=>absurd h dC) F hsl ⟨d,[],F,hd,F⟩⟩
theorem ab9 {n r sc bt : Nat} {qs : List co} {t : Ty} {s : ac1} {b : Bool} (hV : m6 n sc qs) (hS : ScI G sc qs) (hkf : ∀ d ∈ t.fields,aE (ag qs) d.kind = true) (hT : iI G bt t) (hw : TyW t) (hso : t.sort = 85) (hs : s.length ≤ n ∧ s.length ≤ 1000) :
  dw ac0 167 [Pt r 0,Pt bt 0] G [dX r sc s b] (ir (aZ (ag qs) (rd (ag qs) n) t) r sc s b):=by
 obtain ⟨fv,ln,h1,h2⟩:=hT
 have hfl:=hw.len
 have hso' : (t.sort : Int) = 85:=oM
 have hne : 0 < t.fields.length:=List.length_pos_iff.2 (hw.ne oM)
 obtain ⟨bf,of,cf,rfl,hsf⟩:=h2.expl hne
 have cx_wa:=dq (G:=G) (r:=r) (sc:=sc) (s:=s) (l:=[60]) (b:=b) ⟨oM,by simp⟩
 cases ht : cO [60] s b with
 | false =>
  rw [ht,gt ht,Bool.not_false] at cx_wa
  have hno : b = true ∨ aZ (ag qs) (rd (ag qs) n) t s = none:=by
   cases b with
   | true=>exact .inl F
   | false=>exact .inr (nS (.inr (.inr ⟨oM,F⟩)) (iS ht))
  have cx_fd:=oH (s:=s) (b:=true) (r:=r) hV hS hw hkf h1 h2 (fun _=>⟨rfl,hsf⟩) hs
  refine cG [(0,_),(1,_)] Tryz.func167 kR Tryz.ntmps167 F F tU fun B hB hW=>?_
  repeat' (first | refine jR ?_ | (refine jo ?_;first | refine jL fun _=>?_ | refine jV (ao F F aS F F) ?_ | refine jV (an F F) ?_ | refine jC F F F ?_ | (refine aq F F F cx_wa F ?_;rintro _ _ rfl;dsimp only [zA,fA]) | (refine dZ F F F cx_fd F ?_;rintro _ G1 _ hle ⟨t1,b1,rfl,htl,⟨rfl,rfl,hF⟩ | ⟨j,u1,c1,hj,rfl,hrep,hb0,hto,hg,hbd⟩⟩ <;> (dsimp only [zA,fA];skip))) | refine ac F (ar ‹_›) ?_ | refine ad F (aA oM) ?_)
  ·have cx_wb:=dq (G:=G1) (r:=r) (sc:=sc) (s:=t1) (l:=[62]) (b:=true) ⟨oM,by simp⟩
   rw [gH,iJ,Bool.not_false] at cx_wb
   repeat' (first | refine jR ?_ | (refine jo ?_;first | refine aN F ?_ | refine jC F F F ?_ | refine jV (gZ F F) ?_ | (refine aq F F F cx_wb F ?_;rintro _ _ rfl;dsimp only [zA,fA])) | refine ad F F ?_)
   refine bh (vs:=[_]) F ⟨av F F F F,trivial⟩ F sB ⟨hle,.nd 85 [] 0 [],⟨85,[],0,none,0,0⟩,t1,true,by rw [hso];rfl,bq dC dC,rfl,oM,fun h=>(by cases h),fun _=>⟨hno,by simp only [V.tot,V.tots,List.length_nil];omega⟩⟩
  ·cases hb0
 | true =>
  have hb : b = false:=by cases b with | true=>rw [gH] at ht;cases ht | false=>rfl
  subst hb
  obtain ⟨s1,rfl⟩:=fm.1 ht
  rw [ht,gg,Bool.not_true] at cx_wa
  simp only [List.length_cons] at hs
  have hRT : aZ (ag qs) (rd (ag qs) n) t (60 :: s1) = match aQ (rd (ag qs) n) t s1 with
    | none=>none
    | some ((d,v),r)=>match r with
     | []=>none
     | c' :: r'=>if c'.toNat = 62 then some (.nd 85 [] d.tag [v],r') else none:=by
   unfold aZ
   dsimp only
   rw [if_neg oM,if_neg oM,if_pos (show (60 : UInt8).toNat = 60 from rfl)]
   cases aQ (rd (ag qs) n) t s1 <;> rfl
  have cx_fd:=oH (s:=s1) (b:=false) (r:=r) hV hS hw hkf h1 h2 (fun _=>⟨rfl,hsf⟩) ⟨oM,oM⟩
  refine cG [(0,_),(1,_)] Tryz.func167 kR Tryz.ntmps167 F F tU fun B hB hW=>?_
  repeat' (first | refine jR ?_ | (refine jo ?_;first | refine jL fun _=>?_ | refine jV (ao F F aS F F) ?_ | refine jV (an F F) ?_ | refine jC F F F ?_ | (refine aq F F F cx_wa F ?_;rintro _ _ rfl;dsimp only [zA,fA]) | (refine dZ F F F cx_fd F ?_;rintro _ G1 _ hle ⟨t1,b1,rfl,htl,⟨rfl,rfl,hF⟩ | ⟨j,u1,c1,hj,rfl,hrep,hb0,hto,hg,hbd⟩⟩ <;> (dsimp only [zA,fA];skip))) | refine ac F (ar ‹_›) ?_ | refine ad F (aA oM) ?_)
  ·have hno : aZ (ag qs) (rd (ag qs) n) t (60 :: s1) = none:=by
    rcases hF with h | h
    ·cases h
    ·rw [hRT,h]
   have cx_wb:=dq (G:=G1) (r:=r) (sc:=sc) (s:=t1) (l:=[62]) (b:=true) ⟨oM,by simp⟩
   rw [gH,iJ,Bool.not_false] at cx_wb
   repeat' (first | refine jR ?_ | (refine jo ?_;first | refine aN F ?_ | refine jC F F F ?_ | refine jV (gZ F F) ?_ | (refine aq F F F cx_wb F ?_;rintro _ _ rfl;dsimp only [zA,fA])) | refine ad F F ?_)
   refine bh (vs:=[_]) F ⟨av F F F F,trivial⟩ F sB ⟨hle,.nd 85 [] 0 [],⟨85,[],0,none,0,0⟩,t1,true,by rw [hso];rfl,bq dC dC,rfl,by simp only [List.length_cons];omega,fun h=>(by cases h),fun _=>⟨.inr hno,by simp only [V.tot,V.tots,List.length_nil,List.length_cons];omega⟩⟩
  ·obtain ⟨kb,ko,kc,d,rfl,htg,hsd,hrd,hru⟩:=tu hrep
   have hsf1:=hsf.mono hle
   cases b1 with
   | true =>
    have hno : aZ (ag qs) (rd (ag qs) n) t (60 :: s1) = none:=by rw [hRT,hbd rfl]
    have cx_wb:=dq (G:=G1) (r:=r) (sc:=sc) (s:=t1) (l:=[62]) (b:=true) ⟨oM,by simp⟩
    rw [gH,iJ,Bool.not_false] at cx_wb
    repeat' (first | refine jR ?_ | (refine jo ?_;first | refine jV (gZ F F) ?_ | (refine aq F F F cx_wb F ?_;rintro _ _ rfl;dsimp only [zA,fA])) | refine ac F F ?_)
    rename_i x4 x5 _ x6 _
    dsimp only [VC.sl]
    (refine ai (am (id:=25) [.blk x6 (.cells (List.toArray [U8 ((61 : Nat) : Int),S [],I (ae t.fields j).tag,.slice (some ⟨kb,ko,none⟩) 1 kc]) du (0,0))] (by intro y hy;simp only [List.mem_cons,List.not_mem_nil,or_false] at hy ⊢;simp [hy]) ah ?_);refine jW 6 [0,1,2,4] (aa 10 23) ?_;((refine jG (aa 10 31) 3 F (b9 F F aS ?_ F F) ?_;focus omega));refine jW 4 [6] (aa 10 95) ?_;(refine jG (aa 10 127) 5 F (aD F F F) ?_);refine jA 7 F ?_;(refine jD F F F ?_);refine jK (aa 10 255) ?_;refine jW 1 [8] (aa 10 511) ?_;refine jA 9 F ?_;(refine jD F F F ?_);refine jK (aa 10 1023) ?_;refine jQ ?_)
    all_goals repeat' (first | refine jR ?_ | (refine jo ?_;first | refine aN F ?_ | refine jC F F F ?_))
    all_goals refine bh (vs:=[_]) F ⟨av F F F F,trivial⟩ F sB ⟨hle,.nd 85 [] (ae t.fields j).tag [u1],⟨85,[],(ae t.fields j).tag,some ⟨kb,ko,none⟩,1,kc⟩,t1,true,by rw [hso];rfl,hru,rfl,by simp only [List.length_cons] at *;omega,fun h=>(by cases h),fun _=>⟨.inr hno,by simp only [V.tot,V.tots,List.length_nil,List.length_cons] at *;omega⟩⟩
   | false =>
    have hgd:=hg rfl
    have cx_wb:=dq (G:=G1) (r:=r) (sc:=sc) (s:=t1) (l:=[62]) (b:=false) ⟨oM,by simp⟩
    cases ht2 : cO [62] t1 false with
    | true =>
     obtain ⟨t2,rfl⟩:=fm.1 ht2
     rw [ht2,gg,Bool.not_true] at cx_wb
     have hgood : aZ (ag qs) (rd (ag qs) n) t (60 :: s1) = some (.nd 85 [] (ae t.fields j).tag [u1],t2):=by
      rw [hRT,hgd];dsimp only;rw [if_pos (show (62 : UInt8).toNat = 62 from rfl)]
     repeat' (first | refine jR ?_ | (refine jo ?_;first | refine jV (gZ F F) ?_ | (refine aq F F F cx_wb F ?_;rintro _ _ rfl;dsimp only [zA,fA])) | refine ac F F ?_)
     rename_i x4 x5 _ x6 _
     dsimp only [VC.sl]
     (refine ai (am (id:=25) [.blk x6 (.cells (List.toArray [U8 ((61 : Nat) : Int),S [],I (ae t.fields j).tag,.slice (some ⟨kb,ko,none⟩) 1 kc]) du (0,0))] (by intro y hy;simp only [List.mem_cons,List.not_mem_nil,or_false] at hy ⊢;simp [hy]) ah ?_);refine jW 6 [0,1,2,4] (aa 10 23) ?_;((refine jG (aa 10 31) 3 F (b9 F F aS ?_ F F) ?_;focus omega));refine jW 4 [6] (aa 10 95) ?_;(refine jG (aa 10 127) 5 F (aD F F F) ?_);refine jA 7 F ?_;(refine jD F F F ?_);refine jK (aa 10 255) ?_;refine jW 1 [8] (aa 10 511) ?_;refine jA 9 F ?_;(refine jD F F F ?_);refine jK (aa 10 1023) ?_;refine jQ ?_)
     all_goals repeat' (first | refine jR ?_ | (refine jo ?_;first | refine aN F ?_ | refine jC F F F ?_))
     all_goals refine bh (vs:=[_]) F ⟨av F F F F,trivial⟩ F sB ⟨hle,.nd 85 [] (ae t.fields j).tag [u1],⟨85,[],(ae t.fields j).tag,some ⟨kb,ko,none⟩,1,kc⟩,t2,false,by rw [hso];rfl,hru,rfl,by simp only [List.length_cons] at *;omega,fun _=>⟨rfl,hgood⟩,fun h=>(by cases h)⟩
    | false =>
     rw [ht2,gt ht2,Bool.not_false] at cx_wb
     have hno : aZ (ag qs) (rd (ag qs) n) t (60 :: s1) = none:=by
      rw [hRT,hgd]
      dsimp only
      cases t1 with
      | nil=>rfl
      | cons e t2 =>
       dsimp only
       rw [if_neg]
       intro h62
       exact iS ht2 t2 (by rw [show e = 62 from UInt8.toNat_inj.1 h62])
     repeat' (first | refine jR ?_ | (refine jo ?_;first | refine jV (gZ F F) ?_ | (refine aq F F F cx_wb F ?_;rintro _ _ rfl;dsimp only [zA,fA])) | refine ac F F ?_)
     rename_i x4 x5 _ x6 _
     dsimp only [VC.sl]
     (refine ai (am (id:=25) [.blk x6 (.cells (List.toArray [U8 ((61 : Nat) : Int),S [],I (ae t.fields j).tag,.slice (some ⟨kb,ko,none⟩) 1 kc]) du (0,0))] (by intro y hy;simp only [List.mem_cons,List.not_mem_nil,or_false] at hy ⊢;simp [hy]) ah ?_);refine jW 6 [0,1,2,4] (aa 10 23) ?_;((refine jG (aa 10 31) 3 F (b9 F F aS ?_ F F) ?_;focus omega));refine jW 4 [6] (aa 10 95) ?_;(refine jG (aa 10 127) 5 F (aD F F F) ?_);refine jA 7 F ?_;(refine jD F F F ?_);refine jK (aa 10 255) ?_;refine jW 1 [8] (aa 10 511) ?_;refine jA 9 F ?_;(refine jD F F F ?_);refine jK (aa 10 1023) ?_;refine jQ ?_)
     all_goals repeat' (first | refine jR ?_ | (refine jo ?_;first | refine aN F ?_ | refine jC F F F ?_))
     all_goals refine bh (vs:=[_]) F ⟨av F F F F,trivial⟩ F sB ⟨hle,.nd 85 [] (ae t.fields j).tag [u1],⟨85,[],(ae t.fields j).tag,some ⟨kb,ko,none⟩,1,kc⟩,t1,true,by rw [hso];rfl,hru,rfl,by simp only [List.length_cons] at *;omega,fun h=>(by cases h),fun _=>⟨.inr hno,by simp only [V.tot,V.tots,List.length_nil,List.length_cons] at *;omega⟩⟩
theorem dU {ts : List Ty} {f : ac1 → ac1 → Option (V × ac1)} {t : Ty} {s : ac1} {vs : List V} {last : Int} : ∀ {m : Nat},aQ f t s = none → bK ts f t m last s vs = none
 | 0,_=>rfl
 | m + 1,h=>by rw [bK,h]
theorem kj {ts : List Ty} {f : ac1 → ac1 → Option (V × ac1)} {t : Ty} {s r : ac1} {vs : List V} {last : Int} {d : Fld} {v : V} {m : Nat} (h : aQ f t s = some ((d,v),r)) (hm : 0 < m) :
  bK ts f t m last s vs = if d.tag ≤ last ∨ v.out = bI ts d then none else match r with
   | []=>none
   | c :: r'=>if c.toNat = 44 then bK ts f t (m - 1) d.tag r' (vs ++ [.nd 61 [] d.tag [v]]) else if c.toNat = 125 then some (vs ++ [.nd 61 [] d.tag [v]],r') else none:=by
 obtain ⟨m,rfl⟩ : ∃ k,m = k + 1:=⟨m - 1,oM⟩
 rw [bK,h];rfl
theorem kF {f : ac1 → ac1 → Option (V × ac1)} {t : Ty} : aQ f t [] = none:=by
 unfold aQ ce
 have : aL (([] : ac1).takeWhile aY) 200 = none:=by
  cases h : aL (([] : ac1).takeWhile aY) 200 with
  | none=>rfl
  | some m =>
   have:=(dm h).2.1
   have h2:=gE m
   rw [← this] at h2;simp at h2
 rw [this];rfl
theorem aca {n r sc bt : Nat} {qs : List co} {t : Ty} {s : ac1} {b : Bool} (hV : m6 n sc qs) (hS : ScI G sc qs) (hW0 : SchW (ag qs)) (hkf : ∀ d ∈ t.fields,aE (ag qs) d.kind = true) (hT : iI G bt t) (hw : TyW t) (hso : t.sort = 82) (hs : s.length ≤ n ∧ s.length ≤ 1000) :
  dw ac0 167 [Pt r 0,Pt bt 0] G [dX r sc s b] (ir (aZ (ag qs) (rd (ag qs) n) t) r sc s b):=by
 obtain ⟨fv,ln,h1,h2⟩:=hT
 have hfl:=hw.len
 have hso' : (t.sort : Int) = 82:=oM
 have cx_wa:=dq (G:=G) (r:=r) (sc:=sc) (s:=s) (l:=[123]) (b:=b) ⟨oM,by simp⟩
 have cx_tk:=hC (G:=G) (r:=r) (sc:=sc) (s:=dR [123] s b) (l:=[125]) (b:=!cO [123] s b) ⟨by have:=jl (l:=[123]) (s:=s) (b:=b);omega,by simp⟩
 cases ht : cO [123] s b with
 | false =>
  rw [ht,gt ht] at cx_wa cx_tk
  rw [Bool.not_false,gH,iJ] at cx_tk
  have cx_wb:=dq (G:=G) (r:=r) (sc:=sc) (s:=s) (l:=[125]) (b:=true) ⟨oM,by simp⟩
  rw [gH,iJ] at cx_wb
  have hno : b = true ∨ aZ (ag qs) (rd (ag qs) n) t s = none:=by
   cases b with
   | true=>exact .inl F
   | false=>exact .inr (nS (.inl ⟨hso,F⟩) (iS ht))
  refine cG [(0,_),(1,_)] Tryz.func167 kR Tryz.ntmps167 F F tU fun B hB hW=>?_
  repeat' (first | refine jR ?_ | (refine jo ?_;first | refine jL fun _=>?_ | refine jV (ao F F aS F F) ?_ | refine jV (an F F) ?_ | refine jC F F F ?_ | (refine aq F F F cx_wa F ?_;rintro _ _ rfl;dsimp only [zA,fA]) | (refine aq F F F cx_tk F ?_;rintro _ _ ⟨rfl,rfl⟩;dsimp only [zA,fA])) | (refine ad F (by first | rfl | (refine decide_eq_false ?_;(omega))) ?_))
  rename_i x4 x5 _
  refine aR (ι:=Unit) (fun i=>True) (fun i=>[(0,Pt r 0),(1,Pt bt 0),(4,Pt x4 0),(5,Pt x5 0),(8,I 0)]) (fun _=>G) (fun i=>[dX r sc s true,qS x5 [U8 t.sort,S [],I 0,aJ],qS x4 [U8 0,S [],I 0,aJ]]) (fun i=>0) () ?_ tU F aW (fun i Hi=>?_)
  ·trivial
  repeat' (first | refine jR ?_ | (refine jo ?_;first | refine ak F ?_ | refine aN F ?_ | refine jC F F F ?_ | (refine aq F F F cx_wb F ?_;rintro _ _ rfl;dsimp only [zA,fA])) | refine ad F F ?_)
  refine bh (vs:=[_]) F ⟨av F F F F,trivial⟩ F sB ⟨Gh.le.refl _,.nd 82 [] 0 [],⟨82,[],0,none,0,0⟩,s,true,by rw [hso];rfl,bq dC dC,rfl,Nat.le_refl _,fun h=>(by cases h),fun _=>⟨hno,by simp only [V.tot,V.tots,List.length_nil];omega⟩⟩
 | true =>
  have hb : b = false:=by cases b with | true=>rw [gH] at ht;cases ht | false=>rfl
  subst hb
  obtain ⟨s1,rfl⟩:=fm.1 ht
  rw [ht,gg] at cx_wa cx_tk
  rw [Bool.not_true] at cx_wa cx_tk
  simp only [List.length_cons] at hs
  cases ht2 : cO [125] s1 false with
  | true =>
   obtain ⟨s2,rfl⟩:=fm.1 ht2
   rw [ht2,gg] at cx_tk
   have hgood : aZ (ag qs) (rd (ag qs) n) t (123 :: 125 :: s2) = some (.nd 82 [] 0 [],s2):=by
    unfold aZ
    dsimp only
    rw [if_pos hso,if_pos (show (123 : UInt8).toNat = 123 from rfl),if_pos (show (125 : UInt8).toNat = 125 from rfl)]
   refine cG [(0,_),(1,_)] Tryz.func167 kR Tryz.ntmps167 F F tU fun B hB hW=>?_
   repeat' (first | refine jR ?_ | (refine jo ?_;first | refine jL fun _=>?_ | refine aN F ?_ | refine jV (ao F F aS F F) ?_ | refine jV (an F F) ?_ | refine jC F F F ?_ | (refine aq F F F cx_wa F ?_;rintro _ _ rfl;dsimp only [zA,fA]) | (refine aq F F F cx_tk F ?_;rintro _ _ ⟨rfl,rfl⟩;dsimp only [zA,fA])) | refine ac F F ?_ | refine ad F (aA oM) ?_)
   refine bh (vs:=[_]) F ⟨av F F F F,trivial⟩ F sB ⟨Gh.le.refl _,.nd 82 [] 0 [],⟨82,[],0,none,0,0⟩,s2,false,by rw [hso];rfl,bq dC dC,rfl,by simp only [List.length_cons];omega,fun _=>⟨rfl,hgood⟩,fun h=>(by cases h)⟩
  | false =>
   rw [ht2,gt ht2] at cx_tk
   have hR : aZ (ag qs) (rd (ag qs) n) t (123 :: s1) = (bK (ag qs) (rd (ag qs) n) t (s1.length + 1) 0 s1 []).map fun x=>(.nd 82 [] 0 x.1,x.2):=by
    unfold aZ
    dsimp only
    rw [if_pos hso,if_pos (show (123 : UInt8).toNat = 123 from rfl)]
    cases s1 with
    | nil=>rw [dU kF];rfl
    | cons e r' =>
     dsimp only
     rw [if_neg]
     intro h93
     exact iS ht2 r' (by rw [show e = 125 from UInt8.toNat_inj.1 h93])
   refine cG [(0,_),(1,_)] Tryz.func167 kR Tryz.ntmps167 F F tU fun B hB hW=>?_
   repeat' (first | refine jR ?_ | (refine jo ?_;first | refine jL fun _=>?_ | refine jV (ao F F aS F F) ?_ | refine jV (an F F) ?_ | refine jC F F F ?_ | (refine aq F F F cx_wa F ?_;rintro _ _ rfl;dsimp only [zA,fA]) | (refine aq F F F cx_tk F ?_;rintro _ _ ⟨rfl,rfl⟩;dsimp only [zA,fA])) | (refine ad F (by first | rfl | (refine decide_eq_false ?_;(omega))) ?_))
   rename_i x4 x5 _
   refine Nx.addNil du 4 (Nx.perm (List.Perm.swap _ _ _) ?_)
   refine aR (ι:=List V × List VC × Option Addr × Nat × ac1 × Nat × Int × Gh) (fun q=>(V.reps q.2.2.2.2.2.2.2 q.1 q.2.1 ∧ Gh.le G q.2.2.2.2.2.2.2) ∧ (bK (ag qs) (rd (ag qs) n) t (s1.length + 1) 0 s1 [] = bK (ag qs) (rd (ag qs) n) t q.2.2.2.2.2.1 q.2.2.2.2.2.2.1 q.2.2.2.2.1 q.1 ∧ q.2.2.2.2.1.length < q.2.2.2.2.2.1) ∧ (V.tots q.1 + 100 * q.2.2.2.2.1.length + 100 ≤ 100 * (s1.length + 1) ∧ q.2.2.2.2.1.length ≤ s1.length)) (fun q=>[(0,Pt r 0),(1,Pt bt 0),(4,Pt x4 0),(5,Pt x5 0),(8,I q.2.2.2.2.2.2.1)]) (fun q=>q.2.2.2.2.2.2.2) (fun q=>[dX r sc q.2.2.2.2.1 false,.acc (.slice q.2.2.1 q.1.length q.2.2.2.1) du 4 q.1.length (aI bx q.2.1),qS x5 [U8 t.sort,S [],I 0,.slice q.2.2.1 q.1.length q.2.2.2.1],qS x4 [U8 0,S [],I 0,aJ]]) (fun q=>q.2.2.2.2.1.length) ([],[],none,0,s1,s1.length + 1,0,G) ?_ tU F aW (fun q Hq=>?_)
   ·exact ⟨⟨F,Gh.le.refl _⟩,⟨F,by dsimp only;omega⟩,by dsimp only;simp only [V.tots];omega,Nat.le_refl _⟩
   obtain ⟨vs,cs,a,cap,t',m,last,Gq⟩:=q
   dsimp only at Hq ⊢
   obtain ⟨⟨hreps,hgq⟩,⟨hit,htm⟩,hT,htl'⟩:=Hq
   have hcl:=ib hreps
   have hkl:=dx vs
   have hfv : t.fields ≠ [] → ∃ bf of cf,fv = .slice (some ⟨bf,of,none⟩) t.fields.length cf ∧ cE G bf of (aI iR t.fields):=fun h=>by
    obtain ⟨bf,of,cf,e,hs⟩:=h2.expl (List.length_pos_iff.2 h)
    exact ⟨bf,of,cf,e,hs⟩
   obtain ⟨bf,of,cf,hfv⟩ : ∃ bf of cf,t.fields ≠ [] → fv = .slice (some ⟨bf,of,none⟩) t.fields.length cf ∧ cE G bf of (aI iR t.fields):=by
    by_cases h : t.fields = []
    ·exact ⟨0,0,0,fun h'=>absurd h h'⟩
    ·obtain ⟨bf,of,cf,h⟩:=hfv h
     exact ⟨bf,of,cf,fun _=>h⟩
   have cx_fd:=oH (s:=t') (b:=false) (r:=r) hV (hS.mono hgq) hw hkf (h1.mono hgq) (h2.mono hgq) (fun h=>⟨(hfv h).1,(hfv h).2.mono hgq⟩) ⟨oM,oM⟩
   repeat' (first | refine jR ?_ | (refine jo ?_;first | refine jL fun _=>?_ | refine ak F ?_ | refine jD F F F ?_ | refine jC F F F ?_ | (refine dZ F F F cx_fd F ?_;rintro _ G1 _ hle ⟨t1,b1,rfl,htl,⟨rfl,rfl,hF⟩ | ⟨j,u1,c1,hj,rfl,hrep,hb0,hto,hg,hbd⟩⟩ <;> (dsimp only [zA,fA];skip))) | refine ac F F ?_ | (refine ai (am (id:=9) _ (fun _ h=>h) ah ?_);refine jT 23 [0] (aa 24 1) ?_;(refine jG (aa 24 3) 1 F (b8 F F) ?_);refine jT 21 [2] (aa 24 7) ?_;(try (first | refine Nx.re (d:=38) (v':=Bo true) F (congrArg Value.bool F) ?_ | refine Nx.re (d:=38) (v':=Bo false) F (congrArg Value.bool F) ?_));refine jT 17 [3,4,5,7] (aa 24 191) ?_;(refine jN (aa 24 255) 6 F ?_);refine jT 15 [8] (aa 24 511) ?_;(refine jG (aa 24 1023) 9 F (bD F F F) ?_);refine jT 13 [10] (aa 24 2047) ?_;(try (refine Nx.re (d:=46) (v':=Bo true) F (congrArg Value.bool F) ?_));refine jT 8 [11,16,17,18,20] (aa 24 1511423) ?_;(refine jN (aa 24 1515519) 12 F ?_);(refine jN (aa 24 1523711) 13 F ?_);(refine jN (aa 24 1540095) 14 F ?_);(refine jN (aa 24 2064383) 19 F ?_);(refine jN (aa 24 2097151) 15 F ?_);(refine jN (aa 24 4194303) 21 F ?_);refine jT 1 [22] (aa 24 8388607) ?_;(refine jG (aa 24 16777215) 23 F (bD F F F) ?_);refine jQ ?_))
   ·have hgl:=hgq.trans hle
    have hno : aQ (rd (ag qs) n) t t' = none:=by
     rcases hF with h | h
     ·cases h
     ·exact h
    have hit2 : bK (ag qs) (rd (ag qs) n) t m last t' vs = none:=dU hno
    have cx_wb:=dq (G:=G1) (r:=r) (sc:=sc) (s:=t1) (l:=[125]) (b:=true) ⟨oM,by simp⟩
    rw [gH,iJ,Bool.not_false] at cx_wb
    repeat' (first | refine jR ?_ | (refine jo ?_;first | refine aN F ?_ | refine jC F F F ?_ | (refine aq F F F cx_wb F ?_;rintro _ _ rfl;dsimp only [zA,fA])))
    refine Nx.sealS (v:=.slice a vs.length cap) fun G2 hG2 hsl=>?_
    refine bh (vs:=[_]) F ⟨av F F F F,trivial⟩ F sB ⟨hgl.trans hG2,.nd 82 [] 0 vs,⟨82,[],0,a,vs.length,cap⟩,t1,true,by rw [hso];rfl,cW dC dC (fun h=>absurd h dC) rfl (by rw [hcl];exact hsl) (bX (hle.trans hG2) hreps),F,by simp only [List.length_cons];omega,fun h=>(by cases h),fun _=>⟨.inr (by rw [hR,hit,hit2];rfl),by rw [cC];simp only [List.length_cons,List.length_nil];omega⟩⟩
   ·have hgl:=hgq.trans hle
    obtain ⟨kb,ko,kc,d,rfl,htg,hsd,hrd,hru⟩:=tu hrep
    dsimp only [bx,VC.sl]
    have hsf1:=(hfv (fun h=>by rw [h] at hj;simp at hj)).2.mono hgl
    have hS1:=hS.mono hgl
    have cx_pr:=kX (G:=G1) u1.tot (Nat.le_refl _) oM hrd
    have hotl:=pV hrd
    have cx_of:=uQ hS1 hW0 hsf1 hj (hkf _ (bB hj))
    have cx_wb:=dq (G:=G1) (r:=r) (sc:=sc) (s:=t1) (l:=[125]) (b:=true) ⟨oM,by simp⟩
    rw [gH,iJ,Bool.not_false] at cx_wb
    by_cases hbrk : (ae t.fields j).tag ≤ last ∨ u1.out = bI (ag qs) (ae t.fields j)
    ·have hit2 : bK (ag qs) (rd (ag qs) n) t m last t' vs = none:=by
      cases b1 with
      | true=>exact dU (hbd F)
      | false=>rw [kj (hg rfl) oM,if_pos hbrk]
     by_cases hlast : (ae t.fields j).tag ≤ last
     ·repeat' (first | refine jR ?_ | (refine jo ?_;first | refine aN F ?_ | refine jD F F F ?_ | refine jC F F F ?_ | (refine aq F F F cx_wb F ?_;rintro _ _ rfl;dsimp only [zA,fA])) | refine ac F F ?_ | (refine ai (am (id:=9) _ (fun _ h=>h) ah ?_);refine jT 23 [0] (aa 24 1) ?_;(refine jG (aa 24 3) 1 F (b8 F F) ?_);refine jT 21 [2] (aa 24 7) ?_;(try (refine Nx.re (d:=38) (v':=Bo false) F (congrArg Value.bool F) ?_));refine jT 17 [3,4,5,7] (aa 24 191) ?_;((refine jG (aa 24 255) 6 F (b9 F F aS ?_ F F) ?_;focus omega));refine jT 15 [8] (aa 24 511) ?_;(refine jG (aa 24 1023) 9 F (bc F F F) ?_);refine jT 13 [10] (aa 24 2047) ?_;(try (refine Nx.re (d:=46) (v':=Bo true) F (congrArg Value.bool (ar ‹_›)) ?_));refine jT 8 [11,16,17,18,20] (aa 24 1511423) ?_;(refine jN (aa 24 1515519) 12 F ?_);(refine jN (aa 24 1523711) 13 F ?_);(refine jN (aa 24 1540095) 14 F ?_);(refine jN (aa 24 2064383) 19 F ?_);(refine jN (aa 24 2097151) 15 F ?_);(refine jN (aa 24 4194303) 21 F ?_);refine jT 1 [22] (aa 24 8388607) ?_;(refine jG (aa 24 16777215) 23 F (bD F F F) ?_);refine jQ ?_))
      refine Nx.sealS (v:=.slice a vs.length cap) fun G2 hG2 hsl=>?_
      refine bh (vs:=[_]) F ⟨av F F F F,trivial⟩ F sB ⟨hgl.trans hG2,.nd 82 [] 0 vs,⟨82,[],0,a,vs.length,cap⟩,t1,true,by rw [hso];rfl,cW dC dC (fun h=>absurd h dC) rfl (by rw [hcl];exact hsl) (bX (hle.trans hG2) hreps),F,by simp only [List.length_cons];omega,fun h=>(by cases h),fun _=>⟨.inr (by rw [hR,hit,hit2];rfl),by rw [cC];simp only [List.length_cons,List.length_nil];omega⟩⟩
     ·have heq : u1.out = bI (ag qs) (ae t.fields j):=by
       rcases hbrk with h | h
       ·exact absurd h hlast
       ·exact h
      repeat' (first | refine jR ?_ | (refine jo ?_;first | refine aN F ?_ | refine jD F F F ?_ | refine jC F F F ?_ | (refine aq F F F cx_wb F ?_;rintro _ _ rfl;dsimp only [zA,fA])) | refine ac F (ar ‹_›) ?_ | (refine ai (am (id:=9) _ (fun _ h=>h) ah ?_);refine jT 23 [0] (aa 24 1) ?_;(refine jG (aa 24 3) 1 F (b8 F F) ?_);refine jT 21 [2] (aa 24 7) ?_;(try (refine Nx.re (d:=38) (v':=Bo false) F (congrArg Value.bool F) ?_));refine jT 17 [3,4,5,7] (aa 24 191) ?_;((refine jG (aa 24 255) 6 F (b9 F F aS ?_ F F) ?_;focus omega));refine jT 15 [8] (aa 24 511) ?_;(refine jG (aa 24 1023) 9 F (bc F F F) ?_);refine jT 13 [10] (aa 24 2047) ?_;(try (refine Nx.re (d:=46) (v':=Bo false) F (congrArg Value.bool (aA ‹_›)) ?_));refine jT 8 [11,16,17,18,20] (aa 24 1511423) ?_;(refine jG (aa 24 1515519) 12 F (aD F F F) ?_);(refine jG (aa 24 1523711) 13 F (be F F oM) ?_);((refine jG (aa 24 1540095) 14 F (dY F F aS ?_) ?_;(focus ((simp only [List.length_append,List.length_cons,List.length_nil,List.length_take];omega);done))));(refine jG (aa 24 2064383) 19 F (aD F F F) ?_);(refine jA 15 F ?_;(refine ab F F F cx_pr F ?_);refine jS (aa 24 2097151) ?_);(refine jA 21 F ?_;(refine ab F F F cx_of F ?_);refine jS (aa 24 4194303) ?_);refine jT 1 [22] (aa 24 8388607) ?_;(refine jG (aa 24 16777215) 23 F (bc F F F) ?_);refine jQ ?_))
      refine Nx.sealS (v:=.slice a vs.length cap) fun G2 hG2 hsl=>?_
      refine bh (vs:=[_]) F ⟨av F F F F,trivial⟩ F sB ⟨hgl.trans hG2,.nd 82 [] 0 vs,⟨82,[],0,a,vs.length,cap⟩,t1,true,by rw [hso];rfl,cW dC dC (fun h=>absurd h dC) rfl (by rw [hcl];exact hsl) (bX (hle.trans hG2) hreps),F,by simp only [List.length_cons];omega,fun h=>(by cases h),fun _=>⟨.inr (by rw [hR,hit,hit2];rfl),by rw [cC];simp only [List.length_cons,List.length_nil];omega⟩⟩
    ·have hlast : ¬ (ae t.fields j).tag ≤ last:=fun h=>hbrk (.inl h)
     have heq : ¬ u1.out = bI (ag qs) (ae t.fields j):=fun h=>hbrk (.inr h)
     have hrow : aI bx cs ++ [U8 ((61 : Nat) : Int),S [],I (ae t.fields j).tag,.slice (some ⟨kb,ko,none⟩) 1 kc] = aI bx (cs ++ [⟨61,[],(ae t.fields j).tag,some ⟨kb,ko,none⟩,1,kc⟩]):=(cB bx cs (⟨61,[],(ae t.fields j).tag,some ⟨kb,ko,none⟩,1,kc⟩ : VC)).symm
     have hr2 : V.reps G1 (vs ++ [.nd 61 [] (ae t.fields j).tag [u1]]) (cs ++ [⟨61,[],(ae t.fields j).tag,some ⟨kb,ko,none⟩,1,kc⟩]):=iA hrep (bX hle hreps)
     have hvl : (vs ++ [V.nd 61 [] (ae t.fields j).tag [u1]]).length = vs.length + 1:=by simp
     have htu : V.tots (vs ++ [V.nd 61 [] (ae t.fields j).tag [u1]]) = V.tots vs + (20 + u1.tot):=by simp [gq,V.tots,V.tot]
     cases b1 with
     | true =>
      have hit2 : bK (ag qs) (rd (ag qs) n) t m last t' vs = none:=dU (hbd rfl)
      have cx_tm:=hC (G:=G1) (r:=r) (sc:=sc) (s:=t1) (l:=[44]) (b:=true) ⟨oM,by simp⟩
      rw [gH,iJ] at cx_tm
      repeat' (first | refine jR ?_ | (refine jo ?_;first | refine ak F ?_ | (refine jV (b9 F F aS ?_ F F) ?_;focus omega) | refine aN F ?_ | refine jD F F F ?_ | refine jC F F F ?_ | refine jF fun _=>?_ | refine cQ F F F F F F F F F oM fun _ _=>?_ | (refine aq F F F cx_wb F ?_;rintro _ _ rfl;dsimp only [zA,fA]) | (refine aq F F F cx_tm F ?_;rintro _ _ ⟨rfl,rfl⟩;dsimp only [zA,fA])) | refine ac F F ?_ | refine ad F (aA ‹_›) ?_ | (refine ai (am (id:=9) _ (fun _ h=>h) ah ?_);refine jT 23 [0] (aa 24 1) ?_;(refine jG (aa 24 3) 1 F (b8 F F) ?_);refine jT 21 [2] (aa 24 7) ?_;(try (refine Nx.re (d:=38) (v':=Bo false) F (congrArg Value.bool F) ?_));refine jT 17 [3,4,5,7] (aa 24 191) ?_;((refine jG (aa 24 255) 6 F (b9 F F aS ?_ F F) ?_;focus omega));refine jT 15 [8] (aa 24 511) ?_;(refine jG (aa 24 1023) 9 F (bc F F F) ?_);refine jT 13 [10] (aa 24 2047) ?_;(try (refine Nx.re (d:=46) (v':=Bo false) F (congrArg Value.bool (aA ‹_›)) ?_));refine jT 8 [11,16,17,18,20] (aa 24 1511423) ?_;(refine jG (aa 24 1515519) 12 F (aD F F F) ?_);(refine jG (aa 24 1523711) 13 F (be F F oM) ?_);((refine jG (aa 24 1540095) 14 F (dY F F aS ?_) ?_;(focus ((simp only [List.length_append,List.length_cons,List.length_nil,List.length_take];omega);done))));(refine jG (aa 24 2064383) 19 F (aD F F F) ?_);(refine jA 15 F ?_;(refine ab F F F cx_pr F ?_);refine jS (aa 24 2097151) ?_);(refine jA 21 F ?_;(refine ab F F F cx_of F ?_);refine jS (aa 24 4194303) ?_);refine jT 1 [22] (aa 24 8388607) ?_;(refine jG (aa 24 16777215) 23 F (bc F F F) ?_);refine jQ ?_))
      rename_i _ y1 yc _
      rw [hrow]
      refine Nx.sealS (v:=.slice (some ⟨y1,0,none⟩) (vs.length + 1) yc) fun G2 hG2 hsl=>?_
      refine bh (vs:=[_]) F ⟨av F F F F,trivial⟩ F sB ⟨hgl.trans hG2,.nd 82 [] 0 (vs ++ [.nd 61 [] (ae t.fields j).tag [u1]]),⟨82,[],0,some ⟨y1,0,none⟩,vs.length + 1,yc⟩,t1,true,by rw [hso];rfl,cW dC dC (fun h=>absurd h dC) hvl.symm (by rw [List.length_append,List.length_singleton,hcl];exact hsl) (bX hG2 hr2),F,by simp only [List.length_cons];omega,fun h=>(by cases h),fun _=>⟨.inr (by rw [hR,hit,hit2];rfl),by rw [cC,htu];simp only [List.length_cons,List.length_nil];omega⟩⟩
     | false =>
      have hst:=kj (ts:=ag qs) (vs:=vs) (last:=last) (m:=m) (hg rfl) oM
      rw [if_neg hbrk] at hst
      have cx_tm:=hC (G:=G1) (r:=r) (sc:=sc) (s:=t1) (l:=[44]) (b:=false) ⟨oM,by simp⟩
      clear cx_wb
      have cx_wb:=dq (G:=G1) (r:=r) (sc:=sc) (s:=t1) (l:=[125]) (b:=false) ⟨oM,by simp⟩
      cases ht3 : cO [44] t1 false with
      | true =>
       obtain ⟨t2,rfl⟩:=fm.1 ht3
       rw [ht3,gg] at cx_tm
       simp only [List.length_cons] at htl hto
       dsimp only at hst
       rw [if_pos (show (44 : UInt8).toNat = 44 from rfl)] at hst
       have hlt : t2.length < m - 1:=oM
       repeat' (first | refine jR ?_ | (refine jo ?_;first | refine ak F ?_ | (refine jV (b9 F F aS ?_ F F) ?_;focus omega) | refine aN F ?_ | refine jD F F F ?_ | refine jF fun _=>?_ | refine cQ F F F F F F F F F oM fun _ _=>?_ | (refine aq F F F cx_tm F ?_;rintro _ _ ⟨rfl,rfl⟩;dsimp only [zA,fA])) | (refine ad F (by first | rfl | (refine decide_eq_false ?_;(assumption))) ?_) | (refine ai (am (id:=9) _ (fun _ h=>h) ah ?_);refine jT 23 [0] (aa 24 1) ?_;(refine jG (aa 24 3) 1 F (b8 F F) ?_);refine jT 21 [2] (aa 24 7) ?_;(try (refine Nx.re (d:=38) (v':=Bo false) F (congrArg Value.bool F) ?_));refine jT 17 [3,4,5,7] (aa 24 191) ?_;((refine jG (aa 24 255) 6 F (b9 F F aS ?_ F F) ?_;focus omega));refine jT 15 [8] (aa 24 511) ?_;(refine jG (aa 24 1023) 9 F (bc F F F) ?_);refine jT 13 [10] (aa 24 2047) ?_;(try (refine Nx.re (d:=46) (v':=Bo false) F (congrArg Value.bool (aA ‹_›)) ?_));refine jT 8 [11,16,17,18,20] (aa 24 1511423) ?_;(refine jG (aa 24 1515519) 12 F (aD F F F) ?_);(refine jG (aa 24 1523711) 13 F (be F F oM) ?_);((refine jG (aa 24 1540095) 14 F (dY F F aS ?_) ?_;(focus ((simp only [List.length_append,List.length_cons,List.length_nil,List.length_take];omega);done))));(refine jG (aa 24 2064383) 19 F (aD F F F) ?_);(refine jA 15 F ?_;(refine ab F F F cx_pr F ?_);refine jS (aa 24 2097151) ?_);(refine jA 21 F ?_;(refine ab F F F cx_of F ?_);refine jS (aa 24 4194303) ?_);refine jT 1 [22] (aa 24 8388607) ?_;(refine jG (aa 24 16777215) 23 F (bc F F F) ?_);refine jQ ?_))
       rename_i _ y1 yc
       rw [hrow]
       exact aX (vs ++ [.nd 61 [] (ae t.fields j).tag [u1]],cs ++ [⟨61,[],(ae t.fields j).tag,some ⟨kb,ko,none⟩,1,kc⟩],some ⟨y1,0,none⟩,yc,t2,m - 1,(ae t.fields j).tag,G1) ⟨⟨hr2,hgl⟩,⟨by rw [hit,hst],hlt⟩,by dsimp only;omega,by dsimp only;omega⟩ (by dsimp only;omega) tU rfl (by rw [hvl];repeat (first | exact List.Sublist.refl _ | apply List.Sublist.cons_cons | apply List.Sublist.cons))
      | false =>
       rw [ht3,gt ht3] at cx_tm
       cases ht4 : cO [125] t1 false with
       | true =>
        obtain ⟨t2,rfl⟩:=fm.1 ht4
        rw [ht4,gg,Bool.not_true] at cx_wb
        simp only [List.length_cons] at htl hto
        dsimp only at hst
        rw [if_neg (show ¬ (125 : UInt8).toNat = 44 by decide),if_pos (show (125 : UInt8).toNat = 125 from rfl)] at hst
        have hit2:=hst
        repeat' (first | refine jR ?_ | (refine jo ?_;first | refine ak F ?_ | (refine jV (b9 F F aS ?_ F F) ?_;focus omega) | refine aN F ?_ | refine jD F F F ?_ | refine jC F F F ?_ | refine jF fun _=>?_ | refine cQ F F F F F F F F F oM fun _ _=>?_ | (refine aq F F F cx_wb F ?_;rintro _ _ rfl;dsimp only [zA,fA]) | (refine aq F F F cx_tm F ?_;rintro _ _ ⟨rfl,rfl⟩;dsimp only [zA,fA])) | refine ac F F ?_ | refine ad F (aA ‹_›) ?_ | (refine ai (am (id:=9) _ (fun _ h=>h) ah ?_);refine jT 23 [0] (aa 24 1) ?_;(refine jG (aa 24 3) 1 F (b8 F F) ?_);refine jT 21 [2] (aa 24 7) ?_;(try (refine Nx.re (d:=38) (v':=Bo false) F (congrArg Value.bool F) ?_));refine jT 17 [3,4,5,7] (aa 24 191) ?_;((refine jG (aa 24 255) 6 F (b9 F F aS ?_ F F) ?_;focus omega));refine jT 15 [8] (aa 24 511) ?_;(refine jG (aa 24 1023) 9 F (bc F F F) ?_);refine jT 13 [10] (aa 24 2047) ?_;(try (refine Nx.re (d:=46) (v':=Bo false) F (congrArg Value.bool (aA ‹_›)) ?_));refine jT 8 [11,16,17,18,20] (aa 24 1511423) ?_;(refine jG (aa 24 1515519) 12 F (aD F F F) ?_);(refine jG (aa 24 1523711) 13 F (be F F oM) ?_);((refine jG (aa 24 1540095) 14 F (dY F F aS ?_) ?_;(focus ((simp only [List.length_append,List.length_cons,List.length_nil,List.length_take];omega);done))));(refine jG (aa 24 2064383) 19 F (aD F F F) ?_);(refine jA 15 F ?_;(refine ab F F F cx_pr F ?_);refine jS (aa 24 2097151) ?_);(refine jA 21 F ?_;(refine ab F F F cx_of F ?_);refine jS (aa 24 4194303) ?_);refine jT 1 [22] (aa 24 8388607) ?_;(refine jG (aa 24 16777215) 23 F (bc F F F) ?_);refine jQ ?_))
        rename_i _ y1 yc _
        rw [hrow]
        refine Nx.sealS (v:=.slice (some ⟨y1,0,none⟩) (vs.length + 1) yc) fun G2 hG2 hsl=>?_
        refine bh (vs:=[_]) F ⟨av F F F F,trivial⟩ F sB ⟨hgl.trans hG2,.nd 82 [] 0 (vs ++ [.nd 61 [] (ae t.fields j).tag [u1]]),⟨82,[],0,some ⟨y1,0,none⟩,vs.length + 1,yc⟩,t2,false,by rw [hso];rfl,cW dC dC (fun h=>absurd h dC) hvl.symm (by rw [List.length_append,List.length_singleton,hcl];exact hsl) (bX hG2 hr2),F,by simp only [List.length_cons];omega,fun _=>⟨rfl,by rw [hR,hit,hit2];rfl⟩,fun h=>(by cases h)⟩
       | false =>
        rw [ht4,gt ht4,Bool.not_false] at cx_wb
        have hit2 : bK (ag qs) (rd (ag qs) n) t m last t' vs = none:=by
         rw [hst]
         cases t1 with
         | nil=>rfl
         | cons e t2 =>
          dsimp only
          rw [if_neg,if_neg]
          ·intro h
           exact iS ht4 t2 (by rw [show e = 125 from UInt8.toNat_inj.1 h])
          ·intro h
           exact iS ht3 t2 (by rw [show e = 44 from UInt8.toNat_inj.1 h])
        repeat' (first | refine jR ?_ | (refine jo ?_;first | refine ak F ?_ | (refine jV (b9 F F aS ?_ F F) ?_;focus omega) | refine aN F ?_ | refine jD F F F ?_ | refine jC F F F ?_ | refine jF fun _=>?_ | refine cQ F F F F F F F F F oM fun _ _=>?_ | (refine aq F F F cx_wb F ?_;rintro _ _ rfl;dsimp only [zA,fA]) | (refine aq F F F cx_tm F ?_;rintro _ _ ⟨rfl,rfl⟩;dsimp only [zA,fA])) | refine ac F F ?_ | refine ad F (aA ‹_›) ?_ | (refine ai (am (id:=9) _ (fun _ h=>h) ah ?_);refine jT 23 [0] (aa 24 1) ?_;(refine jG (aa 24 3) 1 F (b8 F F) ?_);refine jT 21 [2] (aa 24 7) ?_;(try (refine Nx.re (d:=38) (v':=Bo false) F (congrArg Value.bool F) ?_));refine jT 17 [3,4,5,7] (aa 24 191) ?_;((refine jG (aa 24 255) 6 F (b9 F F aS ?_ F F) ?_;focus omega));refine jT 15 [8] (aa 24 511) ?_;(refine jG (aa 24 1023) 9 F (bc F F F) ?_);refine jT 13 [10] (aa 24 2047) ?_;(try (refine Nx.re (d:=46) (v':=Bo false) F (congrArg Value.bool (aA ‹_›)) ?_));refine jT 8 [11,16,17,18,20] (aa 24 1511423) ?_;(refine jG (aa 24 1515519) 12 F (aD F F F) ?_);(refine jG (aa 24 1523711) 13 F (be F F oM) ?_);((refine jG (aa 24 1540095) 14 F (dY F F aS ?_) ?_;(focus ((simp only [List.length_append,List.length_cons,List.length_nil,List.length_take];omega);done))));(refine jG (aa 24 2064383) 19 F (aD F F F) ?_);(refine jA 15 F ?_;(refine ab F F F cx_pr F ?_);refine jS (aa 24 2097151) ?_);(refine jA 21 F ?_;(refine ab F F F cx_of F ?_);refine jS (aa 24 4194303) ?_);refine jT 1 [22] (aa 24 8388607) ?_;(refine jG (aa 24 16777215) 23 F (bc F F F) ?_);refine jQ ?_))
        rename_i _ y1 yc _
        rw [hrow]
        refine Nx.sealS (v:=.slice (some ⟨y1,0,none⟩) (vs.length + 1) yc) fun G2 hG2 hsl=>?_
        refine bh (vs:=[_]) F ⟨av F F F F,trivial⟩ F sB ⟨hgl.trans hG2,.nd 82 [] 0 (vs ++ [.nd 61 [] (ae t.fields j).tag [u1]]),⟨82,[],0,some ⟨y1,0,none⟩,vs.length + 1,yc⟩,t1,true,by rw [hso];rfl,cW dC dC (fun h=>absurd h dC) hvl.symm (by rw [List.length_append,List.length_singleton,hcl];exact hsl) (bX hG2 hr2),F,by simp only [List.length_cons];omega,fun h=>(by cases h),fun _=>⟨.inr (by rw [hR,hit,hit2];rfl),by rw [cC,htu];simp only [List.length_cons,List.length_nil];omega⟩⟩
theorem kY {c : UInt8} {a b d : ac1} : aC ac0 124 [Ag [S (c :: a),S b,S d]] G (· = Ag [S a,S b,S d]):=by
 refine jE [(0,_)] Tryz.func124 Tryz.ntmps124 fun B hB=>?_
 repeat' (first | refine jX ?_ | (refine jo ?_;first | refine jO fun _=>?_ | refine jL fun _=>?_ | refine ak F ?_ | refine aN F ?_ | refine jD F F F ?_ | refine jC F F F ?_))
 refine jZ (vs:=[_]) F ⟨av F F F F,trivial⟩ F ⟨F,F,?_⟩
 rfl
theorem gA {c : UInt8} {k : ac1} (h : c.toNat = 91 ∨ c.toNat = 63) : sg (c :: k) = c :: sg k ∧ bs (c :: k) = bs k ∧ nm (c :: k) = nm k ∧ bj (c :: k) = bj k:=by
 have hc : bj (c :: k) = bj k:=by rw [bj,if_pos h]
 exact ⟨kN h,by unfold bs;rw [hc],by unfold nm;rw [hc],hc⟩
theorem dP {ts : List Ty} {c : UInt8} {k : ac1} (hc : c.toNat = 91 ∨ c.toNat = 63) (h : aE ts (c :: k) = true) : aE ts k = true:=by
 unfold aE at h ⊢
 simp only [Bool.and_eq_true] at h ⊢
 obtain ⟨h1,h2⟩:=h
 refine ⟨?_,?_⟩
 ·unfold bA at h1 ⊢
  simp only [Bool.and_eq_true,decide_eq_true_eq,List.length_cons] at h1 ⊢
  refine ⟨oM,?_⟩
  have:=h1.2
  rw [ep,if_pos hc] at this
  exact this
 ·unfold ew at h2 ⊢
  rw [(gA hc).2.2.2] at h2
  exact h2
theorem rD {ts : List Ty} {f : ac1 → ac1 → Option (V × ac1)} {c : UInt8} {k s : ac1} (hc : c.toNat = 91) : eM ts f (c :: k) s = eR (f k) s:=by
 unfold eM eR
 dsimp only
 rw [if_pos hc]
 cases s <;> rfl
theorem sp {r sc : Nat} {k s : ac1} : c8 ac0 133 [Pt r 0,Ag [S (sg k),S (bs k),S (nm k)]] G [dX r sc s true] (fun v L'=>v = zP ∧ L' = [dX r sc s true]):=by
 refine jH [(0,_),(1,_)] Tryz.func133 Tryz.ntmps133 fun B hB hW=>?_
 repeat' (first | refine jR ?_ | (refine jo ?_;first | refine jO fun _=>?_ | refine jL fun _=>?_ | refine ak F ?_ | refine jV (an F F) ?_ | refine jC F F F ?_) | refine ac F F ?_)
 refine bh (vs:=[_]) F ⟨av F F F F,trivial⟩ F sB ⟨F,F,F⟩
theorem c8.toM {P : Program} {f : FuncId} {args : List Value} {L : List Own} {R : Value → List Own → Prop} {R' : Value → Gh → List Own → Prop} (h : c8 P f args G L R) (hr : ∀ v L',R v L' → R' v G L') : dw P f args G L R' :=
 Fn.mono h fun v G' L' h2=>⟨h2.1 ▸ Gh.le.refl _,h2.1 ▸ hr v L' h2.2⟩
theorem fJ : V.rep G (.nd 0 [] 0 []) ⟨0,[],0,none,0,0⟩:=bq dC dC
theorem aaO {n r sc : Nat} {qs : List co} {c : UInt8} {k s : ac1} (hc : c = 63) (hV : m6 n sc qs) (hS : ScI G sc qs) (hk : aE (ag qs) (c :: k) = true) (hs : s.length < n + 1 ∧ s.length ≤ 1000) :
  dw ac0 133 [Pt r 0,Ag (cS (c :: k))] G [dX r sc s false] (ir (rd (ag qs) (n + 1) (c :: k)) r sc s false):=by
 subst hc
 have hk2:=dP (.inr rfl) hk
 obtain ⟨e1,e2,e3,_⟩:=gA (c:=63) (k:=k) (.inr rfl)
 have hrd : rd (ag qs) (n + 1) (63 :: k) s = match s with
   | []=>none
   | d :: s'=>if d.toNat = 45 then some (.nd 63 [] 0 [],s') else if d.toNat = 43 then (rd (ag qs) n k s').map fun x=>(.nd 63 [] 0 [x.1],x.2) else none:=by
  rw [rd];unfold eM
  dsimp only
  rw [if_neg (show ¬ (63 : UInt8).toNat = 91 by decide),if_pos (show (63 : UInt8).toNat = 63 from rfl)]
  cases s <;> rfl
 unfold cS
 rw [e1,e2,e3]
 have cx_sign:=@gQ G 63 (sg k) (bs k) (nm k)
 have cx_pt:=@kY G 63 (sg k) (bs k) (nm k)
 have cx_tk:=hC (G:=G) (r:=r) (sc:=sc) (s:=s) (l:=[45]) (b:=false) ⟨oM,by simp⟩
 have cx_wa:=dq (G:=G) (r:=r) (sc:=sc) (s:=s) (l:=[43]) (b:=false) ⟨oM,by simp⟩
 cases ht : cO [45] s false with
 | true =>
  obtain ⟨s1,rfl⟩:=fm.1 ht
  rw [ht,gg] at cx_tk
  dsimp only at hrd
  rw [if_pos (show (45 : UInt8).toNat = 45 from rfl)] at hrd
  refine cG [(0,_),(1,_)] Tryz.func133 kR Tryz.ntmps133 F F tU fun B hB hW=>?_
  repeat' (first | refine jR ?_ | (refine jo ?_;first | refine jO fun _=>?_ | refine jL fun _=>?_ | refine ak F ?_ | refine aN F ?_ | refine jV (an F F) ?_ | refine jC F F F ?_ | refine ab F F F cx_sign F ?_ | (refine aq F F F cx_tk F ?_;rintro _ _ ⟨rfl,rfl⟩;dsimp only [zA,fA])) | refine ac F F ?_ | refine ad F F ?_)
  refine bh (vs:=[_]) F ⟨av F F F F,trivial⟩ F sB ⟨Gh.le.refl _,.nd 63 [] 0 [],⟨63,[],0,none,0,0⟩,s1,false,F,bq dC dC,F,by simp only [List.length_cons];omega,fun _=>⟨rfl,hrd⟩,fun h=>(by cases h)⟩
 | false =>
  rw [ht,gt ht] at cx_tk
  cases ht2 : cO [43] s false with
  | false =>
   rw [ht2,gt ht2,Bool.not_false] at cx_wa
   have hno : rd (ag qs) (n + 1) (63 :: k) s = none:=by
    rw [hrd]
    cases s with
    | nil=>rfl
    | cons d s' =>
     dsimp only
     rw [if_neg,if_neg]
     ·intro h;exact iS ht2 s' (by rw [show d = 43 from UInt8.toNat_inj.1 h])
     ·intro h;exact iS ht s' (by rw [show d = 45 from UInt8.toNat_inj.1 h])
   refine cG [(0,_),(1,_)] Tryz.func133 kR Tryz.ntmps133 F F tU fun B hB hW=>?_
   repeat' (first | refine jR ?_ | (refine jo ?_;first | refine jO fun _=>?_ | refine jL fun _=>?_ | refine ak F ?_ | refine aN F ?_ | refine ab F F F cx_sign F ?_ | refine ab F F F cx_pt F ?_ | (refine aq F F F cx_tk F ?_;rintro _ _ ⟨rfl,rfl⟩;dsimp only [zA,fA]) | (refine aq F F F cx_wa F ?_;rintro _ _ rfl;dsimp only [zA,fA])) | refine ac F F ?_ | refine ad F F ?_)
   refine jo ?_
   refine aq F F F sp F ?_
   rintro _ _ ⟨rfl,rfl⟩
   dsimp only [zA,fA]
   repeat' (first | refine jR ?_ | (refine jo ?_;first | refine jV (an F F) ?_ | refine jC F F F ?_ | refine jF fun _=>?_))
   rename_i y
   refine Nx.sealC (b:=y) fun G2 hG2 hsy=>?_
   have hsl : bR G2 (.slice (some ⟨y,0,none⟩) 1 1) 4 ([⟨0,[],0,none,0,0⟩] : List VC).length (aI bx [⟨0,[],0,none,0,0⟩]):=⟨rfl,.inr ⟨y,0,1,rfl,Nat.le_refl _,hsy⟩⟩
   refine bh (vs:=[_]) F ⟨av F F F F,trivial⟩ F sB ⟨hG2,.nd 63 [] 0 [.nd 0 [] 0 []],⟨63,[],0,some ⟨y,0,none⟩,1,1⟩,s,true,F,cW dC dC (fun h=>absurd h dC) F hsl ⟨_,[],F,fJ,F⟩,F,Nat.le_refl _,fun h=>(by cases h),fun _=>⟨.inr hno,by simp only [V.tot,V.tots,List.length_nil];omega⟩⟩
  | true =>
   obtain ⟨s1,rfl⟩:=fm.1 ht2
   rw [ht2,gg,Bool.not_true] at cx_wa
   simp only [List.length_cons] at hs
   dsimp only at hrd
   rw [if_neg (show ¬ (43 : UInt8).toNat = 45 by decide),if_pos (show (43 : UInt8).toNat = 43 from rfl)] at hrd
   have cx_vl:=hV G r k s1 false hS hk2 oM oM
   refine cG [(0,_),(1,_)] Tryz.func133 kR Tryz.ntmps133 F F tU fun B hB hW=>?_
   repeat' (first | refine jR ?_ | (refine jo ?_;first | refine jO fun _=>?_ | refine jL fun _=>?_ | refine ak F ?_ | refine aN F ?_ | refine jV (an F F) ?_ | refine jC F F F ?_ | refine jF fun _=>?_ | refine ab F F F cx_sign F ?_ | refine ab F F F cx_pt F ?_ | (refine aq F F F cx_tk F ?_;rintro _ _ ⟨rfl,rfl⟩;dsimp only [zA,fA]) | (refine aq F F F cx_wa F ?_;rintro _ _ rfl;dsimp only [zA,fA]) | (refine dZ F F F cx_vl F ?_;rintro _ G1 _ hle ⟨u1,c1,t1,b1,rfl,hrep,rfl,hP⟩;dsimp only [zA,fA];skip)) | refine ac F F ?_ | refine ad F F ?_)
   rename_i y
   refine Nx.sealC (b:=y) fun G2 hG2 hsy=>?_
   have hsl : bR G2 (.slice (some ⟨y,0,none⟩) 1 1) 4 ([c1] : List VC).length (aI bx [c1]):=⟨rfl,.inr ⟨y,0,1,rfl,Nat.le_refl _,hsy⟩⟩
   obtain ⟨hPl,hP0,hP1⟩:=hP
   cases b1 with
   | false =>
    refine bh (vs:=[_]) F ⟨av F F F F,trivial⟩ F sB ⟨hle.trans hG2,.nd 63 [] 0 [u1],⟨63,[],0,some ⟨y,0,none⟩,1,1⟩,t1,false,F,cW dC dC (fun h=>absurd h dC) F hsl ⟨_,[],F,fb hG2 hrep,F⟩,F,by simp only [List.length_cons];omega,fun _=>⟨rfl,by rw [hrd,(hP0 rfl).2];rfl⟩,fun h=>(by cases h)⟩
   | true =>
    obtain ⟨hno,hto⟩:=hP1 rfl
    have hno2 : rd (ag qs) n k s1 = none:=by
     rcases hno with h | h
     ·cases h
     ·exact h
    refine bh (vs:=[_]) F ⟨av F F F F,trivial⟩ F sB ⟨hle.trans hG2,.nd 63 [] 0 [u1],⟨63,[],0,some ⟨y,0,none⟩,1,1⟩,t1,true,F,cW dC dC (fun h=>absurd h dC) F hsl ⟨_,[],F,fb hG2 hrep,F⟩,F,by simp only [List.length_cons];omega,fun h=>(by cases h),fun _=>⟨.inr (by rw [hrd,hno2];rfl),by simp only [V.tot,V.tots,List.length_nil,List.length_cons];omega⟩⟩
theorem aaQ {n r sc : Nat} {qs : List co} {k s : ac1} (hV : m6 n sc qs) (hS : ScI G sc qs) (hk : aE (ag qs) (91 :: k) = true) (hs : s.length < n + 1 ∧ s.length ≤ 1000) :
  dw ac0 133 [Pt r 0,Ag (cS (91 :: k))] G [dX r sc s false] (ir (rd (ag qs) (n + 1) (91 :: k)) r sc s false):=by
 have hk2:=dP (.inl rfl) hk
 obtain ⟨e1,e2,e3,_⟩:=gA (c:=91) (k:=k) (.inl rfl)
 have hrd : rd (ag qs) (n + 1) (91 :: k) s = eR (rd (ag qs) n k) s:=by rw [rd];exact rD F
 unfold cS
 rw [e1,e2,e3]
 have cx_sign:=@gQ G 91 (sg k) (bs k) (nm k)
 have cx_pt:=@kY G 91 (sg k) (bs k) (nm k)
 have cx_li:=aa3 (G:=G) (r:=r) (b:=false) hV hS hk2 (s:=s) ⟨oM,oM⟩
 refine cG [(0,_),(1,_)] Tryz.func133 kR Tryz.ntmps133 F F tU fun B hB hW=>?_
 repeat' (first | refine jR ?_ | (refine jo ?_;first | refine jO fun _=>?_ | refine jL fun _=>?_ | refine ak F ?_ | refine aN F ?_ | refine jC F F F ?_ | refine ab F F F cx_sign F ?_ | refine ab F F F cx_pt F ?_ | (refine dZ F F F cx_li F ?_;rintro _ G1 _ hle ⟨u1,c1,t1,b1,rfl,hrep,rfl,hP⟩;dsimp only [zA,fA];skip)) | refine ac F F ?_ | refine ad F F ?_)
 obtain ⟨hPl,hP0,hP1⟩:=hP
 refine bh (vs:=[_]) F ⟨av F F F F,trivial⟩ F sB ⟨hle,u1,c1,t1,b1,F,hrep,F,hPl,fun h=>⟨F,by rw [hrd];exact (hP0 h).2⟩,fun h=>by rw [hrd];exact hP1 h⟩
theorem eK {ts : List Ty} {c : UInt8} {k : ac1} (hk : aE ts (c :: k) = true) (h91 : ¬ (c.toNat = 91 ∨ c.toNat = 63)) (hr : aT ts (c :: k) = none) : c :: k = [110] ∨ c :: k = [116] ∨ c :: k = [102]:=by
 have hko:=cR hk
 have hcs:=eE (r:=k) h91
 have hrn : bz (bj (c :: k)) = none:=by
  cases hx : bz (bj (c :: k)) with
  | none=>rfl
  | some x =>
   obtain ⟨t,ht⟩:=mF hk (by rw [hx];rfl)
   rw [hcs,hr] at ht;cases ht
 have h:=oK hko hrn
 have h64 : ¬ c.toNat = 64:=by
  intro h64
  rw [hcs] at hrn
  simp [bz,h64] at hrn
 have e : bs (c :: k) = c :: k:=by unfold bs;rw [hcs];simp [nP,h64]
 rwa [e] at h
theorem lh {ts : List Ty} {n : Nat} {s : ac1} {c : UInt8} (hc : c = 110 ∨ c = 116 ∨ c = 102) (hr : aT ts [c] = none) : rd ts (n + 1) [c] s = if c = 110 then (ce 999999 s).map fun x=>(.nd 110 (a8 x.1) 0 [],x.2) else if c = 116 then dh s else d6 s:=by
 rw [rd];unfold eM
 dsimp only
 rcases hc with rfl | rfl | rfl <;> simp [hr]
theorem aaP {n r sc : Nat} {qs : List co} {s : ac1} (hr : aT (ag qs) [110] = none) (hs : s.length ≤ 1000) :
  dw ac0 133 [Pt r 0,Ag (cS [110])] G [dX r sc s false] (ir (rd (ag qs) (n + 1) [110]) r sc s false):=by
 have hrd:=lh (ts:=ag qs) (n:=n) (s:=s) (c:=110) (.inl rfl) hr
 rw [if_pos rfl] at hrd
 have cx_sign:=@di G [110] []
 have cx_nu:=lT (G:=G) (r:=r) (sc:=sc) (s:=s) (b:=false) (top:=999999) oM
 have hwl:=dQ aY s
 show dw ac0 133 [Pt r 0,Ag [S [],S [110],S []]] G [dX r sc s false] _
 refine cG [(0,_),(1,_)] Tryz.func133 kR Tryz.ntmps133 F F tU fun B hB hW=>?_
 repeat' (first | refine jR ?_ | (refine jo ?_;first | refine jO fun _=>?_ | refine jL fun _=>?_ | refine ak F ?_ | refine aN F ?_ | refine jV (an F F) ?_ | refine jC F F F ?_ | refine ab F F F cx_sign F ?_ | (refine aq F F F cx_nu F ?_;rintro _ _ ⟨n1,rfl,⟨hn0,hn1⟩,hnum,rfl⟩;dsimp only [zA,fA]) | refine ab F F F (ge oM) F ?_) | refine ac F F ?_ | refine ad F F ?_)
 have hdl:=f8 hn1
 cases hm : aL (s.takeWhile aY) 999999 with
 | none =>
  refine bh (vs:=[_]) F ⟨av F F F F,trivial⟩ F sB ⟨Gh.le.refl _,.nd 110 (a8 n1) 0 [],⟨110,a8 n1,0,none,0,0⟩,s.dropWhile aY,true,F,bq dC dC,F,oM,fun h=>(by cases h),fun _=>⟨.inr (by rw [hrd];unfold ce;rw [hm];rfl),by simp only [V.tot,V.tots];omega⟩⟩
 | some m =>
  obtain rfl : n1 = m:=hnum m hm
  refine bh (vs:=[_]) F ⟨av F F F F,trivial⟩ F sB ⟨Gh.le.refl _,.nd 110 (a8 n1) 0 [],⟨110,a8 n1,0,none,0,0⟩,s.dropWhile aY,false,F,bq dC dC,F,oM,fun _=>⟨F,by rw [hrd];unfold ce;rw [hm];rfl⟩,fun h=>(by cases h)⟩
theorem aaN {n r sc : Nat} {qs : List co} {s : ac1} (hr : aT (ag qs) [116] = none) (hs : s.length ≤ 1000) :
  dw ac0 133 [Pt r 0,Ag (cS [116])] G [dX r sc s false] (ir (rd (ag qs) (n + 1) [116]) r sc s false):=by
 have hrd:=lh (ts:=ag qs) (n:=n) (s:=s) (c:=116) (.inr (.inl rfl)) hr
 rw [if_neg dC,if_pos rfl] at hrd
 have cx_sign:=@di G [116] []
 have cx_qu:=zp (G:=G) (r:=r) (sc:=sc) (s:=s) (b:=false) oM
 show dw ac0 133 [Pt r 0,Ag [S [],S [116],S []]] G [dX r sc s false] _
 refine cG [(0,_),(1,_)] Tryz.func133 kR Tryz.ntmps133 F F tU fun B hB hW=>?_
 repeat' (first | refine jR ?_ | (refine jo ?_;first | refine jO fun _=>?_ | refine jL fun _=>?_ | refine ak F ?_ | refine aN F ?_ | refine jV (an F F) ?_ | refine jC F F F ?_ | refine ab F F F cx_sign F ?_ | (refine aq F F F cx_qu F ?_;rintro _ _ ⟨x1,t1,b1,rfl,hQ,rfl⟩;dsimp only [zA,fA])) | refine ac F F ?_ | refine ad F F ?_)
 obtain ⟨hQl,hQ0,hQ1⟩:=hQ
 refine bh (vs:=[_]) F ⟨av F F F F,trivial⟩ F sB ⟨Gh.le.refl _,.nd 116 x1 0 [],⟨116,x1,0,none,0,0⟩,t1,b1,F,bq dC dC,F,oM,fun h=>⟨F,by rw [hrd];exact (hQ0 h).2⟩,fun h=>⟨.inr (by rw [hrd];rcases hQ1 h with h | h;cases h;exact h),by simp only [V.tot,V.tots];omega⟩⟩
theorem aaR {n r sc : Nat} {qs : List co} {s : ac1} (hr : aT (ag qs) [102] = none) (hs : s.length ≤ 1000) :
  dw ac0 133 [Pt r 0,Ag (cS [102])] G [dX r sc s false] (ir (rd (ag qs) (n + 1) [102]) r sc s false):=by
 have hrd:=lh (ts:=ag qs) (n:=n) (s:=s) (c:=102) (.inr (.inr rfl)) hr
 rw [if_neg dC,if_neg dC] at hrd
 unfold d6 at hrd
 have cx_sign:=@di G [102] []
 have cx_tk:=hC (G:=G) (r:=r) (sc:=sc) (s:=s) (l:=[121,101,115]) (b:=false) ⟨oM,by simp⟩
 have cx_wa:=dq (G:=G) (r:=r) (sc:=sc) (s:=s) (l:=[110,111]) (b:=false) ⟨oM,by simp⟩
 have ey : ∀ l : ac1,cO l s false = l.isPrefixOf s:=fun l=>by simp [cO]
 have el : ∀ l : ac1,l.isPrefixOf s = true → s.length = l.length + (s.drop l.length).length:=fun l h=>by
  have:=pT h
  have h2:=congrArg List.length this
  rwa [List.length_append] at h2
 show dw ac0 133 [Pt r 0,Ag [S [],S [102],S []]] G [dX r sc s false] _
 cases hy : ([121,101,115] : ac1).isPrefixOf s with
 | true =>
  have hl : s.length = 3 + (s.drop 3).length:=el _ hy
  unfold dR at cx_tk
  rw [ey,hy,if_pos rfl] at cx_tk
  rw [hy,if_pos rfl] at hrd
  refine cG [(0,_),(1,_)] Tryz.func133 kR Tryz.ntmps133 F F tU fun B hB hW=>?_
  repeat' (first | refine jR ?_ | (refine jo ?_;first | refine jO fun _=>?_ | refine jL fun _=>?_ | refine ak F ?_ | refine aN F ?_ | refine jV (an F F) ?_ | refine jC F F F ?_ | refine ab F F F cx_sign F ?_ | (refine aq F F F cx_tk F ?_;rintro _ _ ⟨rfl,rfl⟩;dsimp only [zA,fA])) | refine ac F F ?_ | refine ad F F ?_)
  refine bh (vs:=[_]) F ⟨av F F F F,trivial⟩ F sB ⟨Gh.le.refl _,.nd 102 [121,101,115] 0 [],⟨102,[121,101,115],0,none,0,0⟩,s.drop 3,false,F,bq dC dC,F,oM,fun _=>⟨F,hrd⟩,fun h=>(by cases h)⟩
 | false =>
  have h1 : cO [121,101,115] s false = false:=by rw [ey,hy]
  rw [h1,gt h1] at cx_tk
  rw [hy,if_neg dC] at hrd
  cases hno : ([110,111] : ac1).isPrefixOf s with
  | true =>
   have hl : s.length = 2 + (s.drop 2).length:=el _ hno
   unfold dR at cx_wa
   rw [ey,hno,if_pos rfl] at cx_wa
   rw [hno,if_pos rfl] at hrd
   refine cG [(0,_),(1,_)] Tryz.func133 kR Tryz.ntmps133 F F tU fun B hB hW=>?_
   repeat' (first | refine jR ?_ | (refine jo ?_;first | refine jO fun _=>?_ | refine jL fun _=>?_ | refine ak F ?_ | refine aN F ?_ | refine jV (an F F) ?_ | refine jC F F F ?_ | refine ab F F F cx_sign F ?_ | (refine aq F F F cx_tk F ?_;rintro _ _ ⟨rfl,rfl⟩;dsimp only [zA,fA]) | (refine aq F F F cx_wa F ?_;rintro _ _ rfl;dsimp only [zA,fA])) | refine ac F F ?_ | refine ad F F ?_)
   refine bh (vs:=[_]) F ⟨av F F F F,trivial⟩ F sB ⟨Gh.le.refl _,.nd 102 [110,111] 0 [],⟨102,[110,111],0,none,0,0⟩,s.drop 2,false,F,bq dC dC,F,oM,fun _=>⟨F,hrd⟩,fun h=>(by cases h)⟩
  | false =>
   have h2 : cO [110,111] s false = false:=by rw [ey,hno]
   rw [h2,gt h2,Bool.not_false] at cx_wa
   rw [hno,if_neg dC] at hrd
   refine cG [(0,_),(1,_)] Tryz.func133 kR Tryz.ntmps133 F F tU fun B hB hW=>?_
   repeat' (first | refine jR ?_ | (refine jo ?_;first | refine jO fun _=>?_ | refine jL fun _=>?_ | refine ak F ?_ | refine aN F ?_ | refine jV (an F F) ?_ | refine jC F F F ?_ | refine ab F F F cx_sign F ?_ | (refine aq F F F cx_tk F ?_;rintro _ _ ⟨rfl,rfl⟩;dsimp only [zA,fA]) | (refine aq F F F cx_wa F ?_;rintro _ _ rfl;dsimp only [zA,fA])) | refine ac F F ?_ | refine ad F F ?_)
   refine bh (vs:=[_]) F ⟨av F F F F,trivial⟩ F sB ⟨Gh.le.refl _,.nd 102 [110,111] 0 [],⟨102,[110,111],0,none,0,0⟩,s,true,F,bq dC dC,F,Nat.le_refl _,fun h=>(by cases h),fun _=>⟨.inr hrd,by simp only [V.tot,V.tots,List.length_cons,List.length_nil];omega⟩⟩
theorem aaS {n r sc : Nat} {qs : List co} {c : UInt8} {k s : ac1} {t : Ty} (h91 : ¬ (c.toNat = 91 ∨ c.toNat = 63)) (hV : m6 n sc qs) (hS : ScI G sc qs) (hw : SchW (ag qs)) (hk : aE (ag qs) (c :: k) = true) (hrf : aT (ag qs) (c :: k) = some t) (hs : s.length < n + 1 ∧ s.length ≤ 1000) :
  dw ac0 133 [Pt r 0,Ag (cS (c :: k))] G [dX r sc s false] (ir (rd (ag qs) (n + 1) (c :: k)) r sc s false):=by
 have hko:=cR hk
 have hsg:=i9 (r:=k) h91
 have hcs:=eE (r:=k) h91
 have hrn : (bz (bj (c :: k))).isSome = true:=by
  rw [hcs];unfold aT at hrf
  cases hx : bz (c :: k) with
  | none=>rw [hx] at hrf;cases hrf
  | some x=>rfl
 have hbs : bs (c :: k) = [64]:=(i5 hko).2 hrn
 have hnm : bz (c :: k) = some (nm (c :: k)):=by
  unfold nm;rw [hcs] at hrn ⊢
  cases hx : bz (c :: k) with
  | none=>rw [hx] at hrn;cases hrn
  | some x=>rfl
 have hft : gn (ag qs) (nm (c :: k)) = some t:=by unfold aT at hrf;rw [hnm] at hrf;exact hrf
 have hkv:=gz qs (nm (c :: k))
 rw [← gD] at hft
 rcases hfq : en qs (nm (c :: k)) with _ | ⟨p,t'⟩
 ·rw [hfq] at hft;cases hft
 rw [hfq] at hft hkv
 dsimp only [Option.map_some] at hft hkv
 have htt : t' = t:=Option.some.inj hft
 subst htt
 have hqm:=gM hfq
 have htm:=bJ hrf
 have hW:=hw.ty t' htm
 have hT : iI G p t':=hS.ty _ hqm
 obtain ⟨u,m,g1,g2,g3⟩:=hS.at'
 have hrd : rd (ag qs) (n + 1) (c :: k) s = aZ (ag qs) (rd (ag qs) n) t' s:=by
  rw [rd];unfold eM
  dsimp only
  rw [if_neg (fun h=>h91 (.inl h)),if_neg (fun h=>h91 (.inr h)),hrf]
 have cx_ot : dw ac0 167 [Pt r 0,Pt p 0] G [dX r sc s false] (ir (aZ (ag qs) (rd (ag qs) n) t') r sc s false):=by
  rcases hW.sort with h | h | h
  ·exact aca hV hS hw (fun d hd=>dK hw htm oM hd) hT hW h ⟨oM,oM⟩
  ·exact ab9 hV hS (fun d hd=>dK hw htm oM hd) hT hW h ⟨oM,oM⟩
  ·exact acb hT hW h ⟨oM,oM⟩
 have cx_sign:=@di G [64] (nm (c :: k))
 unfold cS
 rw [hsg,hbs]
 clear hft hfq hnm hrn hcs
 refine cG [(0,_),(1,_)] Tryz.func133 kR Tryz.ntmps133 F F tU fun B hB hW=>?_
 repeat' (first | refine jR ?_ | (refine jo ?_;first | refine jO fun _=>?_ | refine jL fun _=>?_ | refine ak F ?_ | refine aN F ?_ | refine ab F F F cx_sign F ?_) | refine ad F F ?_)
 rename_i x3 x4
 (refine ai (am (id:=21) [.blk x3 (.cells (List.toArray [S [],S [64],S (nm (c :: k))]) eI (0,0))] (by intro y hy;simp only [List.mem_cons,List.not_mem_nil,or_false] at hy ⊢;simp [hy]) ah ?_);refine jW 8 [0,1,2,3,8] (aa 13 271) ?_;(refine jG (aa 13 783) 9 F (aD F F F) ?_);refine jA 4 F ?_;(refine ak F ?_);refine jK (aa 13 799) ?_;refine jW 4 [5,6] (aa 13 895) ?_;(refine jG (aa 13 1023) 7 F (ao F F aS F F) ?_);((refine jG (aa 13 2047) 10 F (bY F F (dO aS) aS F) ?_));refine jA 11 F ?_;(refine dZ F F F cx_ot F ?_;rintro _ G1 _ hle ⟨u1,c1,t1,b1,rfl,hrep,rfl,hP⟩;dsimp only [zA,fA];skip);refine jK (aa 13 4095) ?_;refine jA 12 F ?_;(refine jC F F F ?_);refine jK (aa 13 8191) ?_;refine jQ ?_)
 all_goals repeat' (refine jR ?_)
 all_goals (obtain ⟨hPl,hP0,hP1⟩:=hP)
 all_goals refine bh (vs:=[_]) F ⟨av F F F F,trivial⟩ F sB ⟨hle,u1,c1,t1,b1,F,hrep,F,hPl,fun h=>⟨F,by rw [hrd];exact (hP0 h).2⟩,fun h=>by rw [hrd];exact hP1 h⟩
theorem rp {sc : Nat} {qs : List co} (hw : SchW (ag qs)) : ∀ n,m6 n sc qs
 | 0=>fun G r k s b _ _ h _=>absurd h (Nat.not_lt_zero _)
 | n + 1=>fun G r k s b hS hk hn hs=>by
  have hV:=rp (sc:=sc) hw n
  cases b with
  | true =>
   exact sp.toM fun v L' ⟨h1,h2⟩=>⟨.nd 0 [] 0 [],⟨0,[],0,none,0,0⟩,s,true,h1,fJ,h2,Nat.le_refl _,fun h=>(by cases h),fun _=>⟨.inl F,by simp only [V.tot,V.tots,List.length_nil];omega⟩⟩
  | false =>
   match k,hk with
   | [],hk=>cases hk
   | c :: k,hk =>
    by_cases h1 : c.toNat = 91
    ·obtain rfl:=bn h1 dC
     exact aaQ hV hS hk ⟨hn,hs⟩
    by_cases h2 : c.toNat = 63
    ·obtain rfl:=bn h2 dC
     exact aaO F hV hS hk ⟨hn,hs⟩
    have h91 : ¬ (c.toNat = 91 ∨ c.toNat = 63):=fun h=>by rcases h with h | h <;> omega
    cases hr : aT (ag qs) (c :: k) with
    | some t=>exact aaS h91 hV hS hw hk hr ⟨hn,hs⟩
    | none =>
     rcases eK hk h91 hr with e | e | e
     ·rw [e] at hr ⊢;exact aaP hr hs
     ·rw [e] at hr ⊢;exact aaN hr hs
     ·rw [e] at hr ⊢;exact aaR hr hs
end Go.E
