/- Contracts and plain laws that the statement rests on, part 4. Conditions: as each says. -/
import Derived.Test.YtlkjjgmfhafnaabGreatDoorQ3
set_option linter.unusedVariables false
set_option linter.unusedSimpArgs false
namespace Go.E
set_option maxRecDepth 20000
set_option maxHeartbeats 2000000
open Go.Proofs
variable {G : Gh}
theorem dS (vs : List bS) (k : ac8) : (dX vs k).map (·.2) = a7 (ag vs) k:=by
 unfold dX a7
 cases bJ k with
 | none=>rfl
 | some n=>simp only [Option.bind_some];exact rX vs n
theorem eF {vs : List bS} {k : ac8} {x : bS} (h : dX vs k = some x) : x ∈ vs:=by
 unfold dX at h
 cases hr : bJ k with
 | none=>rw [hr] at h;cases h
 | some n=>rw [hr] at h;exact (vT h).1
theorem cT {s : ac8} (h : bB s = true) : d1 s = true ∧ s.length ≤ 12:=by
 unfold bB at h;simp only [Bool.and_eq_true,decide_eq_true_eq] at h;exact ⟨h.2,h.1⟩
theorem abi {u : Value} {vs : List bS} {x0 : bS} (h : SchR G u vs) (hn : vs.length ≤ 1000) (hw : ∀ x ∈ vs,TyW x.2) (hx : x0 ∈ vs) :
  an ac7 157 [u,Ag (i6 x0)] G (· = Bo (bV (ag vs) (vs.length + 1) x0.2)):=by
 have hsl:=h.sl
 refine jE [(0,_),(1,_)] Tryz.func157 Tryz.ntmps157 fun B hB=>?_
 repeat' (first | refine jR ?_ | (refine jo ?_;refine jO fun _=>?_))
 rename_i b0
 refine aT (ι:=bS × Nat) (fun i=>i.1 ∈ vs ∧ i.2 ≤ vs.length + 1 ∧ bV (ag vs) (vs.length + 1 - i.2) i.1.2 = bV (ag vs) (vs.length + 1) x0.2) (fun i=>[(0,u),(3,Pt b0 0),(5,I i.2)]) (fun _=>G) (fun i=>[.blk b0 (.cells (i6 i.1).toArray qi (0,0))]) (fun i=>vs.length + 1 - i.2) (x0,0) ?_ tU F aZ (fun i Hi=>?_)
 ·exact ⟨hx,Nat.zero_le _,F⟩
 obtain ⟨⟨⟨a,ca⟩,t⟩,n⟩:=i
 dsimp only at Hi ⊢
 obtain ⟨hxm,hnl,he⟩:=Hi
 have hW:=hw _ hxm
 dsimp only at hW
 by_cases hlt : n ≤ vs.length
 case neg =>
  have e0 : vs.length + 1 - n = 0:=oM
  rw [e0] at he
  repeat' (first | refine jR ?_ | (refine jo ?_;refine jV (d2 F aS) ?_) | refine ad F (aC oM) ?_)
  refine jY (vs:=[_]) ?_
  rw [← he];rfl
 obtain ⟨m,hm⟩ : ∃ m,vs.length + 1 - n = m + 1:=⟨vs.length - n,oM⟩
 rw [hm,bV] at he
 by_cases hU : t.sort = 85
 case neg =>
  rw [if_pos hU] at he
  repeat' (first | refine jR ?_ | (refine jo ?_;first | refine jV (d2 F aS) ?_ | refine ah F ?_) | (refine ac F ?_ ?_;(focus ((first | (refine decide_eq_true ?_;(omega)) | (simp;omega));done))))
  refine jY (vs:=[_]) ?_
  rw [← he];rfl
 rw [if_neg (by simp [hU])] at he
 have hne:=hW.ne oM
 have h0 : 0 < t.fields.length:=List.length_pos_iff.2 hne
 obtain ⟨bf,of,cf,ef,hsf⟩:=(h.fl _ hxm).expl h0
 simp only [gn,Value.slice.injEq] at ef
 obtain ⟨rfl,-,rfl⟩:=ef
 dsimp only at hsf
 have hk0 : fP t = (ae t.fields 0).kind:=by
  unfold fP ae
  cases t.fields with
  | nil=>rfl
  | cons f r=>rfl
 have hkk:=cT ((hW.fld _ (bP h0)).kind oM)
 rw [hk0] at he
 have href:=dS vs (ae t.fields 0).kind
 have cx_rf:=gI (k:=(ae t.fields 0).kind) h oM hkk.1 oM
 rcases hr : dX vs (ae t.fields 0).kind with _ | ⟨⟨a2,c2⟩,t2⟩
 ·rw [hr] at href cx_rf
  rw [← href] at he
  repeat' (first | refine jR ?_ | (refine jo ?_;first | refine jV (d2 F aS) ?_ | refine ah F ?_ | (refine jV (bO F F aS ?_ F F) ?_;focus omega) | refine jV (aA F F oM) ?_ | refine jL fun _=>?_ | refine jC F F F ?_ | refine ab F F F cx_rf F ?_) | (refine ac F (by first | rfl | (refine decide_eq_true ?_;(omega))) ?_) | (refine ad F ?_ ?_;(focus ((simp [*];done);done))))
  all_goals refine jY (vs:=[_]) ?_
  all_goals (rw [← he];rfl)
 ·rw [hr] at href cx_rf
  rw [← href] at he
  repeat' (first | refine jM ?_ | (refine jo ?_;first | refine jV (d2 F aS) ?_ | refine ah F ?_ | (refine jV (bO F F aS ?_ F F) ?_;focus omega) | refine aB F ?_ | refine jV (aA F F oM) ?_ | refine jL fun _=>?_ | refine jC F F F ?_ | refine ab F F F cx_rf F ?_) | refine ac F (ay oM) ?_ | (refine ad F ?_ ?_;(focus ((first | rfl | (simp [*];done));done))))
  refine aY (((a2,c2),t2),n + 1) ⟨eF hr,by dsimp only;omega,?_⟩ (by dsimp only;omega) tU rfl sB
  dsimp only
  rw [show vs.length + 1 - (n + 1) = m by omega]
  exact he
theorem pD (vs : List bS) : (ag vs).length = vs.length:=by simp [ag]
theorem kO {vs : List bS} {i : Nat} (h : i < vs.length) : ae (ag vs) i = (ae vs i).2:=by
 rw [aW h,aW (by rw [pD];exact h)];simp [ag]
theorem qD {vs : List bS} {k : ac8} : en (ag vs) k = (!(bJ (br k)).isSome || (fz vs ((bJ (br k)).getD [])).isSome):=by
 unfold en
 cases bJ (br k) with
 | none=>rfl
 | some n =>
  show (gF (ag vs) n).isSome = _
  rw [← rX];simp
theorem lD {k : ac8} (h : d1 k = true) : d1 (br k) = true:=by
 induction k with
 | nil=>cases h
 | cons c r ih =>
  unfold br
  split
  ·rename_i hc;rw [d1,if_pos hc] at h;exact ih h
  ·exact h
theorem km : ∀ s : ac8,(br s).length ≤ s.length
 | []=>Nat.le_refl _
 | c :: r=>by
  unfold br
  split
  ·have:=km r;simp;omega
  ·exact Nat.le_refl _
theorem ze {u : Value} {vs : List bS} (h : SchR G u vs) (hn : vs.length ≤ 1000) (hw : ∀ x ∈ vs,TyW x.2) :
    an ac7 116 [u] G (· = Bo (decide (iC (ag vs)))):=by
  have hsl:=h.sl
  have hlen:=pD vs
  refine jE [(0,_)] Tryz.func116 Tryz.ntmps116 fun B hB=>?_
  repeat' (refine jR ?_)
  refine aT (ι:=Nat) (fun i=>i ≤ vs.length ∧ ∀ j,j < i → kW (ag vs) j ∧ ib (ag vs) (ae (ag vs) j)) (fun i=>[(0,u),(3,I i)]) (fun _=>G) (fun i=>[]) (fun i=>vs.length - i) 0 ?_ tU F aZ (fun i Hi=>?_)
  · exact ⟨Nat.zero_le _,fun j hj=>absurd hj oM⟩
  by_cases hi : i < vs.length
  case neg =>
    have ei : i = vs.length:=oM
    subst ei
    have Hall:=Hi.2
    repeat' (first | refine jR ?_ | (refine jo ?_;refine jV (d2 F aS) ?_) | refine ad F (aC oM) ?_)
    refine aT (ι:=Nat) (fun i=>i ≤ vs.length ∧ ∀ j,j < i → bV (ag vs) ((ag vs).length + 1) (ae (ag vs) j) = true) (fun i=>[(0,u),(10,I i)]) (fun _=>G) (fun i=>[]) (fun i=>vs.length - i) 0 ?_ tU F aZ (fun i Hi=>?_)
    · exact ⟨Nat.zero_le _,fun j hj=>absurd hj oM⟩
    by_cases hi : i < vs.length
    · obtain ⟨b,o,cap,rfl,hs⟩:=hsl.expl oM
      have hm:=bP hi
      have cx_en:=abi h hn hw hm
      by_cases he : bV (ag vs) (vs.length + 1) (ae vs i).2 = true
      · have he2 : (!bV (ag vs) (vs.length + 1) (ae vs i).2) = false:=by rw [he];rfl
        repeat' (first | refine jM ?_ | (refine jo ?_;first | refine jV (av F) ?_ | refine jV (aA F F oM) ?_ | (refine jV (cM F F aS ?_) ?_;focus omega) | refine ab F F F cx_en F ?_) | refine ac F (ay oM) ?_ | refine ad F ‹_› ?_)
        refine aY (i + 1) ⟨oM,fun j hj=>?_⟩ oM tU F aZ
        rcases Nat.lt_or_ge j i with h3 | h3
        · exact Hi.2 j h3
        · have : j = i:=oM
          subst this;rw [hlen,kO hi];exact he
      · have he2 : (!bV (ag vs) (vs.length + 1) (ae vs i).2) = true:=by simpa using he
        repeat' (first | refine jR ?_ | (refine jo ?_;first | refine jV (av F) ?_ | refine jV (aA F F oM) ?_ | (refine jV (cM F F aS ?_) ?_;focus omega) | refine ab F F F cx_en F ?_) | (refine ac F (by first | assumption | (refine decide_eq_true ?_;(omega))) ?_))
        refine jY (vs:=[_]) ?_
        refine congrArg Bo (decide_eq_false fun hv=>he ?_).symm
        have:=hv.2 i oM
        rwa [hlen,kO hi] at this
    · repeat' (first | refine jR ?_ | (refine jo ?_;refine jV (d2 F aS) ?_) | refine ad F (aC oM) ?_)
      refine jY (vs:=[_]) ?_
      exact congrArg Bo (decide_eq_true ⟨fun j hj=>Hall j oM,fun j hj=>Hi.2 j oM⟩).symm
  obtain ⟨b,o,cap,rfl,hs⟩:=hsl.expl oM
  rcases hxi : ae vs i with ⟨⟨a,ca⟩,t⟩
  have hm : ((a,ca),t) ∈ vs:=by rw [← hxi];exact bP hi
  have hW:=hw _ hm
  dsimp only at hW
  have hti : ae (ag vs) i = t:=by rw [kO hi,hxi]
  have hE1 : (((a,ca),t) : bS).2.sort = t.sort:=rfl
  have hE2 : (((a,ca),t) : bS).2.fields.length = t.fields.length:=rfl
  have h8:=hW.len
  have hfl:=h.fl _ hm
  repeat' (first | refine jR ?_ | (refine jo ?_;refine jV (av F) ?_) | refine ac F (ay oM) ?_)
  refine aT (ι:=Nat) (fun k=>k ≤ i ∧ ∀ j,j < k → (ae (ag vs) j).name ≠ (ae (ag vs) i).name) (fun k=>[(0,.slice (some ⟨b,o,none⟩) vs.length cap),(3,I i),(4,I k)]) (fun _=>G) (fun k=>[]) (fun k=>i - k) 0 ?_ tU F aZ (fun k Hk=>?_)
  · exact ⟨Nat.zero_le _,fun j hj=>absurd hj oM⟩
  by_cases hk : k < i
  · have hkv : k < vs.length:=oM
    by_cases hnm : (ae vs k).2.name = t.name
    · repeat' (first | refine jR ?_ | (refine ac F (by refine decide_eq_true ?_;first | assumption | omega) ?_) | (refine aj (am (id:=7) _ (fun _ h=>h) ai ?_);refine jT 7 [0,1,5,6] (aa 11 99) ?_;(refine jG (aa 11 103) 2 F (aA F F oM) ?_);refine jT 5 [3] (aa 11 111) ?_;((refine jG (aa 11 127) 4 F (bO F F aS ?_ F F) ?_;focus omega));(refine jG (aa 11 255) 7 F (aA F F oM) ?_);refine jT 2 [8] (aa 11 511) ?_;((refine jG (aa 11 1023) 9 F (iW F F aS ?_ aS F F) ?_;focus omega));refine jT 0 [10] (aa 11 2047) ?_;refine jQ ?_))
      refine jY (vs:=[_]) ?_
      refine congrArg Bo (decide_eq_false fun hv=>?_).symm
      have:=(hv.1 i oM).1 k hk
      rw [kO hkv,hti] at this
      exact this hnm
    · repeat' (first | refine jM ?_ | refine ac F (ay oM) ?_ | refine ad F (aC ‹_›) ?_ | (refine aj (am (id:=7) _ (fun _ h=>h) ai ?_);refine jT 7 [0,1,5,6] (aa 11 99) ?_;(refine jG (aa 11 103) 2 F (aA F F oM) ?_);refine jT 5 [3] (aa 11 111) ?_;((refine jG (aa 11 127) 4 F (bO F F aS ?_ F F) ?_;focus omega));(refine jG (aa 11 255) 7 F (aA F F oM) ?_);refine jT 2 [8] (aa 11 511) ?_;((refine jG (aa 11 1023) 9 F (iW F F aS ?_ aS F F) ?_;focus omega));refine jT 0 [10] (aa 11 2047) ?_;refine jQ ?_))
      refine aY (k + 1) ⟨oM,fun j hj=>?_⟩ oM tU F aZ
      rcases Nat.lt_or_ge j k with h3 | h3
      · exact Hk.2 j h3
      · have : j = k:=oM
        subst this;rw [kO hkv,hti];exact hnm
  have hna : kW (ag vs) i:=fun j hj=>Hk.2 j oM
  repeat' (first | refine jR ?_ | refine ad F (aC oM) ?_)
  refine aT (ι:=Nat) (fun k=>(t.sort = 69 ∨ ∀ j,j < k → en (ag vs) (ae t.fields j).kind = true) ∧ k ≤ t.fields.length) (fun k=>[(0,.slice (some ⟨b,o,none⟩) vs.length cap),(3,I i),(5,I k)]) (fun _=>G) (fun k=>[]) (fun k=>t.fields.length - k) 0 ?_ tU F aZ (fun k Hk=>?_)
  · exact ⟨.inr fun j hj=>absurd hj oM,Nat.zero_le _⟩
  by_cases hk : k < t.fields.length ∧ t.sort ≠ 69
  case neg =>
    have hko : ib (ag vs) (ae (ag vs) i):=by
      rw [hti]
      by_cases h69 : t.sort = 69
      · exact .inl h69
      · refine .inr fun j hj=>?_
        rcases Hk.1 with h3 | h3
        · exact absurd h3 h69
        · exact h3 j oM
    repeat' (first | refine jM ?_ | (refine jo ?_;first | refine jV (av F) ?_ | refine jV (aA F F oM) ?_ | (refine jV (iW F F aS ?_ aS F F) ?_;focus omega) | refine aG F ?_ | refine ar F ?_) | refine dN F F (fun _=>?_) (fun _=>?_) | (refine ad F (by first | rfl | (refine decide_eq_false ?_;(omega))) ?_))
    all_goals refine aY (i + 1) ⟨oM,fun j hj=>?_⟩ oM tU F aZ
    all_goals (rcases Nat.lt_or_ge j i with h3 | h3;· exact Hi.2 j h3)
    all_goals (have : j = i:=by omega)
    all_goals (subst this;exact ⟨hna,hko⟩)
  obtain ⟨hk1,hk2⟩:=hk
  obtain ⟨bf,of,cf,ef,hsf⟩:=hfl.expl (by dsimp only;omega)
  simp only [gn,Value.slice.injEq] at ef
  obtain ⟨rfl,-,rfl⟩:=ef
  dsimp only at hsf
  have hE1 : (((some ⟨bf,of,none⟩,ca),t) : bS).2.sort = t.sort:=rfl
  have hE2 : (((some ⟨bf,of,none⟩,ca),t) : bS).2.fields.length = t.fields.length:=rfl
  have hkk:=cT ((hW.fld _ (bP hk1)).kind hk2)
  have hkk1:=hkk.1
  have hcl:=km (ae t.fields k).kind
  have cx_ref : an ac7 100 [S (br (ae t.fields k).kind)] G (· = Tu [S ((bJ (br (ae t.fields k).kind)).getD []),Bo (bJ (br (ae t.fields k).kind)).isSome]):=lM (lD hkk1) oM
  have hhas:=qD (vs:=vs) (k:=(ae t.fields k).kind)
  repeat' (first | refine jM ?_ | (refine jo ?_;first | refine jV (av F) ?_ | refine jV (aA F F oM) ?_ | (refine jV (iW F F aS ?_ aS F F) ?_;focus omega) | (refine jV (bO F F aS ?_ F F) ?_;focus omega) | refine aG F ?_ | refine ar F ?_ | refine jL fun _=>?_ | refine jC F F F ?_ | (refine ab F F F (sC (by (repeat (assumption));done)) rfl ?_) | refine ab F F F cx_ref F ?_ | (refine ab F F F (sG (by (repeat (assumption));done) oM) rfl ?_)) | refine ax F F (ay oM) ?_ | refine jj F F (fun _=>?_) (fun _=>?_) | refine ac F (ay oM) ?_ | refine ad F F ?_ | refine gX F (fun _=>?_) (fun _=>?_))
  all_goals first
    | (rename_i h1 h2
       have hK : en (ag vs) (ae t.fields k).kind = false:=by rw [hhas,h1];simpa using h2
       refine jY (vs:=[_]) ?_
       refine congrArg Bo (decide_eq_false fun hv=>?_).symm
       have h5:=(hv.1 i oM).2
       rw [hti] at h5
       rcases h5 with h3 | h3
       · exact hk2 h3
       · have h6:=h3 k hk1
         rw [hK] at h6;cases h6)
    | (have hK : en (ag vs) (ae t.fields k).kind = true:=by rw [hhas];simp_all
       refine aY (k + 1) ⟨.inr fun j hj=>?_,oM⟩ oM tU F (by repeat (exact List.nil_sublist _))
       rcases Nat.lt_or_ge j k with h3 | h3
       · rcases Hk.1 with h4 | h4
         · exact absurd h4 hk2
         · exact h4 j h3
       · have : j = k:=oM
         subst this;exact hK)
theorem gy : ∀ {xs : List ac8} {ts : List Ty} {x : ac8},b9 xs = some ts → b9 (xs ++ [x]) = (da x).map (fun t=>ts ++ [t])
 | [],ts,x,h=>by
  simp only [b9,Option.some.injEq] at h;subst h
  simp only [List.nil_append,b9]
  cases da x <;> rfl
 | y :: xs,ts,x,h=>by
  unfold b9 at h
  rw [List.cons_append,b9]
  cases hy : da y with
  | none=>rw [hy] at h;cases h
  | some t =>
   rw [hy] at h
   dsimp only at h ⊢
   cases hr : b9 xs with
   | none=>rw [hr] at h;cases h
   | some us =>
    rw [hr] at h
    simp only [Option.map_some,Option.some.injEq] at h;subst h
    rw [gy hr]
    cases da x <;> rfl
theorem ga : ∀ {xs ys : List ac8},b9 xs = none → b9 (xs ++ ys) = none
 | [],ys,h=>by cases h
 | y :: xs,ys,h=>by
  unfold b9 at h
  rw [List.cons_append,b9]
  cases hy : da y with
  | none=>rfl
  | some t =>
   rw [hy] at h
   dsimp only at h ⊢
   cases hr : b9 xs with
   | none=>rw [ga hr];rfl
   | some us=>rw [hr] at h;cases h
def sX (s : ac8) (v : Value) (G : Gh) : Prop:=∃ u vs,v = Tu [u,Bo (aQ s).isSome] ∧ SchR G u vs ∧ vs.length ≤ 8 ∧ ∀ ts,aQ s = some ts → ag vs = ts
theorem SchR.nil : SchR G aI []:=⟨be.nil0,by simp⟩
theorem wv {s : ac8} {k : Nat} (h : s.length ≤ 100000000) : bn ac7 114 [S s,U8 k] G (fun v G'=>∃ b o cap,v = .slice (some ⟨b,o,none⟩) (bc k s).length cap ∧ b7 G' b o (aE dG (bc k s))):=by
 refine (sA (G:=G) (k:=k) h).mono ?_
 rintro v G' L' ⟨h1,h2,h3⟩
 obtain ⟨b,o,cap,rfl,hs⟩:=h3.expl dU
 exact ⟨h1,h2,b,o,cap,F,hs⟩
theorem qY {s : ac8} (h : s.length ≤ 1000) : bn ac7 115 [S s] G (fun v G'=>∃ (x : bS) (ok : Bool),v = Tu [Ag [U8 x.2.sort,S x.2.name,.slice x.1.1 x.2.fields.length x.1.2],Bo ok] ∧ (da s = if ok = true then some x.2 else none) ∧ be G' (gn x) 4 x.2.fields.length (aE g5 x.2.fields)):=by
 refine (sy (G:=G) h).mono ?_
 rintro v G' L' ⟨h1,h2,fv,t,ok,rfl,h3,h4⟩
 obtain ⟨a,cap,rfl⟩:=h4.sl
 exact ⟨h1,h2,((a,cap),t),ok,F,h3,h4⟩
theorem zr {s : ac8} (h : s.length ≤ 10000000) (hb : ¬ (s.length ≤ 400 ∧ (bc 10 s).length ≤ 9 ∧ ae (bc 10 s) ((bc 10 s).length - 1) = [])) (hno : aQ s = none) : bn ac7 81 [S s] G (sX s):=by
 have hpos:=dU (k:=10) (s:=s)
 have hcnt:=kj (k:=10) (s:=s)
 have cx_cutE:=wv (G:=G) (s:=s) (k:=10) oM
 generalize bc 10 s = xs at *
 have e1 : (((xs.length : Nat) : Int) - 1).toNat = xs.length - 1:=oM
 refine jB [(0,_)] Tryz.func81 Tryz.ntmps81 fun B hok hB hW=>?_
 by_cases h1 : s.length ≤ 400
 case neg =>
  repeat' (first | refine jR ?_ | (refine jo ?_;first | refine aG F ?_ | (refine aK F F F cx_cutE F ?_;rintro _ G hle ⟨b1,o1,cap1,rfl,hseg⟩;skip)) | (refine ax F F (by first | rfl | (refine decide_eq_true ?_;(omega))) ?_) | refine ac F F ?_)
  all_goals refine jZ (vs:=[_,_]) F ⟨F,F,trivial⟩ F ⟨hle,F,?_⟩
  all_goals exact ⟨aI,[],by rw [hno];rfl,SchR.nil,by simp,fun ts h=>by rw [hno] at h;cases h⟩
 by_cases h2 : xs.length ≤ 9
 case neg =>
  repeat' (first | refine jR ?_ | (refine jo ?_;first | refine jV (av F) ?_ | refine aG F ?_ | refine ar F ?_ | (refine aK F F F cx_cutE F ?_;rintro _ G hle ⟨b1,o1,cap1,rfl,hseg⟩;skip)) | refine ax F F (ay oM) ?_ | refine ak F F (aC oM) ?_ | refine ac F F ?_)
  all_goals refine jZ (vs:=[_,_]) F ⟨F,F,trivial⟩ F ⟨hle,F,?_⟩
  all_goals exact ⟨aI,[],by rw [hno];rfl,SchR.nil,by simp,fun ts h=>by rw [hno] at h;cases h⟩
 have h3 : ¬ ae xs (((xs.length : Nat) : Int) - 1).toNat = []:=by rw [e1];exact fun h=>hb ⟨h1,h2,h⟩
 clear hb
 repeat' (first | refine jM ?_ | (refine jo ?_;first | refine jV (av F) ?_ | refine ar F ?_ | refine jV (aN F F oM) ?_ | (refine jV (it F F aS ?_) ?_;focus omega) | (refine aK F F F cx_cutE F ?_;rintro _ G hle ⟨b1,o1,cap1,rfl,hseg⟩;skip)) | refine ak F F (aC oM) ?_ | refine ac F (ay ‹_›) ?_)
 all_goals refine jZ (vs:=[_,_]) F ⟨F,F,trivial⟩ F ⟨hle,F,?_⟩
 all_goals exact ⟨aI,[],by rw [hno];rfl,SchR.nil,by simp,fun ts h=>by rw [hno] at h;cases h⟩
theorem zq {s : ac8} (h : s.length ≤ 400) (h2 : (bc 10 s).length ≤ 9) (h3 : ae (bc 10 s) ((bc 10 s).length - 1) = []) (hsc : aQ s = match b9 ((bc 10 s).take ((bc 10 s).length - 1)) with
    | some ts=>if iC ts then some ts else none
    | none=>none) : bn ac7 81 [S s] G (sX s):=by
  have hpos:=dU (k:=10) (s:=s)
  have hall : ∀ y ∈ bc 10 s,y.length ≤ s.length:=fun y hy=>dn hy
  have cx_cutE:=wv (G:=G) (s:=s) (k:=10) oM
  generalize bc 10 s = xs at *
  have e1 : (((xs.length : Nat) : Int) - 1).toNat = xs.length - 1:=oM
  have h4 : ae xs (((xs.length : Nat) : Int) - 1).toNat = []:=by rw [e1];exact h3
  have h5 : ¬ ae xs (((xs.length : Nat) : Int) - 1).toNat ≠ []:=fun h=>h h4
  clear e1 h3 h4
  refine jB [(0,_)] Tryz.func81 Tryz.ntmps81 fun B hok hB hW=>?_
  repeat' (first | refine jM ?_ | (refine jo ?_;first | refine jV (av F) ?_ | refine ar F ?_ | refine jV (aN F F oM) ?_ | (refine jV (it F F aS ?_) ?_;focus omega) | refine jF fun _=>?_ | (refine aK F F F cx_cutE F ?_;rintro _ G hle ⟨b1,o1,cap1,rfl,hseg⟩;skip)) | refine ak F F (aC oM) ?_ | refine ad F (aC ‹_›) ?_)
  rename_i x0
  refine Nx.blkAcc (m:=0) (sz:=3) .here F ?_
  refine aT (ι:=Value × List bS × Nat × Gh) (fun i=>((i.2.2.1 + 1 ≤ xs.length ∧ i.2.1.length = i.2.2.1) ∧ b9 (xs.take i.2.2.1) = some (ag i.2.1)) ∧ (∀ y ∈ i.2.1,be i.2.2.2 (gn y) 4 y.2.fields.length (aE g5 y.2.fields)) ∧ Gh.le G i.2.2.2) (fun i=>[(4,.slice (some ⟨b1,o1,none⟩) xs.length cap1),(5,i.1),(6,I i.2.2.1)]) (fun i=>i.2.2.2) (fun i=>[.acc i.1 qi 3 i.2.1.length (aE i6 i.2.1)]) (fun i=>xs.length - i.2.2.1) (.slice (some ⟨x0,0,none⟩) 0 0,[],0,G) ?_ tU F aZ (fun i Hi=>?_)
  · exact ⟨⟨⟨by dsimp only;omega,rfl⟩,rfl⟩,by simp,Gh.le.refl _⟩
  obtain ⟨u,vs,i,Gk⟩:=i
  dsimp only at Hi ⊢
  obtain ⟨⟨⟨hi1,hi2⟩,hty⟩,hfs,hgk⟩:=Hi
  have hsk:=hseg.mono hgk
  have hle0:=hle
  by_cases hix : i + 1 < xs.length
  case neg =>
    have ei : i = xs.length - 1:=oM
    rw [← ei,hty] at hsc
    dsimp only at hsc
    refine Nx.sealS (v:=u) fun G1 hle1 hsl=>?_
    have hS : SchR G1 u vs:=⟨hsl,fun x hx=>(hfs x hx).mono hle1⟩
    have hw : ∀ x ∈ vs,TyW x.2:=fun x hx=>(io hty).1 x.2 (show x.2 ∈ vs.map (fun y=>y.2) from List.mem_map_of_mem hx)
    have cx_val:=ze hS oM hw
    repeat' (first | refine jM ?_ | (refine jo ?_;first | refine jV (av F) ?_ | refine ab F F F cx_val F ?_) | refine ad F (aC oM) ?_)
    all_goals refine jZ (vs:=[_,_]) F ⟨F,F,trivial⟩ F ⟨(hle0.trans hgk).trans hle1,F,?_⟩
    all_goals refine ⟨u,vs,?_,hS,oM,fun ts h=>?_⟩
    · rw [hsc,dM]
      by_cases hv : iC (ag vs)
      · rw [if_pos hv,decide_eq_true hv];rfl
      · rw [if_neg hv,decide_eq_false hv];rfl
    · rw [hsc] at h
      split at h
      · exact Option.some.inj h
      · cases h
  have hx2 : (ae xs i).length ≤ 1000:=by have:=hall _ (bP (show i < xs.length by omega));omega
  have hsn:=gy (x:=ae xs i) hty
  rw [← eZ oM] at hsn
  repeat' (first | refine jM ?_ | (refine jo ?_;first | refine jV (av F) ?_ | refine jV (aA F F oM) ?_ | refine aB F ?_ | (refine jV (it F F aS ?_) ?_;focus omega) | refine jF fun _=>?_ | refine jL fun _=>?_ | refine jC F F F ?_ | refine bY F F F F F F F F F oM fun _ _=>?_ | (refine aK F F F (qY oM) F ?_;rintro _ G hle ⟨x,ok,rfl,htyp,hfl⟩;skip)) | refine ac F (ay oM) ?_ | refine gX F (fun _=>?_) (fun _=>?_))
  all_goals first
    | (rename_i hq
       have hq2 : ok = false:=by simpa using hq
       subst hq2
       have hf0 : da (ae xs i) = none:=htyp
       have hno : aQ s = none:=by
         rw [hf0] at hsn
         have e2 : xs.take (xs.length - 1) = xs.take (i + 1) ++ (xs.take (xs.length - 1)).drop (i + 1):=by
           have:=List.take_append_drop (i + 1) (xs.take (xs.length - 1))
           rw [List.take_take,Nat.min_eq_left oM] at this
           exact this.symm
         rw [hsc,e2,ga hsn]
       refine jZ (vs:=[_,_]) F ⟨F,F,trivial⟩ F ⟨(hle0.trans hgk).trans hle,F,?_⟩
       exact ⟨aI,[],by rw [hno];rfl,SchR.nil,by simp,fun ts h=>by rw [hno] at h;cases h⟩)
    | (rename_i z hq w b2 c2
       have hq2 : ok = true:=by simpa using hq
       subst hq2
       have hf1 : da (ae xs i) = some x.2:=htyp
       rw [hf1] at hsn
       have e3 : aE i6 vs ++ [U8 x.2.sort,S x.2.name,.slice x.1.1 x.2.fields.length x.1.2] = aE i6 (vs ++ [x]):=(co i6 vs x).symm
       refine aY (.slice (some ⟨b2,0,none⟩) (vs.length + 1) c2,vs ++ [x],i + 1,G) ⟨⟨⟨by dsimp only;omega,by simp;omega⟩,?_⟩,?_,hgk.trans hle⟩ (by dsimp only;omega) tU rfl (by dsimp only;rw [e3];simp only [List.length_append,List.length_cons,List.length_nil,Nat.zero_add];repeat (first | exact List.nil_sublist _ | apply List.Sublist.cons_cons))
       · dsimp only;rw [hsn];simp [ag]
       · intro y hy
         rcases List.mem_append.1 hy with hy | hy
         · exact (hfs y hy).mono hle
         · simp only [List.mem_singleton] at hy;subst hy;exact hfl)
theorem pr {s : ac8} (h : s.length ≤ 10000000) : bn ac7 81 [S s] G (sX s):=by
 have hpos:=dU (k:=10) (s:=s)
 have hlast : (bc 10 s).getLastD [] = ae (bc 10 s) ((bc 10 s).length - 1):=by
  rw [aW oM,List.getLastD_eq_getLast?,List.getLast?_eq_getElem?]
  rw [List.getElem?_eq_getElem oM];rfl
 by_cases hc : s.length ≤ 400 ∧ (bc 10 s).length ≤ 9 ∧ ae (bc 10 s) ((bc 10 s).length - 1) = []
 ·refine zq hc.1 hc.2.1 hc.2.2 ?_
  unfold aQ
  rw [hlast,if_pos hc,List.dropLast_eq_take]
  (rfl)
 ·refine zr h hc ?_
  unfold aQ
  rw [hlast,if_neg hc]
def bQ (s k : ac8) : Bool:=match aQ s with
 | some ts=>aO ts k
 | none=>false
theorem nG {s : ac8} (h : s.length ≤ 10000000) : an ac7 69 [S s] G (· = Bo (aQ s).isSome):=by
 refine jB (Post:=fun v G' L'=>G' = G ∧ L' = [] ∧ _) [(0,_)] Tryz.func69 Tryz.ntmps69 fun B hok hB hW=>?_
 repeat' (first | refine jR ?_ | (refine jo ?_;(refine aK F F F (pr oM) F ?_;rintro _ G hle ⟨u,vs,rfl,hsch,hvl,hvs⟩;skip)))
 refine Nx.base hok hB ?_
 refine jY (vs:=[_]) ?_
 rfl
def xB (s k : ac8) (v : Value) (G : Gh) : Prop:=∃ u vs,v = Tu [u,Bo (bQ s k)] ∧ SchR G u vs ∧ vs.length ≤ 8 ∧ ∀ ts,aQ s = some ts → aO ts k = true → ag vs = ts
theorem eh {s k : ac8} (h : s.length ≤ 10000000) (hk : k.length ≤ 10000000) : bn ac7 62 [S s,S k] G (xB s k):=by
  cases hs : aQ s with
  | none =>
    have hno : bQ s k = false:=by unfold bQ;rw [hs]
    have e1 : (!(aQ s).isSome) = true:=by rw [hs];rfl
    refine jB [(0,_),(1,_)] Tryz.func62 Tryz.ntmps62 fun B hok hB hW=>?_
    repeat' (first | refine jR ?_ | (refine jo ?_;first | refine aG F ?_ | (refine aK F F F (pr oM) F ?_;rintro _ G hle ⟨u,vs,rfl,hsch,hvl,hvs⟩;skip)) | refine ax F F ‹_› ?_ | refine ac F F ?_)
    all_goals refine jZ (vs:=[_,_]) F ⟨F,F,trivial⟩ F ⟨hle,F,?_⟩
    all_goals exact ⟨aI,[],by rw [hno];rfl,SchR.nil,by simp,fun ts h=>by rw [hs] at h;cases h⟩
  | some ts =>
    have e1 : (!(aQ s).isSome) = false:=by rw [hs];rfl
    by_cases hko : bB k = true
    case neg =>
      have hno : bQ s k = false:=by unfold bQ aO;rw [hs];simp [hko]
      have e2 : (!bB k) = true:=by simpa using hko
      refine jB [(0,_),(1,_)] Tryz.func62 Tryz.ntmps62 fun B hok hB hW=>?_
      repeat' (first | refine jR ?_ | (refine jo ?_;first | refine ar F ?_ | (refine aK F F F (pr oM) F ?_;rintro _ G hle ⟨u,vs,rfl,hsch,hvl,hvs⟩;skip) | refine ab F F F mK F ?_) | refine ak F F ‹_› ?_ | refine ac F ‹_› ?_)
      all_goals refine jZ (vs:=[_,_]) F ⟨F,F,trivial⟩ F ⟨hle,F,?_⟩
      all_goals exact ⟨aI,[],by rw [hno];rfl,SchR.nil,by simp,fun ts h1 h2=>by unfold aO at h2;simp [hko] at h2⟩
    have e2 : (!bB k) = false:=by rw [hko];rfl
    have hkk:=cT hko
    have hkk1:=hkk.1
    have hcl:=km k
    have cx_rf2 : ∀ G,an ac7 100 [S (br k)] G (· = Tu [S ((bJ (br k)).getD []),Bo (bJ (br k)).isSome]):=fun G=>lM (lD hkk1) oM
    refine jB [(0,_),(1,_)] Tryz.func62 Tryz.ntmps62 fun B hok hB hW=>?_
    repeat' (first | refine jR ?_ | (refine jo ?_;first | refine aG F ?_ | refine ar F ?_ | refine jL fun _=>?_ | refine jC F F F ?_ | (refine aK F F F (pr oM) F ?_;rintro _ G hle ⟨u,vs,rfl,hsch,hvl,hvs⟩;skip) | refine ab F F F mK F ?_ | (refine ab F F F (sC (by (repeat (assumption));done)) rfl ?_) | refine ab F F F (cx_rf2 _) F ?_ | (refine ab F F F (sG (by (repeat (assumption));done) oM) rfl ?_)) | refine ak F F ‹_› ?_ | refine jj F F (fun _=>?_) (fun _=>?_) | refine ad F ‹_› ?_)
    all_goals rename_i hq
    all_goals refine jZ (vs:=[_,_]) F ⟨F,F,trivial⟩ F ⟨hle,F,?_⟩
    all_goals have hks : bQ s k = (!(bJ (br k)).isSome || (fz vs ((bJ (br k)).getD [])).isSome) := by
                unfold bQ aO
                rw [hs]
                dsimp only
                rw [hko,Bool.true_and,← hvs ts hs,qD]
    all_goals exact ⟨u,vs,by rw [hks,hq];rfl,hsch,hvl,fun ts' h1 _=>hvs ts' h1⟩
abbrev cF:=Nat × Ty
def tB (q : cF) : List Value:=[Pt q.1 0]
instance : RowF tB 1:=⟨fun _=>rfl⟩
def gB (qs : List cF) : List (ac8 × Value):=qs.map fun q=>(q.2.name,Pt q.1 0)
def ao (qs : List cF) : List Ty:=qs.map (·.2)
def eO (qs : List cF) (n : ac8) : Option cF:=qs.find? fun q=>decide (n = q.2.name)
theorem gW (qs : List cF) (n : ac8) : lW (gB qs) n = (eO qs n).map fun q=>Pt q.1 0:=by
 unfold lW gB eO
 induction qs with
 | nil=>rfl
 | cons q qs ih =>
  simp only [List.map_cons,List.find?_cons]
  by_cases h : n = q.2.name
  ·simp [h]
  ·simp only [h,decide_false];exact ih
theorem g6 (qs : List cF) (n : ac8) : (eO qs n).map (·.2) = gF (ao qs) n:=by
 unfold eO gF ao
 induction qs with
 | nil=>rfl
 | cons q qs ih =>
  simp only [List.map_cons,List.find?_cons]
  by_cases h : n = q.2.name
  ·simp [h]
  ·have h2 : ¬ q.2.name = n:=fun e=>h e.symm
   simp only [h,h2,decide_false];exact ih
theorem iw {qs : List cF} {n : ac8} {q : cF} (h : eO qs n = some q) : q ∈ qs:=List.mem_of_find?_eq_some h
structure ScI (G : Gh) (b : Nat) (qs : List cF) : Prop where
 at' : ∃ u m,b7 G b 0 [u,.map (some m)] ∧ be G u 1 qs.length (aE tB qs) ∧ G m = some (.ex (eI (gB qs)))
 ty : ∀ q ∈ qs,iD G q.1 q.2
theorem ScI.mono {G G' : Gh} {b : Nat} {qs : List cF} (h : ScI G b qs) (hl : Gh.le G G') : ScI G' b qs:=by
 obtain ⟨u,m,h1,h2,h3⟩:=h.at'
 exact ⟨⟨u,m,h1.mono hl,h2.mono hl,hl _ _ h3⟩,fun q hq=>(h.ty q hq).mono hl⟩
theorem nh {k : ac8} (h : bB k = true) : bs k = [64] ↔ (bJ (br k)).isSome = true:=by
 have hk:=lD (cT h).1
 unfold bs
 cases hc : br k with
 | nil=>rw [hc] at hk;cases hk
 | cons c r =>
  unfold px bJ
  by_cases h64 : c.toNat = 64
  ·simp [h64]
  ·simp only [h64,if_false]
   constructor
   ·intro e;simp only [List.cons.injEq] at e;exact absurd (by rw [e.1];rfl) h64
   ·intro e;cases e
theorem u4 {b : Nat} {qs : List cF} {k : ac8} (h : ScI G b qs) (hk : bB k = true) : an ac7 89 [Pt b 0,Ag [S (sg k),S (bs k),S (nm k)]] G (· = Bo (en (ao qs) k)):=by
 obtain ⟨u,m,h1,h2,h3⟩:=h.at'
 have hat:=nh hk
 rcases hr : bJ (br k) with _ | n
 ·have hb : ¬ bs k = [64]:=by rw [hat,hr];simp
  have e : en (ao qs) k = true:=by unfold en;rw [hr]
  clear hat hr
  rw [e]
  refine jE [(0,_),(1,_)] Tryz.func89 Tryz.ntmps89 fun B hB=>?_
  repeat' (first | refine jR ?_ | (refine jo ?_;refine jO fun _=>?_) | (refine aj (am (id:=1) _ (fun _ h=>h) ai ?_);refine jT 13 [0] (aa 14 1) ?_;(refine jG (aa 14 3) 1 F (aq F F F) ?_);refine jT 10 [2,3] (aa 14 15) ?_;(try (refine Nx.re (d:=8) (v':=Bo true) F (congrArg Value.bool (ay ‹_›)) ?_));refine jT 6 [4,5,6,8] (aa 14 383) ?_;(refine jN (aa 14 511) 7 F ?_);(refine jN (aa 14 1023) 9 F ?_);(refine jN (aa 14 2047) 10 F ?_);(refine jN (aa 14 4095) 11 F ?_);(refine jG (aa 14 8191) 12 F (a6 F F F) ?_);refine jT 0 [13] (aa 14 16383) ?_;refine jQ ?_))
  all_goals refine jY (vs:=[_]) ?_
  all_goals rfl
 ·have hb : ¬ (bs k ≠ [64]):=fun h=>h (by rw [hat,hr];rfl)
  have hn : nm k = n:=by unfold nm;rw [hr];rfl
  have e : en (ao qs) k = (eO qs (nm k)).isSome:=by unfold en;rw [hr,hn];dsimp only;rw [← g6];simp
  rw [e]
  clear hat hr hn e
  have hkv:=gW qs (nm k)
  cases hf : eO qs (nm k) with
  | none =>
   rw [hf] at hkv
   dsimp only [Option.map_none] at hkv
   refine jE [(0,_),(1,_)] Tryz.func89 Tryz.ntmps89 fun B hB=>?_
   repeat' (first | refine jR ?_ | (refine jo ?_;refine jO fun _=>?_) | (refine aj (am (id:=1) _ (fun _ h=>h) ai ?_);refine jT 13 [0] (aa 14 1) ?_;(refine jG (aa 14 3) 1 F (aq F F F) ?_);refine jT 10 [2,3] (aa 14 15) ?_;(try (refine Nx.re (d:=8) (v':=Bo false) F (congrArg Value.bool (aC ‹_›)) ?_));refine jT 6 [4,5,6,8] (aa 14 383) ?_;(refine jG (aa 14 511) 7 F (aL F F aS F F) ?_);(refine jG (aa 14 1023) 9 F (aq F F F) ?_);((refine jG (aa 14 2047) 10 F (cG F F (eN aS) aS F) ?_));(refine jG (aa 14 4095) 11 F (gE F F) ?_);(refine jG (aa 14 8191) 12 F (aJ F F F) ?_);refine jT 0 [13] (aa 14 16383) ?_;refine jQ ?_))
   all_goals refine jY (vs:=[_]) ?_
   all_goals rfl
  | some q =>
   rw [hf] at hkv
   dsimp only [Option.map_some] at hkv
   refine jE [(0,_),(1,_)] Tryz.func89 Tryz.ntmps89 fun B hB=>?_
   repeat' (first | refine jR ?_ | (refine jo ?_;refine jO fun _=>?_) | (refine aj (am (id:=1) _ (fun _ h=>h) ai ?_);refine jT 13 [0] (aa 14 1) ?_;(refine jG (aa 14 3) 1 F (aq F F F) ?_);refine jT 10 [2,3] (aa 14 15) ?_;(try (refine Nx.re (d:=8) (v':=Bo false) F (congrArg Value.bool (aC ‹_›)) ?_));refine jT 6 [4,5,6,8] (aa 14 383) ?_;(refine jG (aa 14 511) 7 F (aL F F aS F F) ?_);(refine jG (aa 14 1023) 9 F (aq F F F) ?_);((refine jG (aa 14 2047) 10 F (cG F F (eN aS) aS F) ?_));(refine jG (aa 14 4095) 11 F (gE F F) ?_);(refine jG (aa 14 8191) 12 F (aJ F F F) ?_);refine jT 0 [13] (aa 14 16383) ?_;refine jQ ?_))
   all_goals refine jY (vs:=[_]) ?_
   all_goals rfl
theorem yw {k : ac8} (h : bB k = true) : bJ k = if sg k = [] ∧ bs k = [64] then some (nm k) else none:=by
 have hat:=nh h
 match k,h with
 | c :: r,h =>
  by_cases h1 : c.toNat = 91 ∨ c.toNat = 63
  ·have hs : ¬ (sg (c :: r) = [] ∧ bs (c :: r) = [64]):=by
    rintro ⟨e,_⟩
    unfold sg at e
    rw [br,if_pos h1] at e
    have:=lC r
    have e2:=congrArg List.length e
    simp only [List.length_take,List.length_cons,List.length_nil] at e2
    omega
   rw [if_neg hs]
   simp only [bJ]
   rw [if_neg oM]
  ·have hc : br (c :: r) = c :: r:=by rw [br,if_neg h1]
   have hs : sg (c :: r) = []:=by unfold sg;rw [hc];simp
   have hn : nm (c :: r) = (bJ (c :: r)).getD []:=by unfold nm;rw [hc]
   rw [hc] at hat
   rw [hn,hs]
   cases hr : bJ (c :: r) with
   | none=>rw [hr] at hat;rw [if_neg];rintro ⟨_,e⟩;have:=hat.1 e;cases this
   | some n=>rw [hr] at hat;rw [if_pos ⟨rfl,hat.2 rfl⟩];rfl
theorem zv {b : Nat} {qs : List cF} {q0 : cF} (h : ScI G b qs) (hw : ∀ q ∈ qs,TyW q.2) (hk : ∀ q ∈ qs,ib (ao qs) q.2) (hq : q0 ∈ qs) :
  an ac7 122 [Pt b 0,Pt q0.1 0] G (· = Bo (bV (ao qs) 9 q0.2)):=by
 obtain ⟨u,m,h1,h2,h3⟩:=h.at'
 refine jE [(0,_),(1,_)] Tryz.func122 Tryz.ntmps122 fun B hB=>?_
 repeat' (refine jR ?_)
 refine aT (ι:=cF × Nat) (fun i=>i.1 ∈ qs ∧ i.2 ≤ 9 ∧ bV (ao qs) (9 - i.2) i.1.2 = bV (ao qs) 9 q0.2) (fun i=>[(0,Pt b 0),(1,Pt i.1.1 0),(6,I i.2)]) (fun _=>G) (fun i=>[]) (fun i=>9 - i.2) (q0,0) ?_ tU F aZ (fun i Hi=>?_)
 ·exact ⟨hq,Nat.zero_le _,F⟩
 obtain ⟨⟨p,t⟩,i⟩:=i
 dsimp only at Hi ⊢
 obtain ⟨hqm,hi9,he⟩:=Hi
 have hW:=hw _ hqm
 obtain ⟨fv,ln,hsg,hfv⟩:=h.ty _ hqm
 dsimp only at hW hsg hfv
 by_cases hlt : i < 9
 case neg =>
  have e0 : 9 - i = 0:=oM
  rw [e0] at he
  repeat' (first | refine jR ?_ | refine ad F (aC oM) ?_)
  refine jY (vs:=[_]) ?_
  rw [← he];rfl
 obtain ⟨j,hj⟩ : ∃ j,9 - i = j + 1:=⟨8 - i,oM⟩
 rw [hj,bV] at he
 by_cases hU : t.sort = 85
 case neg =>
  rw [if_pos hU] at he
  repeat' (first | refine jR ?_ | (refine jo ?_;refine jV (aL F F aS F F) ?_) | refine ac F (ay oM) ?_)
  refine jY (vs:=[_]) ?_
  rw [← he];rfl
 rw [if_neg (by simp [hU])] at he
 have hne:=hW.ne oM
 have h0 : 0 < t.fields.length:=List.length_pos_iff.2 hne
 obtain ⟨bf,of,cf,rfl,hsf⟩:=hfv.expl h0
 have hk0 : fP t = (ae t.fields 0).kind:=by
  unfold fP ae
  cases t.fields with
  | nil=>rfl
  | cons f r=>rfl
 have hko:=(hW.fld _ (bP h0)).kind oM
 have hrs:=yw hko
 have hhas : en (ao qs) (ae t.fields 0).kind = true:=by
  rcases hk _ hqm with h5 | h5
  ·dsimp only at h5;omega
  ·exact h5 0 h0
 rw [hk0] at he
 by_cases hs1 : sg (ae t.fields 0).kind = []
 case neg =>
  rw [if_neg fun h=>hs1 h.1] at hrs
  unfold a7 at he
  rw [hrs] at he
  repeat' (first | refine jR ?_ | (refine jo ?_;first | refine ah F ?_ | refine jV (aL F F aS F F) ?_ | (refine jV (iu F F aS ?_ F F) ?_;focus omega) | refine jV (aA F F oM) ?_ | refine jL fun _=>?_ | refine jC F F F ?_ | refine aG F ?_) | refine ax F F (ay ‹_›) ?_ | (refine ac F (by first | rfl | (refine decide_eq_true ?_;(omega))) ?_) | refine ad F (aC oM) ?_)
  all_goals refine jY (vs:=[_]) ?_
  all_goals (rw [← he];rfl)
 by_cases hs2 : bs (ae t.fields 0).kind = [64]
 case neg =>
  rw [if_neg fun h=>hs2 h.2] at hrs
  unfold a7 at he
  rw [hrs] at he
  repeat' (first | refine jR ?_ | (refine jo ?_;first | refine ah F ?_ | refine jV (aL F F aS F F) ?_ | (refine jV (iu F F aS ?_ F F) ?_;focus omega) | refine jV (aA F F oM) ?_ | refine jL fun _=>?_ | refine jC F F F ?_ | refine ar F ?_) | (refine ak F F ?_ ?_;(focus ((simp [*];done);done))) | (refine ac F (by refine decide_eq_true ?_;first | assumption | omega) ?_) | refine ad F (aC oM) ?_)
  all_goals refine jY (vs:=[_]) ?_
  all_goals (rw [← he];rfl)
 rw [if_pos ⟨hs1,hs2⟩] at hrs
 unfold a7 at he
 rw [hrs,Option.bind_some,← g6] at he
 have hkv:=gW qs (nm (ae t.fields 0).kind)
 have hr2 : bJ (br (ae t.fields 0).kind) = some (nm (ae t.fields 0).kind):=by
  have:=(nh hko).1 hs2
  unfold nm
  cases hx : bJ (br (ae t.fields 0).kind) with
  | none=>rw [hx] at this;cases this
  | some n=>rfl
 unfold en at hhas
 rw [hr2] at hhas
 dsimp only at hhas
 rw [← g6] at hhas
 cases hf : eO qs (nm (ae t.fields 0).kind) with
 | none=>rw [hf] at hhas;cases hhas
 | some q =>
  rw [hf] at hkv he
  dsimp only [Option.map_some] at hkv he
  have hb1 : ¬ sg (ae t.fields 0).kind ≠ []:=fun h=>h hs1
  have hb2 : ¬ bs (ae t.fields 0).kind ≠ [64]:=fun h=>h hs2
  clear hs1 hs2 hrs hr2
  repeat' (first | refine jM ?_ | (refine jo ?_;first | refine ah F ?_ | refine jV (aL F F aS F F) ?_ | (refine jV (iu F F aS ?_ F F) ?_;focus omega) | refine jV (aA F F oM) ?_ | refine jL fun _=>?_ | refine jC F F F ?_ | refine ar F ?_) | refine ak F F (aC ‹_›) ?_ | refine ac F (ay oM) ?_ | (refine ad F (by refine decide_eq_false ?_;first | assumption | omega) ?_) | (refine aj (am (id:=8) _ (fun _ h=>h) ai ?_);refine jT 4 [0,1,2,4] (aa 8 23) ?_;(refine jG (aa 8 31) 3 F (aL F F aS F F) ?_);(refine jG (aa 8 63) 5 F (aq F F F) ?_);((refine jG (aa 8 127) 6 F (cG F F (eN aS) aS F) ?_));refine jT 0 [7] (aa 8 255) ?_;refine jQ ?_))
  refine aY (q,i + 1) ⟨iw hf,by dsimp only;omega,?_⟩ (by dsimp only;omega) tU rfl (by repeat (exact List.nil_sublist _))
  dsimp only
  rw [show 9 - (i + 1) = j by omega]
  exact he
structure Rdg (s : ac8) (ls : List ac8) (ts : List Ty) (t : ac8) : Prop where
 cutE : bc 10 s = ls ++ bc 10 t
 tyE : b9 ls = some ts
theorem Rdg.start (s : ac8) : Rdg s [] [] s:=⟨rfl,rfl⟩
theorem Rdg.len {s : ac8} {ls : List ac8} {ts : List Ty} {t : ac8} (h : Rdg s ls ts t) : ts.length = ls.length:=(io h.tyE).2
theorem lz {t line rest : ac8} (h : aH 10 t = (line,rest,true)) : bc 10 t = line :: bc 10 rest:=by rw [lA,h];rfl
theorem Rdg.step {s : ac8} {ls : List ac8} {ts : List Ty} {t line rest : ac8} {x : Ty} (h : Rdg s ls ts t) (hc : aH 10 t = (line,rest,true)) (hx : da line = some x) : Rdg s (ls ++ [line]) (ts ++ [x]) rest :=
 ⟨by rw [h.cutE,lz hc];simp,by rw [gy h.tyE,hx];rfl⟩
theorem Rdg.fin {s : ac8} {ls : List ac8} {ts : List Ty} (h : Rdg s ls ts []) (hl : s.length ≤ 400) (h8 : ts.length ≤ 8) : aQ s = if iC ts then some ts else none:=by
 have hlen:=h.len
 have e : bc 10 s = ls ++ [[]]:=h.cutE
 unfold aQ
 rw [e,if_pos ⟨hl,by simp;omega,by simp⟩,List.dropLast_concat,h.tyE]
theorem uz {s : ac8} (h : ¬ s.length ≤ 400) : aQ s = none:=by
 unfold aQ
 exact if_neg fun h2=>h h2.1
theorem Rdg.noend {s : ac8} {ls : List ac8} {ts : List Ty} {t : ac8} (h : Rdg s ls ts t) (ht : t ≠ []) (hc : (aH 10 t).2.2 = false) : aQ s = none:=by
 have e : bc 10 s = ls ++ [t]:=by rw [h.cutE,lA,hc];rfl
 unfold aQ
 rw [e,if_neg]
 rintro ⟨_,_,h3⟩
 simp at h3
 exact ht h3
theorem Rdg.many {s : ac8} {ls : List ac8} {ts : List Ty} {t line rest : ac8} (h : Rdg s ls ts t) (hc : aH 10 t = (line,rest,true)) (h8 : ts.length = 8) : aQ s = none:=by
 have hlen:=h.len
 have hp:=dU (k:=10) (s:=rest)
 unfold aQ
 rw [h.cutE,lz hc,if_neg]
 rintro ⟨_,h3,_⟩
 simp at h3
 omega
theorem qJ {ls : List ac8} {line rest : ac8} : (ls ++ line :: bc 10 rest).dropLast = (ls ++ [line]) ++ (bc 10 rest).dropLast:=by
 have hp:=dU (k:=10) (s:=rest)
 have hne : bc 10 rest ≠ []:=fun e=>by rw [e] at hp;simp at hp
 rw [List.dropLast_append_of_ne_nil (by simp),List.dropLast_cons_of_ne_nil hne];simp
theorem Rdg.bad {s : ac8} {ls : List ac8} {ts : List Ty} {t line rest : ac8} (h : Rdg s ls ts t) (hc : aH 10 t = (line,rest,true)) (hx : da line = none) : aQ s = none:=by
 have hn : b9 (ls ++ [line]) = none:=by rw [gy h.tyE,hx];rfl
 unfold aQ
 split
 ·rw [h.cutE,lz hc,qJ,ga hn]
 ·rfl
theorem nj : ∀ {xs ys : List ac8} {ts us : List Ty},b9 xs = some ts → b9 (xs ++ ys) = some us → ∃ vs,us = ts ++ vs
 | [],ys,ts,us,h,h2=>by simp only [b9,Option.some.injEq] at h;subst h;exact ⟨us,F⟩
 | x :: xs,ys,ts,us,h,h2=>by
  unfold b9 at h
  rw [List.cons_append,b9] at h2
  cases hx : da x with
  | none=>rw [hx] at h;cases h
  | some t =>
   rw [hx] at h h2
   dsimp only at h h2
   cases hr : b9 xs with
   | none=>rw [hr] at h;cases h
   | some ws =>
    rw [hr] at h
    simp only [Option.map_some,Option.some.injEq] at h;subst h
    cases hq : b9 (xs ++ ys) with
    | none=>rw [hq] at h2;cases h2
    | some zs =>
     rw [hq] at h2
     simp only [Option.map_some,Option.some.injEq] at h2;subst h2
     obtain ⟨vs,rfl⟩:=nj hr hq
     exact ⟨vs,F⟩
theorem iV {α : Type} [Inhabited α] {xs ys : List α} {i : Nat} (h : i < xs.length) : ae (xs ++ ys) i = ae xs i:=by
 rw [aW h,aW (by simp;omega),List.getElem_append_left h]
theorem Rdg.dup {s : ac8} {ls : List ac8} {ts : List Ty} {t line rest : ac8} {x : Ty} (h : Rdg s ls ts t) (hc : aH 10 t = (line,rest,true)) (hx : da line = some x) (i : Nat) (hi : i < ts.length) (hd : (ae ts i).name = x.name) : aQ s = none:=by
 have h2:=h.step hc hx
 unfold aQ
 split
 ·rw [h.cutE,lz hc,qJ]
  cases hr : b9 (ls ++ [line] ++ (bc 10 rest).dropLast) with
  | none=>rfl
  | some us =>
   obtain ⟨vs,rfl⟩:=nj h2.tyE hr
   dsimp only
   rw [if_neg]
   intro hv
   have h3:=(hv.1 ts.length (by simp)).1 i hi
   have e1 : ae (ts ++ [x] ++ vs) i = ae ts i:=by rw [iV (by simp;omega),iV hi]
   have e2 : ae (ts ++ [x] ++ vs) ts.length = x:=by rw [iV (by simp),aW (by simp)];simp
   rw [e1,e2] at h3
   exact h3 hd
 ·rfl
abbrev tPT : TypeId:=125
abbrev tSc : TypeId:=129
def abr (s : ac8) (v : Value) (G : Gh) : Prop:=(aQ s = none ∧ ∃ p,v = Tu [p,Bo false]) ∨ ∃ b qs,v = Tu [Pt b 0,Bo true] ∧ aQ s = some (ao qs) ∧ ScI G b qs
theorem fk (qs : List cF) : (ao qs).length = qs.length:=by simp [ao]
theorem kP {qs : List cF} {i : Nat} (h : i < qs.length) : ae (ao qs) i = (ae qs i).2:=by
 rw [aW h,aW (by rw [fk];exact h)];simp [ao]
theorem uP {qs : List cF} {n : ac8} {q : cF} (h : eO qs n = some q) : ∃ i,i < (ao qs).length ∧ (ae (ao qs) i).name = n:=by
 have h1:=iw h
 have h2 : n = q.2.name:=by unfold eO at h;simpa using List.find?_some h
 obtain ⟨i,hi,rfl⟩:=m6 h1
 exact ⟨i,by rw [fk];exact hi,by rw [kP hi,h2]⟩
theorem uQ {qs : List cF} {n : ac8} (h : eO qs n = none) : ∀ i,i < qs.length → (ae (ao qs) i).name ≠ n:=by
 intro i hi e
 unfold eO at h
 rw [List.find?_eq_none] at h
 have:=h _ (bP hi)
 rw [kP hi] at e
 simp [e] at this
theorem gJ {s : ac8} (h : s.length ≤ 10000000) : bn ac7 87 [S s] G (abr s):=by
 by_cases hl : s.length ≤ 400
 case neg =>
  have hno:=uz hl
  refine jB [(0,_)] Tryz.func87 Tryz.ntmps87 fun B hok hB hW=>?_
  repeat' (first | refine jR ?_ | refine ac F (ay oM) ?_)
  all_goals refine jZ (vs:=[_,_]) F ⟨F,F,trivial⟩ F ⟨Gh.le.refl _,F,?_⟩
  all_goals exact .inl ⟨hno,_,F⟩
 refine jB [(0,_)] Tryz.func87 Tryz.ntmps87 fun B hok hB hW=>?_
 repeat' (first | refine jR ?_ | (refine jo ?_;first | refine ach F fun _=>?_ | refine jV (al F F) ?_ | refine jO fun _=>?_) | refine ad F (aC oM) ?_)
 rename_i m x
 refine Nx.addNil tPT 1 ?_
 refine aT (ι:=Value × List cF × List ac8 × ac8 × Gh) (fun i=>Rdg s i.2.2.1 (ao i.2.1) i.2.2.2.1 ∧ (i.2.1.length ≤ 8 ∧ i.2.2.2.1.length ≤ s.length) ∧ (∀ a,a < i.2.1.length → kW (ao i.2.1) a) ∧ (∀ q ∈ i.2.1,iD i.2.2.2.2 q.1 q.2) ∧ Gh.le G i.2.2.2.2) (fun i=>[(0,S i.2.2.2.1),(4,Pt x 0)]) (fun i=>i.2.2.2.2) (fun i=>[.acc i.1 tPT 1 i.2.1.length (aE tB i.2.1),.blk x (.cells [i.1,.map (some m)].toArray tSc (0,0)),.blk m (eI (gB i.2.1))]) (fun i=>i.2.2.2.1.length) (aI,[],[],s,G) ?_ tU F aZ (fun i Hi=>?_)
 ·exact ⟨Rdg.start s,⟨by simp,Nat.le_refl _⟩,fun a ha=>absurd ha (by simp),by simp,Gh.le.refl _⟩
 obtain ⟨u,qs,ls,t,Gk⟩:=i
 dsimp only at Hi ⊢
 obtain ⟨hR,⟨h8,htl⟩,hna,hti,hgk⟩:=Hi
 refine Nx.shp (v:=u) (.head _) fun hsh=>?_
 have hsh2:=hsh
 obtain ⟨au,cu,rfl⟩:=hsh.sl
 by_cases ht : t = []
 case neg =>
  have cx_cut : ∀ G,an ac7 120 [S t,S [10]] G (· = Tu [S (aH 10 t).1,S (aH 10 t).2.1,Bo (aH 10 t).2.2]):=fun G=>pw (c:=10) oM
  have hcl:=jm (k:=10) (s:=t)
  cases hc : (aH 10 t).2.2 with
  | false =>
   have hno:=hR.noend ht hc
   have hc2 : (!(aH 10 t).2.2) = true:=by rw [hc];rfl
   repeat' (first | refine jR ?_ | (refine jo ?_;first | refine aG F ?_ | refine ab F F F (cx_cut _) F ?_) | refine ax F F ‹_› ?_ | (refine ac F (by first | rfl | (refine decide_eq_true ?_;(assumption))) ?_))
   all_goals refine jZ (vs:=[_,_]) F ⟨F,F,trivial⟩ F ⟨hgk,F,?_⟩
   all_goals exact .inl ⟨hno,_,F⟩
  | true =>
   have hce : aH 10 t = ((aH 10 t).1,(aH 10 t).2.1,true):=by rw [← hc]
   have hlt : (aH 10 t).2.1.length < t.length:=by
    obtain ⟨d,_,e⟩:=gv hce
    have:=congrArg List.length e
    simp at this;omega
   rw [hc] at cx_cut
   generalize (aH 10 t).1 = line at *
   generalize (aH 10 t).2.1 = rest at *
   clear hc
   by_cases h9 : qs.length = 8
   ·have hno:=hR.many hce (by rw [fk];exact h9)
    repeat' (first | refine jR ?_ | (refine jo ?_;first | refine ah F ?_ | refine jV (av F) ?_ | refine ar F ?_ | refine ab F F F (cx_cut _) F ?_) | refine ak F F F ?_ | (refine ac F (by refine decide_eq_true ?_;first | assumption | omega) ?_))
    all_goals refine jZ (vs:=[_,_]) F ⟨F,F,trivial⟩ F ⟨hgk,F,?_⟩
    all_goals exact .inl ⟨hno,_,F⟩
   have hle1 : line.length ≤ 1000:=oM
   cases hty : da line with
   | none =>
    have hno:=hR.bad hce hty
    have cx_rt0 : ∀ G,bn ac7 121 [S line] G (fun v _=>∃ p,v = Tu [p,Bo false]):=fun G=>by
     refine (po (G:=G) hle1).mono ?_
     rintro v G' L' ⟨h1,h2,⟨_,p,rfl⟩ | ⟨_,_,_,h4,_⟩⟩
     ·exact ⟨h1,h2,p,F⟩
     ·rw [hty] at h4;cases h4
    repeat' (first | refine jR ?_ | (refine jo ?_;first | refine ah F ?_ | refine jV (av F) ?_ | refine ar F ?_ | refine ab F F F (cx_cut _) F ?_ | (refine aK F F F (cx_rt0 _) F ?_;rintro _ G hle ⟨p,rfl⟩;skip)) | refine ak F F F ?_ | (refine ac F (by first | rfl | (refine decide_eq_true ?_;(assumption))) ?_) | refine ad F (aC oM) ?_ | (refine aj (am (id:=9) _ (fun _ h=>h) ai ?_);refine jT 11 [0,1,2] (aa 14 7) ?_;(try (refine Nx.re (d:=47) (v':=Bo true) F (congrArg Value.bool F) ?_));refine jT 5 [3,4,5,7,8,9] (aa 14 959) ?_;(refine jN (aa 14 1023) 6 F ?_);(refine jN (aa 14 2047) 10 F ?_);(refine jN (aa 14 4095) 11 F ?_);(refine jN (aa 14 8191) 12 F ?_);(refine jG (aa 14 16383) 13 F (a6 F F F) ?_);refine jQ ?_))
    all_goals refine jZ (vs:=[_,_]) F ⟨F,F,trivial⟩ F ⟨hgk.trans hle,F,?_⟩
    all_goals exact .inl ⟨hno,_,F⟩
   | some ty =>
   have cx_rt1 : ∀ G,bn ac7 121 [S line] G (fun v G'=>∃ b fv ln,v = Tu [Pt b 0,Bo true] ∧ b7 G' b 0 [U8 ty.sort,S ty.name,fv,S ln] ∧ be G' fv 6 ty.fields.length (aE jl ty.fields)):=fun G=>by
    refine (po (G:=G) hle1).mono ?_
    rintro v G' L' ⟨h1,h2,⟨h4,_⟩ | ⟨b,t2,rfl,h4,fv,ln,h5,h6⟩⟩
    ·rw [hty] at h4;cases h4
    ·rw [hty] at h4;simp only [Option.some.injEq] at h4;subst h4
     exact ⟨h1,h2,b,fv,ln,F,h5,h6⟩
   have hkv:=gW qs ty.name
   cases hf : eO qs ty.name with
   | some q =>
    rw [hf] at hkv
    dsimp only [Option.map_some] at hkv
    obtain ⟨i,hi,hn⟩:=uP hf
    have hno:=hR.dup hce hty i hi hn
    repeat' (first | refine jR ?_ | (refine jo ?_;first | refine ah F ?_ | refine jV (av F) ?_ | refine ar F ?_ | refine ab F F F (cx_cut _) F ?_ | (refine aK F F F (cx_rt1 _) F ?_;rintro _ G hle ⟨b,fv,ln,rfl,hsg,hfv⟩;skip)) | refine ak F F F ?_ | (refine ac F (by first | rfl | (refine decide_eq_true ?_;(assumption))) ?_) | refine ad F (aC oM) ?_ | (refine aj (am (id:=9) _ (fun _ h=>h) ai ?_);refine jT 11 [0,1,2] (aa 14 7) ?_;(try (refine Nx.re (d:=47) (v':=Bo false) F (congrArg Value.bool F) ?_));refine jT 5 [3,4,5,7,8,9] (aa 14 959) ?_;(refine jG (aa 14 1023) 6 F (aq F F F) ?_);(refine jG (aa 14 2047) 10 F (aL F F aS F F) ?_);(refine jG (aa 14 4095) 11 F (cG F F (tG MapI.mem) aS F) ?_);(refine jG (aa 14 8191) 12 F (gE F F) ?_);(refine jG (aa 14 16383) 13 F (aJ F F F) ?_);refine jQ ?_))
    all_goals refine jZ (vs:=[_,_]) F ⟨F,F,trivial⟩ F ⟨hgk.trans hle,F,?_⟩
    all_goals exact .inl ⟨hno,_,F⟩
   | none =>
    rw [hf] at hkv
    dsimp only [Option.map_none] at hkv
    repeat' (first | refine jR ?_ | (refine jo ?_;first | refine ah F ?_ | refine jV (av F) ?_ | refine ar F ?_ | refine ab F F F (cx_cut _) F ?_ | (refine aK F F F (cx_rt1 _) F ?_;rintro _ G hle ⟨b,fv,ln,rfl,hsg,hfv⟩;skip)) | refine ak F F F ?_ | refine ac F (ay ‹_›) ?_ | refine ad F (aC oM) ?_)
    (refine aj (am (id:=9) _ (fun _ h=>h) ai ?_);refine jT 11 [0,1,2] (aa 14 7) ?_;(try (refine Nx.re (d:=47) (v':=Bo false) F (congrArg Value.bool F) ?_));refine jT 5 [3,4,5,7,8,9] (aa 14 959) ?_;(refine jG (aa 14 1023) 6 F (aq F F F) ?_);(refine jG (aa 14 2047) 10 F (aL F F aS F F) ?_);(refine jG (aa 14 4095) 11 F (cG F F (tG MapI.mem) aS F) ?_);(refine jG (aa 14 8191) 12 F (gE F F) ?_);(refine jG (aa 14 16383) 13 F (aJ F F F) ?_);refine jQ ?_)
    repeat' (first | refine jR ?_ | (refine jo ?_;first | refine ah F ?_ | refine jF fun _=>?_ | refine bY F F F F F F F F F oM fun _ _=>?_ | refine jD F F F ?_) | refine ad F F ?_)
    rename_i w b2 c2
    (refine aj (am (id:=12) [.blk x (.cells [.slice (some ⟨b2,0,none⟩) (qs.length + 1) c2,.map (some m)].toArray tSc (0,0))] (by intro y hy;simp only [List.mem_cons,List.not_mem_nil,or_false] at hy ⊢;simp [hy]) ai ?_);refine jW 3 [0,1,2,4,5,6,8] (aa 10 375) ?_;(refine jG (aa 10 383) 3 F (aq F F F) ?_);(refine jG (aa 10 511) 7 F (aL F F aS F F) ?_);refine jA 9 F ?_;(refine acf F F F F ‹_› ?_);refine jS (aa 10 1023) ?_;refine jQ ?_)
    repeat' (refine jR ?_)
    have e1 : gB qs ++ [(ty.name,Pt b 0)] = gB (qs ++ [(b,ty)]):=by simp [gB]
    have e2 : aE tB qs ++ [Pt b 0] = aE tB (qs ++ [(b,ty)]):=(co tB qs (b,ty)).symm
    have e3 : ao (qs ++ [(b,ty)]) = ao qs ++ [ty]:=by simp [ao]
    rw [e1,e2]
    refine aY (.slice (some ⟨b2,0,none⟩) (qs.length + 1) c2,qs ++ [(b,ty)],ls ++ [line],rest,G) ⟨?_,⟨by simp;omega,by dsimp only;omega⟩,?_,?_,hgk.trans hle⟩ (by dsimp only;omega) tU rfl (by dsimp only;simp only [List.length_append,List.length_cons,List.length_nil,Nat.zero_add];repeat (first | exact List.Sublist.refl _ | apply List.Sublist.cons_cons | apply List.Sublist.cons))
    ·dsimp only;rw [e3];exact hR.step hce hty
    ·intro a ha k hk
     dsimp only at ha ⊢
     rw [e3]
     have hlen:=fk qs
     have hal : a < qs.length + 1:=by simpa using ha
     rcases Nat.lt_or_ge a qs.length with h3 | h3
     ·rw [iV oM,iV oM];exact hna a h3 k hk
     ·have ea : a = qs.length:=oM
      have e4 : ae (ao qs ++ [ty]) a = ty:=by rw [aW (by simp;omega),List.getElem_append_right oM];simp
      rw [iV oM,e4]
      exact uQ hf k oM
    ·intro q hq
     dsimp only at hq ⊢
     rcases List.mem_append.1 hq with hq | hq
     ·exact (hti q hq).mono hle
     ·simp only [List.mem_singleton] at hq;subst hq;exact ⟨fv,ln,hsg,hfv⟩
 ·subst ht
  have hfin:=hR.fin hl (by rw [fk];exact h8)
  have hw : ∀ q ∈ qs,TyW q.2:=fun q hq=>(io hR.tyE).1 q.2 (show q.2 ∈ qs.map (fun y=>y.2) from List.mem_map_of_mem hq)
  refine Nx.sealS (v:=.slice au qs.length cu) fun G1 hl1 hsl=>?_
  refine Nx.sealC (b:=x) fun G2 hl2 hsx=>?_
  refine Nx.sealM (b:=m) fun G3 hl3 hmm=>?_
  have hS : ScI G3 x qs:=⟨⟨_,m,hsx.mono hl3,hsl.mono (hl2.trans hl3),hmm⟩,fun q hq=>(hti q hq).mono ((hl1.trans hl2).trans hl3)⟩
  have hgl : Gh.le G G3:=((hgk.trans hl1).trans hl2).trans hl3
  have hsx3:=hsx.mono hl3
  have hsl3:=hsl.mono (hl2.trans hl3)
  repeat' (first | refine jR ?_ | (refine jo ?_;first | refine jV (aL F F aS F F) ?_ | refine jV (av F) ?_) | refine ad F F ?_)
  refine aT (ι:=Nat) (fun k=>k ≤ qs.length ∧ ∀ j,j < k → ib (ao qs) (ae qs j).2) (fun k=>[(4,Pt x 0),(82,.slice au qs.length cu),(83,I qs.length),(84,I k)]) (fun k=>G3) (fun k=>[]) (fun k=>qs.length - k) 0 ?_ tU F aZ (fun k Hk=>?_)
  ·exact ⟨Nat.zero_le _,fun j hj=>absurd hj oM⟩
  by_cases hk : k < qs.length
  case neg =>
   have hko : ∀ q ∈ qs,ib (ao qs) q.2:=fun q hq=>by
    obtain ⟨j,hj,rfl⟩:=m6 hq
    exact Hk.2 j oM
   repeat' (first | refine jR ?_ | (refine jo ?_;first | refine jV (aL F F aS F F) ?_ | refine jV (av F) ?_) | refine ad F (aC oM) ?_)
   refine aT (ι:=Nat) (fun k=>k ≤ qs.length ∧ ∀ j,j < k → bV (ao qs) 9 (ae qs j).2 = true) (fun k=>[(4,Pt x 0),(114,.slice au qs.length cu),(115,I qs.length),(116,I k)]) (fun k=>G3) (fun k=>[]) (fun k=>qs.length - k) 0 ?_ tU F aZ (fun k Hk=>?_)
   ·exact ⟨Nat.zero_le _,fun j hj=>absurd hj oM⟩
   have hends : ∀ j,j < qs.length → bV (ao qs) 9 (ae qs j).2 = bV (ao qs) ((ao qs).length + 1) (ae (ao qs) j):=fun j hj=>by
    rw [kP hj]
    exact y5 (by rw [fk];exact h8) (show (ae qs j).2 ∈ qs.map (fun y=>y.2) from List.mem_map_of_mem (bP hj))
   by_cases hk2 : k < qs.length
   case neg =>
    have hv : iC (ao qs):=by
     refine ⟨fun j hj=>?_,fun j hj=>?_⟩
     ·rw [fk] at hj
      exact ⟨hna j hj,by rw [kP hj];exact hko _ (bP hj)⟩
     ·rw [fk] at hj
      rw [← hends j hj];exact Hk.2 j oM
    repeat' (first | refine jR ?_ | refine ad F (aC oM) ?_)
    all_goals refine jZ (vs:=[_,_]) F ⟨F,F,trivial⟩ F ⟨hgl,F,?_⟩
    all_goals exact .inr ⟨x,qs,F,by rw [hfin,if_pos hv],hS⟩
   obtain ⟨ba,oa,ca,ea,hsa⟩:=hsl3.expl oM
   simp only [Value.slice.injEq] at ea
   obtain ⟨rfl,-,rfl⟩:=ea
   rcases hq : ae qs k with ⟨p,ty⟩
   have hqm : (p,ty) ∈ qs:=by rw [← hq];exact bP hk2
   have cx_en2:=zv hS hw hko hqm
   have hek:=hends k hk2
   rw [hq] at hek
   dsimp only at hek
   by_cases he : bV (ao qs) 9 ty = true
   ·have he2 : (!bV (ao qs) 9 ty) = false:=by rw [he];rfl
    repeat' (first | refine jM ?_ | (refine jo ?_;first | (refine jV (fQ F F aS ?_ aS F) ?_;focus omega) | refine jV (aA F F oM) ?_ | refine ab F F F cx_en2 F ?_) | refine ac F (ay oM) ?_ | refine ad F ‹_› ?_)
    refine aY (k + 1) ⟨oM,fun j hj=>?_⟩ oM tU F aZ
    rcases Nat.lt_or_ge j k with h3 | h3
    ·exact Hk.2 j h3
    ·have : j = k:=oM
     subst this;rw [hq];exact he
   ·have he2 : (!bV (ao qs) 9 ty) = true:=by simpa using he
    have hno : aQ s = none:=by
     rw [hfin,if_neg]
     intro hv
     have:=hv.2 k (by rw [fk];exact hk2)
     rw [← hek] at this
     exact he this
    repeat' (first | refine jR ?_ | (refine jo ?_;first | (refine jV (fQ F F aS ?_ aS F) ?_;focus omega) | refine jV (aA F F oM) ?_ | refine ab F F F cx_en2 F ?_) | (refine ac F (by first | assumption | (refine decide_eq_true ?_;(omega))) ?_))
    all_goals refine jZ (vs:=[_,_]) F ⟨F,F,trivial⟩ F ⟨hgl,F,?_⟩
    all_goals exact .inl ⟨hno,_,F⟩
  obtain ⟨ba,oa,ca,ea,hsa⟩:=hsl3.expl oM
  simp only [Value.slice.injEq] at ea
  obtain ⟨rfl,-,rfl⟩:=ea
  rcases hq : ae qs k with ⟨p,ty⟩
  have hqm : (p,ty) ∈ qs:=by rw [← hq];exact bP hk
  obtain ⟨fv,ln,hsg,hfv⟩:=hS.ty _ hqm
  dsimp only at hsg hfv
  have hW:=hw _ hqm
  dsimp only at hW
  have h88:=hW.len
  repeat' (first | refine jR ?_ | (refine jo ?_;first | refine jV (aL F F aS F F) ?_ | (refine jV (fQ F F aS ?_ aS F) ?_;focus omega) | refine jV (d2 F aS) ?_ | refine jV (aA F F oM) ?_) | refine ac F (ay oM) ?_)
  refine aT (ι:=Nat) (fun l=>l ≤ ty.fields.length ∧ (ty.sort = 69 ∨ ∀ j,j < l → en (ao qs) (ae ty.fields j).kind = true)) (fun l=>[(4,Pt x 0),(11,Pt p 0),(82,.slice (some ⟨ba,oa,none⟩) qs.length cu),(83,I qs.length),(84,I k),(91,fv),(92,I ty.fields.length),(93,I l)]) (fun l=>G3) (fun l=>[]) (fun l=>ty.fields.length - l) 0 ?_ tU F aZ (fun l Hl=>?_)
  ·exact ⟨Nat.zero_le _,.inr fun j hj=>absurd hj oM⟩
  by_cases hl2 : l < ty.fields.length
  case neg =>
   repeat' (first | refine jM ?_ | refine ad F (aC oM) ?_)
   refine aY (k + 1) ⟨oM,fun j hj=>?_⟩ oM tU F aZ
   rcases Nat.lt_or_ge j k with h3 | h3
   ·exact Hk.2 j h3
   ·have : j = k:=oM
    subst this
    rw [hq]
    rcases Hl.2 with h5 | h5
    ·exact .inl h5
    ·exact .inr fun j2 hj2=>h5 j2 (by dsimp only at hj2;omega)
  obtain ⟨bf,of,cf,rfl,hsf⟩:=hfv.expl oM
  by_cases h69 : ty.sort = 69
  ·repeat' (first | refine jM ?_ | (refine jo ?_;first | (refine jV (cM F F aS ?_) ?_;focus omega) | refine jV (aL F F aS F F) ?_ | refine ar F ?_ | refine jC F F F ?_ | refine jV (aA F F oM) ?_ | refine jL fun _=>?_) | refine ak F F (aC oM) ?_ | refine ac F (ay oM) ?_ | refine ad F F ?_)
   refine aY (l + 1) ⟨oM,.inl h69⟩ oM tU F (by repeat (exact List.nil_sublist _))
  have hko1:=(hW.fld _ (bP hl2)).kind h69
  have cx_has:=u4 hS hko1
  by_cases hh : en (ao qs) (ae ty.fields l).kind = true
  ·have hh2 : (!en (ao qs) (ae ty.fields l).kind) = false:=by rw [hh];rfl
   repeat' (first | refine jM ?_ | (refine jo ?_;first | (refine jV (cM F F aS ?_) ?_;focus omega) | refine aB F ?_ | refine jV (aL F F aS F F) ?_ | refine aG F ?_ | refine jC F F F ?_ | refine jV (aA F F oM) ?_ | refine jL fun _=>?_ | refine ab F F F cx_has F ?_) | refine ax F F (ay oM) ?_ | refine ac F (ay oM) ?_ | refine ad F ‹_› ?_)
   refine aY (l + 1) ⟨oM,.inr fun j hj=>?_⟩ oM tU F (by repeat (exact List.nil_sublist _))
   rcases Nat.lt_or_ge j l with h3 | h3
   ·rcases Hl.2 with h5 | h5
    ·exact absurd h5 h69
    ·exact h5 j h3
   ·have : j = l:=oM
    subst this;exact hh
  ·have hh2 : (!en (ao qs) (ae ty.fields l).kind) = true:=by simpa using hh
   have hno : aQ s = none:=by
    rw [hfin,if_neg]
    intro hv
    have h5:=(hv.1 k (by rw [fk];exact hk)).2
    rw [kP hk,hq] at h5
    rcases h5 with h6 | h6
    ·exact h69 h6
    ·exact hh (h6 l hl2)
   repeat' (first | refine jR ?_ | (refine jo ?_;first | (refine jV (cM F F aS ?_) ?_;focus omega) | refine aB F ?_ | refine jV (aL F F aS F F) ?_ | refine aG F ?_ | refine jC F F F ?_ | refine jV (aA F F oM) ?_ | refine jL fun _=>?_ | refine ab F F F cx_has F ?_) | refine ax F F (ay oM) ?_ | (refine ac F (by first | assumption | (refine decide_eq_true ?_;(omega))) ?_))
   all_goals refine jZ (vs:=[_,_]) F ⟨F,F,trivial⟩ F ⟨hgl,F,?_⟩
   all_goals exact .inl ⟨hno,_,F⟩
theorem te {s : ac8} (h : s.length ≤ 10000000) : an ac7 65 [S s] G (· = Bo (aQ s).isSome):=by
 cases hs : aQ s with
 | none =>
  have cx_rs0 : ∀ G,bn ac7 87 [S s] G (fun v _=>∃ p,v = Tu [p,Bo false]):=fun G=>by
   refine (gJ (G:=G) h).mono ?_
   rintro v G' L' ⟨h1,h2,⟨_,p,rfl⟩ | ⟨_,_,_,h4,_⟩⟩
   ·exact ⟨h1,h2,p,F⟩
   ·rw [hs] at h4;cases h4
  refine jB (Post:=fun v G' L'=>G' = G ∧ L' = [] ∧ _) [(0,_)] Tryz.func65 Tryz.ntmps65 fun B hok hB hW=>?_
  repeat' (first | refine jR ?_ | (refine jo ?_;(refine aK F F F (cx_rs0 _) F ?_;rintro _ G hle ⟨p,rfl⟩;skip)))
  refine Nx.base hok hB ?_
  refine jY (vs:=[_]) ?_
  rfl
 | some ts =>
  have cx_rs1 : ∀ G,bn ac7 87 [S s] G (fun v G'=>∃ b qs,v = Tu [Pt b 0,Bo true] ∧ ao qs = ts ∧ ScI G' b qs):=fun G=>by
   refine (gJ (G:=G) h).mono ?_
   rintro v G' L' ⟨h1,h2,⟨h4,_⟩ | ⟨b,qs,rfl,h4,h5⟩⟩
   ·rw [hs] at h4;cases h4
   ·rw [hs] at h4;simp only [Option.some.injEq] at h4;exact ⟨h1,h2,b,qs,F,h4.symm,h5⟩
  refine jB (Post:=fun v G' L'=>G' = G ∧ L' = [] ∧ _) [(0,_)] Tryz.func65 Tryz.ntmps65 fun B hok hB hW=>?_
  repeat' (first | refine jR ?_ | (refine jo ?_;(refine aK F F F (cx_rs1 _) F ?_;rintro _ G hle ⟨b,qs,rfl,hqs,hS⟩;skip)))
  refine Nx.base hok hB ?_
  refine jY (vs:=[_]) ?_
  rfl
def xC (s k : ac8) (v : Value) (G : Gh) : Prop:=(bQ s k = false ∧ ∃ p a b c,v = Tu [p,Ag [S a,S b,S c],Bo false]) ∨ ∃ b qs,v = Tu [Pt b 0,Ag (ew k),Bo true] ∧ aQ s = some (ao qs) ∧ aO (ao qs) k = true ∧ ScI G b qs
theorem jw {s k : ac8} (h : s.length ≤ 10000000) (hk : k.length ≤ 2000000) : bn ac7 52 [S s,S k] G (xC s k):=by
 cases hs : aQ s with
 | none =>
  have hno : bQ s k = false:=by unfold bQ;rw [hs]
  have cx_rs0 : ∀ G,bn ac7 87 [S s] G (fun v _=>∃ p,v = Tu [p,Bo false]):=fun G=>by
   refine (gJ (G:=G) h).mono ?_
   rintro v G' L' ⟨h1,h2,⟨_,p,rfl⟩ | ⟨_,_,_,h4,_⟩⟩
   ·exact ⟨h1,h2,p,F⟩
   ·rw [hs] at h4;cases h4
  refine jB [(0,_),(1,_)] Tryz.func52 Tryz.ntmps52 fun B hok hB hW=>?_
  repeat' (first | refine jR ?_ | (refine jo ?_;first | refine jL fun _=>?_ | refine jV (al F F) ?_ | refine jC F F F ?_ | (refine aK F F F (cx_rs0 _) F ?_;rintro _ G hle ⟨p,rfl⟩;skip)) | refine ac F F ?_)
  all_goals refine jZ (vs:=[_,_,_]) F ⟨F,aF F F F F,F,trivial⟩ F ⟨hle,F,?_⟩
  all_goals exact .inl ⟨hno,_,[],[],[],F⟩
 | some ts =>
  have cx_rs1 : ∀ G,bn ac7 87 [S s] G (fun v G'=>∃ b qs,v = Tu [Pt b 0,Bo true] ∧ ao qs = ts ∧ ScI G' b qs):=fun G=>by
   refine (gJ (G:=G) h).mono ?_
   rintro v G' L' ⟨h1,h2,⟨h4,_⟩ | ⟨b,qs,rfl,h4,h5⟩⟩
   ·rw [hs] at h4;cases h4
   ·rw [hs] at h4;simp only [Option.some.injEq] at h4;exact ⟨h1,h2,b,qs,F,h4.symm,h5⟩
  by_cases hko : bB k = true
  case neg =>
   have hkc2 : bB k = false:=by simpa using hko
   have hno : bQ s k = false:=by unfold bQ aO;rw [hs];simp [hkc2]
   have cx_kn : ∀ G,an ac7 88 [S k] G (fun v=>∃ x y z,v = Tu [Ag [S x,S y,S z],Bo false]):=fun G=>by
    refine (lJ (G:=G) (s:=k) oM).mono ?_
    rintro v G' L' ⟨h1,h2,x,y,z,rfl,_⟩
    exact ⟨h1,h2,x,y,z,by rw [hkc2]⟩
   refine jB [(0,_),(1,_)] Tryz.func52 Tryz.ntmps52 fun B hok hB hW=>?_
   repeat' (first | refine jR ?_ | (refine jo ?_;first | refine jL fun _=>?_ | refine jC F F F ?_ | (refine aK F F F (cx_rs1 _) F ?_;rintro _ G hle ⟨b,qs,rfl,hqs,hS⟩;skip) | (refine cN F F F (cx_kn _) F ?_;rintro _ ⟨x,y,z,rfl⟩)) | refine ad F F ?_ | (refine aj (dY (id:=5) (tt:=5) F ai ?_);refine jW 8 [0,2,3] (aa 11 13) ?_;(try (refine Nx.re (d:=26) (v':=Bo false) F (congrArg Value.bool F) ?_));refine jW 7 [4] (aa 11 29) ?_;(refine jG (aa 11 31) 1 F (bD F F F F) ?_);(refine jN (aa 11 63) 5 F ?_);(refine jN (aa 11 127) 6 F ?_);refine jW 3 [8] (aa 11 383) ?_;((refine jG (aa 11 511) 7 F (aJ F F ?_) ?_;(focus ((rfl);done))));refine jA 9 F ?_;(refine jC F F F ?_);refine jK (aa 11 1023) ?_;refine jW 0 [10] (aa 11 2047) ?_;refine jQ ?_))
   all_goals refine jZ (vs:=[_,_,_]) F ⟨F,aF F F F F,F,trivial⟩ F ⟨hle,F,?_⟩
   all_goals exact .inl ⟨hno,_,_,_,_,F⟩
  have cx_kq : ∀ G,an ac7 88 [S k] G (· = Tu [Ag [S (sg k),S (bs k),S (nm k)],Bo true]):=fun G=>ud oM hko
  have hkk : ew k = [S (sg k),S (bs k),S (nm k)]:=rfl
  by_cases hH : en ts k = true
  case pos =>
   have cx_hy : ∀ G b qs,ao qs = ts → ScI G b qs → an ac7 89 [Pt b 0,Ag [S (sg k),S (bs k),S (nm k)]] G (· = Bo true):=by
    intro G b qs hq hS
    refine (u4 hS hko).mono ?_
    rintro v G' L' ⟨h1,h2,rfl⟩
    exact ⟨h1,h2,by rw [hq,hH]⟩
   refine jB [(0,_),(1,_)] Tryz.func52 Tryz.ntmps52 fun B hok hB hW=>?_
   repeat' (first | refine jR ?_ | (refine jo ?_;first | refine jL fun _=>?_ | refine jC F F F ?_ | (refine aK F F F (cx_rs1 _) F ?_;rintro _ G hle ⟨b,qs,rfl,hqs,hS⟩;skip) | refine ab F F F (cx_kq _) F ?_) | refine ad F F ?_ | (refine aj (dY (id:=5) (tt:=5) F ai ?_);refine jW 8 [0,2,3] (aa 11 13) ?_;(try (refine Nx.re (d:=26) (v':=Bo true) F (congrArg Value.bool F) ?_));refine jW 7 [4] (aa 11 29) ?_;(refine jG (aa 11 31) 1 F (bD F F F F) ?_);(refine jG (aa 11 63) 5 F (bD F F F F) ?_);((refine jA 6 F ?_;((refine ab F F F ((cx_hy _ _ _) (by (repeat (assumption));done) (by (repeat (assumption));done)) rfl ?_));refine jK (aa 11 127) ?_));refine jW 3 [8] (aa 11 383) ?_;((refine jG (aa 11 511) 7 F (a6 F F ?_) ?_;(focus ((rfl);done))));refine jA 9 F ?_;(refine jC F F F ?_);refine jK (aa 11 1023) ?_;refine jW 0 [10] (aa 11 2047) ?_;refine jQ ?_))
   all_goals refine jZ (vs:=[_,_,_]) F ⟨F,aF F F F F,F,trivial⟩ F ⟨hle,F,?_⟩
   all_goals exact .inr ⟨b,qs,F,by rw [hs,hqs],by simp [aO,hqs,hko,hH],hS⟩
  case neg =>
   have hH2 : en ts k = false:=by simpa using hH
   have hno : bQ s k = false:=by unfold bQ aO;rw [hs];simp [hH2]
   have cx_hn : ∀ G b qs,ao qs = ts → ScI G b qs → an ac7 89 [Pt b 0,Ag [S (sg k),S (bs k),S (nm k)]] G (· = Bo false):=by
    intro G b qs hq hS
    refine (u4 hS hko).mono ?_
    rintro v G' L' ⟨h1,h2,rfl⟩
    exact ⟨h1,h2,by rw [hq,hH2]⟩
   refine jB [(0,_),(1,_)] Tryz.func52 Tryz.ntmps52 fun B hok hB hW=>?_
   repeat' (first | refine jR ?_ | (refine jo ?_;first | refine jL fun _=>?_ | refine jC F F F ?_ | (refine aK F F F (cx_rs1 _) F ?_;rintro _ G hle ⟨b,qs,rfl,hqs,hS⟩;skip) | refine ab F F F (cx_kq _) F ?_) | refine ad F F ?_ | (refine aj (dY (id:=5) (tt:=5) F ai ?_);refine jW 8 [0,2,3] (aa 11 13) ?_;(try (refine Nx.re (d:=26) (v':=Bo true) F (congrArg Value.bool F) ?_));refine jW 7 [4] (aa 11 29) ?_;(refine jG (aa 11 31) 1 F (bD F F F F) ?_);(refine jG (aa 11 63) 5 F (bD F F F F) ?_);((refine jA 6 F ?_;((refine ab F F F ((cx_hn _ _ _) (by (repeat (assumption));done) (by (repeat (assumption));done)) rfl ?_));refine jK (aa 11 127) ?_));refine jW 3 [8] (aa 11 383) ?_;((refine jG (aa 11 511) 7 F (a6 F F ?_) ?_;(focus ((rfl);done))));refine jA 9 F ?_;(refine jC F F F ?_);refine jK (aa 11 1023) ?_;refine jW 0 [10] (aa 11 2047) ?_;refine jQ ?_))
   all_goals refine jZ (vs:=[_,_,_]) F ⟨F,aF F F F F,F,trivial⟩ F ⟨hle,F,?_⟩
   all_goals exact .inl ⟨hno,_,_,_,_,F⟩
theorem ir {t : Ty} : fP t = (ae t.fields 0).kind:=by
 unfold fP ae
 cases t.fields with
 | nil=>rfl
 | cons f r=>rfl
theorem i8 {t : Ty} : tag0 t = (ae t.fields 0).tag:=by
 unfold tag0 ae
 cases t.fields with
 | nil=>rfl
 | cons f r=>rfl
theorem mE {n : Int} (h : 0 ≤ n ∧ n ≤ 9223372036854775807) : (bz n).length ≤ 19:=gi h.2
theorem s6 (k : ac8) : (fK k).length ≤ 2:=by
 unfold fK
 split
 ·simp
 ·split
  ·simp
  ·split <;> simp
theorem SchW.tag0 {ts : List Ty} (h : SchW ts) {t : Ty} (ht : t ∈ ts) : 0 ≤ Go.E.tag0 t ∧ Go.E.tag0 t ≤ 200:=by
 rw [i8]
 by_cases h0 : 0 < t.fields.length
 ·have:=((h.ty t ht).fld _ (bP h0)).tag;omega
 ·have : t.fields = []:=List.eq_nil_of_length_eq_zero oM
  rw [this];exact ⟨Int.le_refl _,by decide⟩
theorem k4 {ts : List Ty} (h : SchW ts) : ∀ (n : Nat) (k : ac8),(cE ts n k).length ≤ 30 * n
 | 0,k=>by simp [cE]
 | n + 1,[]=>by simp [cE]
 | n + 1,c :: r=>by
  unfold cE
  split
  ·simp;omega
  ·split
   ·simp;omega
   ·split
    ·have:=s6 (c :: r);omega
    ·rename_i t ht
     have h1:=h.tag0 (cj ht)
     have h2:=mE (n:=tag0 t) oM
     have h3:=k4 h n (fP t)
     split
     ·simp;omega
     ·split
      ·simp;omega
      ·simp;omega
theorem dT {ts : List Ty} (h : SchW ts) {t : Ty} (ht : t ∈ ts) (hs : t.sort ≠ 69) {f : Fld} (hf : f ∈ t.fields) : aO ts f.kind = true:=by
 unfold aO
 rw [((h.ty t ht).fld f hf).kind hs,Bool.true_and]
 obtain ⟨i,hi,rfl⟩:=List.mem_iff_getElem.1 ht
 obtain ⟨j,hj,rfl⟩:=List.mem_iff_getElem.1 hf
 have h1:=(h.valid.1 i hi).2
 rw [aW hi] at h1
 rcases h1 with h1 | h1
 ·exact absurd h1 hs
 ·have:=h1 j hj
  rwa [aW hj] at this
theorem db {ts : List Ty} {k : ac8} (h : aO ts k = true) : bB k = true:=by
 unfold aO at h;simp only [Bool.and_eq_true] at h;exact h.1
theorem fH {c : UInt8} {r : ac8} (h : ¬ (c.toNat = 91 ∨ c.toNat = 63)) : br (c :: r) = c :: r:=by rw [br,if_neg h]
theorem pW {ts : List Ty} (h : SchW ts) {k : ac8} (t : Ty) (ht : a7 ts k = some t) : bV ts (ts.length + 1) t = true:=by
 obtain ⟨i,hi,rfl⟩:=List.mem_iff_getElem.1 (cj ht)
 have:=h.valid.2 i hi
 rwa [aW hi] at this
theorem v6 {u : Value} {vs : List bS} (h : SchR G u vs) (hw : SchW (ag vs)) : ∀ (n : Nat) {k : ac8},n ≤ 1000 → aO (ag vs) k = true → (∀ t,a7 (ag vs) k = some t → bV (ag vs) n t = true) →
  an ac7 174 [u,S k] G (· = S (cE (ag vs) (n + 1) k)):=by
 have hvl : vs.length ≤ 1000000:=by have:=hw.len;rw [pD] at this;omega
 intro n
 induction n with
 | zero =>
  intro k hn hk he
  have hko:=db hk
  have hkk:=cT hko
  match k,hkk with
  | c :: r,hkk =>
   have e0:=lR c r
   by_cases h1 : c.toNat = 91
   ·refine jE [(0,_),(1,_)] Tryz.func174 Tryz.ntmps174 fun B hB=>?_
    repeat' (first | refine jX ?_ | (refine ac F ?_ ?_;(focus ((simp [*];done);done))))
    all_goals refine jY (vs:=[_]) ?_
    all_goals (rw [aw];unfold cE;rw [if_pos h1])
   by_cases h2 : c.toNat = 63
   ·refine jE [(0,_),(1,_)] Tryz.func174 Tryz.ntmps174 fun B hB=>?_
    repeat' (first | refine jX ?_ | (refine ac F ?_ ?_;(focus ((simp [*];done);done))) | (refine ad F ?_ ?_;(focus ((simp [*];done);done))))
    all_goals refine jY (vs:=[_]) ?_
    all_goals (rw [aw];unfold cE;rw [if_neg h1,if_pos h2])
   have href:=dS vs (c :: r)
   have cx_rf:=gI (k:=c :: r) h hvl hkk.1 oM
   cases hr : dX vs (c :: r) with
   | some x=>rw [hr] at href;have:=he _ href.symm;cases this
   | none =>
    rw [hr] at href cx_rf
    refine jE [(0,_),(1,_)] Tryz.func174 Tryz.ntmps174 fun B hB=>?_
    repeat' (first | refine jX ?_ | (refine jo ?_;first | refine jL fun _=>?_ | refine jC F F F ?_ | refine ab F F F cx_rf F ?_ | refine ab F F F qT F ?_) | refine ac F F ?_ | (refine ad F ?_ ?_;(focus ((simp;omega);done))))
    all_goals refine jY (vs:=[_]) ?_
    all_goals (rw [aw];unfold cE;rw [if_neg h1,if_neg h2,← href];rfl)
 | succ n ih =>
  intro k hn hk he
  have hko:=db hk
  have hkk:=cT hko
  match k,hkk with
  | c :: r,hkk =>
   have e0:=lR c r
   by_cases h1 : c.toNat = 91
   ·refine jE [(0,_),(1,_)] Tryz.func174 Tryz.ntmps174 fun B hB=>?_
    repeat' (first | refine jX ?_ | (refine ac F ?_ ?_;(focus ((simp [*];done);done))))
    all_goals refine jY (vs:=[_]) ?_
    all_goals (rw [aw];unfold cE;rw [if_pos h1])
   by_cases h2 : c.toNat = 63
   ·refine jE [(0,_),(1,_)] Tryz.func174 Tryz.ntmps174 fun B hB=>?_
    repeat' (first | refine jX ?_ | (refine ac F ?_ ?_;(focus ((simp [*];done);done))) | (refine ad F ?_ ?_;(focus ((simp [*];done);done))))
    all_goals refine jY (vs:=[_]) ?_
    all_goals (rw [aw];unfold cE;rw [if_neg h1,if_pos h2])
   have href:=dS vs (c :: r)
   have cx_rf:=gI (k:=c :: r) h hvl hkk.1 oM
   rcases hr : dX vs (c :: r) with _ | ⟨⟨a,ca⟩,t⟩
   ·rw [hr] at href cx_rf
    refine jE [(0,_),(1,_)] Tryz.func174 Tryz.ntmps174 fun B hB=>?_
    repeat' (first | refine jX ?_ | (refine jo ?_;first | refine jL fun _=>?_ | refine jC F F F ?_ | refine ab F F F cx_rf F ?_ | refine ab F F F qT F ?_) | refine ac F F ?_ | (refine ad F ?_ ?_;(focus ((simp;omega);done))))
    all_goals refine jY (vs:=[_]) ?_
    all_goals (rw [aw];unfold cE;rw [if_neg h1,if_neg h2,← href];rfl)
   rw [hr] at href cx_rf
   have hrf : a7 (ag vs) (c :: r) = some t:=href.symm
   have htm:=cj hrf
   have hW:=hw.ty t htm
   have htg:=hw.tag0 htm
   rw [i8] at htg
   have e3 : cE (ag vs) (n + 1 + 1) (c :: r) = if t.sort = 82 then [123,125] else if t.sort = 69 then 35 :: bz (tag0 t) else 60 :: (bz (tag0 t) ++ 61 :: (cE (ag vs) (n + 1) (fP t) ++ [62])):=by
    rw [cE,if_neg h1,if_neg h2,hrf]
   rw [e3,i8,ir]
   clear e3
   by_cases s1 : t.sort = 82
   ·rw [if_pos s1]
    refine jE [(0,_),(1,_)] Tryz.func174 Tryz.ntmps174 fun B hB=>?_
    repeat' (first | refine jX ?_ | (refine jo ?_;first | refine jL fun _=>?_ | refine jC F F F ?_ | refine ah F ?_ | refine ab F F F cx_rf F ?_) | (refine ac F ?_ ?_;(focus ((simp [*];done);done))) | (refine ad F ?_ ?_;(focus ((first | rfl | (simp;omega));done))))
    all_goals refine jY (vs:=[_]) ?_
    all_goals rfl
   have h0 : 0 < t.fields.length:=List.length_pos_iff.2 (hW.ne s1)
   obtain ⟨bf,of,cf,ef,hsf⟩:=(h.fl _ (eF hr)).expl h0
   simp only [gn,Value.slice.injEq] at ef
   obtain ⟨rfl,-,rfl⟩:=ef
   dsimp only at hsf
   have cx_rf : an ac7 141 [u,S (c :: r)] G (· = Tu [Ag [U8 t.sort,S t.name,.slice (some ⟨bf,of,none⟩) t.fields.length ca],Bo true]):=cx_rf
   have hdl:=mE (n:=(ae t.fields 0).tag) oM
   rw [if_neg s1]
   by_cases s2 : t.sort = 69
   ·rw [if_pos s2]
    refine jE [(0,_),(1,_)] Tryz.func174 Tryz.ntmps174 fun B hB=>?_
    repeat' (first | refine jX ?_ | (refine jo ?_;first | refine jL fun _=>?_ | refine jC F F F ?_ | refine ah F ?_ | (refine jV (bO F F aS ?_ F F) ?_;focus omega) | refine jV (aA F F oM) ?_ | refine ab F F F cx_rf F ?_ | (refine ab F F F (eS ?_) F ?_;(focus ((simp;omega);done)))) | refine ac F (ay oM) ?_ | (refine ad F ?_ ?_;(focus ((first | rfl | (refine decide_eq_false ?_;(omega)) | (simp;omega));done))))
    all_goals refine jY (vs:=[_]) ?_
    all_goals rfl
   have hin:=dT hw htm s2 (bP h0)
   have hen : ∀ t',a7 (ag vs) (ae t.fields 0).kind = some t' → bV (ag vs) n t' = true:=by
    intro t' ht'
    have:=he t hrf
    have s3 : t.sort = 85:=by rcases hW.sort with h | h | h <;> omega
    rw [bV,if_neg (by simp [s3]),ir,ht'] at this
    exact this
   have cx_std:=ih (k:=(ae t.fields 0).kind) oM hin hen
   have hsl:=k4 hw (n + 1) (ae t.fields 0).kind
   rw [if_neg s2]
   refine jE [(0,_),(1,_)] Tryz.func174 Tryz.ntmps174 fun B hB=>?_
   repeat' (first | refine jX ?_ | (refine jo ?_;first | refine jL fun _=>?_ | refine jC F F F ?_ | refine ah F ?_ | refine ab F F F cx_rf F ?_) | (refine ad F ?_ ?_;(focus ((first | rfl | (refine decide_eq_false ?_;(omega)) | (simp;omega));done))) | (refine aj (am (id:=13) _ (fun _ h=>h) ai ?_);refine jT 15 [0,8,9] (aa 18 769) ?_;(refine jG (aa 18 771) 1 F (aq F F F) ?_);(refine jG (aa 18 775) 2 F (aA F F oM) ?_);refine jT 12 [3] (aa 18 783) ?_;((refine jG (aa 18 799) 4 F (bO F F aS ?_ F F) ?_;focus omega));(refine jG (aa 18 1823) 10 F (aq F F F) ?_);(refine jG (aa 18 3871) 11 F (aA F F oM) ?_);refine jT 8 [12] (aa 18 7967) ?_;((refine jG (aa 18 16159) 13 F (bO F F aS ?_ F F) ?_;focus omega));refine jA 5 F ?_;((refine ab F F F (eS ?_) F ?_;(focus ((simp;omega);done))));refine jS (aa 18 16191) ?_;refine jW 4 [6,7] (aa 18 16383) ?_;refine jA 14 F ?_;(refine ab F F F cx_std F ?_);refine jS (aa 18 32767) ?_;refine jW 0 [15,16,17] (aa 18 262143) ?_;refine jQ ?_))
   all_goals refine jY (vs:=[_]) ?_
   all_goals (rw [aw];simp)
theorem v8 {u : Value} {vs : List bS} (h : SchR G u vs) (hw : SchW (ag vs)) {k : ac8} (hk : aO (ag vs) k = true) : an ac7 174 [u,S k] G (· = S (rn (ag vs) k)) :=
 v6 h hw ((ag vs).length + 1) (by have:=hw.len;omega) hk (fun t ht=>pW hw t ht)
theorem mX {c : UInt8} {r : ac8} (h : c.toNat = 91 ∨ c.toNat = 63) : sg (c :: r) = c :: sg r:=by
 unfold sg
 rw [br,if_pos h]
 have:=km r
 rw [List.length_cons,show r.length + 1 - (br r).length = (r.length - (br r).length) + 1 by omega]
 rfl
theorem mW {c : UInt8} {r : ac8} (h : ¬ (c.toNat = 91 ∨ c.toNat = 63)) : sg (c :: r) = []:=by
 unfold sg;rw [fH h];simp
theorem dD {b c : ac8} : an ac7 90 [Ag [S [],S b,S c]] G (· = U8 (0 : Nat)):=by
 refine jE [(0,_)] Tryz.func90 Tryz.ntmps90 fun B hB=>?_
 repeat' (first | refine jR ?_ | (refine jo ?_;first | refine jO fun _=>?_ | refine ah F ?_) | refine ac F F ?_)
 all_goals refine jY (vs:=[_]) ?_
 all_goals rfl
theorem i1 {x : UInt8} {a b c : ac8} : an ac7 90 [Ag [S (x :: a),S b,S c]] G (· = U8 (x.toNat : Nat)):=by
 have e0:=lR x a
 refine jE [(0,_)] Tryz.func90 Tryz.ntmps90 fun B hB=>?_
 repeat' (first | refine jX ?_ | (refine jo ?_;first | refine jO fun _=>?_ | refine ah F ?_) | refine ad F F ?_)
 all_goals refine jY (vs:=[_]) ?_
 all_goals (rw [aw];(rfl))
theorem oy {k : ac8} (hk : bB k = true) (hr : bJ (br k) = none) : bs k = [110] ∨ bs k = [116] ∨ bs k = [102]:=by
 have h:=lD (cT hk).1
 unfold bs
 cases hc : br k with
 | nil=>rw [hc] at h;cases h
 | cons c r =>
  rw [hc] at h hr
  have h64 : ¬ c.toNat = 64:=by
   intro h64
   simp [bJ,h64] at hr
  have h91 : ¬ (c.toNat = 91 ∨ c.toNat = 63):=mH hc
  have e : px (c :: r) = c :: r:=by simp [px,h64]
  rw [e]
  rw [d1,if_neg h91,if_neg h64] at h
  simp only [Bool.and_eq_true,Bool.or_eq_true,decide_eq_true_eq] at h
  obtain ⟨rfl,h⟩:=h
  have hu : ∀ n : Nat,c.toNat = n → n < 256 → c = UInt8.ofNat n:=fun n h1 h2=>by
   apply UInt8.toNat_inj.1;rw [h1,UInt8.toNat_ofNat'];omega
  rcases h with (h | h) | h
  ·exact .inl (by rw [hu _ h dC];rfl)
  ·exact .inr (.inl (by rw [hu _ h dC];rfl))
  ·exact .inr (.inr (by rw [hu _ h dC];rfl))
theorem ScI.W {b : Nat} {qs : List cF} (_ : ScI G b qs) (hw : SchW (ao qs)) {q : cF} (hq : q ∈ qs) : q.2 ∈ ao qs ∧ TyW q.2:=by
 have h1 : q.2 ∈ ao qs:=List.mem_map_of_mem hq
 exact ⟨h1,hw.ty _ h1⟩
theorem rz {k : ac8} (hs : sg k = []) (hk : bB k = true) (hr : bJ (br k) = none) : fK k = fK (bs k):=by
 match k,hk with
 | c :: r,hk =>
  have h91 : ¬ (c.toNat = 91 ∨ c.toNat = 63):=fun h=>by rw [mX h] at hs;cases hs
  have hc:=fH (r:=r) h91
  have h64 : ¬ c.toNat = 64:=fun h64=>by rw [hc] at hr;simp [bJ,h64] at hr
  unfold bs;rw [hc];simp [px,h64]
theorem v7 {b : Nat} {qs : List cF} (h : ScI G b qs) (hw : SchW (ao qs)) : ∀ (n : Nat) {k : ac8},n ≤ 1000 → aO (ao qs) k = true → (∀ t,a7 (ao qs) k = some t → bV (ao qs) n t = true) →
  an ac7 53 [Pt b 0,Ag [S (sg k),S (bs k),S (nm k)]] G (· = S (cE (ao qs) (n + 1) k)):=by
 obtain ⟨u,m,g1,g2,g3⟩:=h.at'
 intro n
 induction n with
 | zero =>
  intro k hn hk he
  have hko:=db hk
  match k,hko with
  | c :: r,hko =>
   by_cases h91 : c.toNat = 91 ∨ c.toNat = 63
   ·have cx_sign:=@i1 G c (sg r) (bs (c :: r)) (nm (c :: r))
    rw [mX h91]
    by_cases h1 : c.toNat = 91
    ·refine jE [(0,_),(1,_)] Tryz.func53 Tryz.ntmps53 fun B hB=>?_
     repeat' (first | refine jR ?_ | (refine jo ?_;first | refine jO fun _=>?_ | refine aB F ?_ | refine ab F F F cx_sign F ?_) | refine ac F (ay oM) ?_)
     all_goals refine jY (vs:=[_]) ?_
     all_goals (rw [aw];unfold cE;rw [if_pos h1])
    have h2 : c.toNat = 63:=oM
    refine jE [(0,_),(1,_)] Tryz.func53 Tryz.ntmps53 fun B hB=>?_
    repeat' (first | refine jR ?_ | (refine jo ?_;first | refine jO fun _=>?_ | refine aB F ?_ | refine ab F F F cx_sign F ?_) | refine ac F (ay oM) ?_ | refine ad F (aC oM) ?_)
    all_goals refine jY (vs:=[_]) ?_
    all_goals (rw [aw];unfold cE;rw [if_neg h1,if_pos h2])
   have hsg:=mW (r:=r) h91
   have hcs:=fH (r:=r) h91
   rw [hsg]
   cases hrf : a7 (ao qs) (c :: r) with
   | some t=>have:=he t hrf;cases this
   | none =>
    have hrn : bJ (br (c :: r)) = none:=by
     cases hx : bJ (br (c :: r)) with
     | none=>rfl
     | some x =>
      obtain ⟨t,ht⟩:=mr hk (by rw [hx];rfl)
      rw [hcs,hrf] at ht;cases ht
    have hpl:=rz hsg hko hrn
    have e3 : cE (ao qs) (0 + 1) (c :: r) = fK (bs (c :: r)):=by
     rw [cE,if_neg oM,if_neg oM,hrf];exact hpl
    rw [e3]
    rcases oy hko hrn with e | e | e
    all_goals
     rw [e]
     refine jE [(0,_),(1,_)] Tryz.func53 Tryz.ntmps53 fun B hB=>?_
     repeat' (first | refine jR ?_ | (refine jo ?_;first | refine jO fun _=>?_ | refine ah F ?_ | refine aB F ?_ | refine ab F F F dD F ?_) | refine ac F F ?_ | refine ad F F ?_)
     all_goals refine jY (vs:=[_]) ?_
     all_goals rfl
 | succ n ih =>
  intro k hn hk he
  have hko:=db hk
  match k,hko with
  | c :: r,hko =>
   by_cases h91 : c.toNat = 91 ∨ c.toNat = 63
   ·have cx_sign:=@i1 G c (sg r) (bs (c :: r)) (nm (c :: r))
    rw [mX h91]
    by_cases h1 : c.toNat = 91
    ·refine jE [(0,_),(1,_)] Tryz.func53 Tryz.ntmps53 fun B hB=>?_
     repeat' (first | refine jR ?_ | (refine jo ?_;first | refine jO fun _=>?_ | refine aB F ?_ | refine ab F F F cx_sign F ?_) | refine ac F (ay oM) ?_)
     all_goals refine jY (vs:=[_]) ?_
     all_goals (rw [aw];unfold cE;rw [if_pos h1])
    have h2 : c.toNat = 63:=oM
    refine jE [(0,_),(1,_)] Tryz.func53 Tryz.ntmps53 fun B hB=>?_
    repeat' (first | refine jR ?_ | (refine jo ?_;first | refine jO fun _=>?_ | refine aB F ?_ | refine ab F F F cx_sign F ?_) | refine ac F (ay oM) ?_ | refine ad F (aC oM) ?_)
    all_goals refine jY (vs:=[_]) ?_
    all_goals (rw [aw];unfold cE;rw [if_neg h1,if_pos h2])
   have hsg:=mW (r:=r) h91
   have hcs:=fH (r:=r) h91
   rw [hsg]
   cases hrf : a7 (ao qs) (c :: r) with
   | none =>
    have hrn : bJ (br (c :: r)) = none:=by
     cases hx : bJ (br (c :: r)) with
     | none=>rfl
     | some x =>
      obtain ⟨t,ht⟩:=mr hk (by rw [hx];rfl)
      rw [hcs,hrf] at ht;cases ht
    have hpl:=rz hsg hko hrn
    have e3 : cE (ao qs) (n + 1 + 1) (c :: r) = fK (bs (c :: r)):=by
     rw [cE,if_neg oM,if_neg oM,hrf];exact hpl
    rw [e3]
    rcases oy hko hrn with e | e | e
    all_goals
     rw [e]
     refine jE [(0,_),(1,_)] Tryz.func53 Tryz.ntmps53 fun B hB=>?_
     repeat' (first | refine jR ?_ | (refine jo ?_;first | refine jO fun _=>?_ | refine ah F ?_ | refine aB F ?_ | refine ab F F F dD F ?_) | refine ac F F ?_ | refine ad F F ?_)
     all_goals refine jY (vs:=[_]) ?_
     all_goals rfl
   | some t =>
    have hrn : (bJ (br (c :: r))).isSome = true:=by
     rw [hcs];unfold a7 at hrf
     cases hx : bJ (c :: r) with
     | none=>rw [hx] at hrf;cases hrf
     | some x=>rfl
    have hbs : bs (c :: r) = [64]:=(nh hko).2 hrn
    have hnm : bJ (c :: r) = some (nm (c :: r)):=by
     unfold nm;rw [hcs] at hrn ⊢
     cases hx : bJ (c :: r) with
     | none=>rw [hx] at hrn;cases hrn
     | some x=>rfl
    have hft : gF (ao qs) (nm (c :: r)) = some t:=by unfold a7 at hrf;rw [hnm] at hrf;exact hrf
    have hkv:=gW qs (nm (c :: r))
    rw [← g6] at hft
    rcases hfq : eO qs (nm (c :: r)) with _ | ⟨p,t'⟩
    ·rw [hfq] at hft;cases hft
    rw [hfq] at hft hkv
    dsimp only [Option.map_some] at hft hkv
    have htt : t' = t:=Option.some.inj hft
    subst htt
    have hqm:=iw hfq
    have htm:=cj hrf
    have hW:=hw.ty t' htm
    have htg:=hw.tag0 htm
    rw [i8] at htg
    obtain ⟨fv,ln,hsg2,hfv⟩:=h.ty _ hqm
    dsimp only at hsg2 hfv
    have e3 : cE (ao qs) (n + 1 + 1) (c :: r) = if t'.sort = 82 then [123,125] else if t'.sort = 69 then 35 :: bz (tag0 t') else 60 :: (bz (tag0 t') ++ 61 :: (cE (ao qs) (n + 1) (fP t') ++ [62])):=by
     rw [cE,if_neg oM,if_neg oM,hrf]
    rw [e3,i8,ir,hbs]
    clear e3 hcs hsg hrn hnm hbs
    by_cases s1 : t'.sort = 82
    ·rw [if_pos s1]
     refine jE [(0,_),(1,_)] Tryz.func53 Tryz.ntmps53 fun B hB=>?_
     repeat' (first | refine jR ?_ | (refine jo ?_;first | refine jO fun _=>?_ | refine ah F ?_ | refine aB F ?_ | refine jV (aL F F aS F F) ?_ | refine ab F F F dD F ?_) | refine ac F (ay oM) ?_ | refine ad F F ?_ | (refine aj (am (id:=13) _ (fun _ h=>h) ai ?_);refine jT 4 [0,1,2,4] (aa 8 23) ?_;(refine jG (aa 8 31) 3 F (aL F F aS F F) ?_);(refine jG (aa 8 63) 5 F (aq F F F) ?_);((refine jG (aa 8 127) 6 F (cG F F (eN aS) aS F) ?_));refine jT 0 [7] (aa 8 255) ?_;refine jQ ?_))
     all_goals refine jY (vs:=[_]) ?_
     all_goals rfl
    have h0 : 0 < t'.fields.length:=List.length_pos_iff.2 (hW.ne s1)
    obtain ⟨bf,of,cf,rfl,hsf⟩:=hfv.expl h0
    have hdl:=mE (n:=(ae t'.fields 0).tag) oM
    rw [if_neg s1]
    by_cases s2 : t'.sort = 69
    ·rw [if_pos s2]
     refine jE [(0,_),(1,_)] Tryz.func53 Tryz.ntmps53 fun B hB=>?_
     repeat' (first | refine jX ?_ | (refine jo ?_;first | refine jO fun _=>?_ | refine ah F ?_ | (refine jV (bO F F aS ?_ F F) ?_;focus omega) | refine aB F ?_ | refine jV (aL F F aS F F) ?_ | refine jV (aA F F oM) ?_ | refine ab F F F dD F ?_ | (refine ab F F F (fV ?_) F ?_;(focus ((simp;omega);done)))) | refine ac F (ay oM) ?_ | (refine ad F (by first | rfl | (refine decide_eq_false ?_;(omega))) ?_) | (refine aj (am (id:=13) _ (fun _ h=>h) ai ?_);refine jT 4 [0,1,2,4] (aa 8 23) ?_;(refine jG (aa 8 31) 3 F (aL F F aS F F) ?_);(refine jG (aa 8 63) 5 F (aq F F F) ?_);((refine jG (aa 8 127) 6 F (cG F F (eN aS) aS F) ?_));refine jT 0 [7] (aa 8 255) ?_;refine jQ ?_))
     all_goals refine jY (vs:=[_]) ?_
     all_goals rfl
    have hin:=dT hw htm s2 (bP h0)
    have hen : ∀ t2,a7 (ao qs) (ae t'.fields 0).kind = some t2 → bV (ao qs) n t2 = true:=by
     intro t2 ht2
     have:=he t' hrf
     have s3 : t'.sort = 85:=by rcases hW.sort with h | h | h <;> omega
     rw [bV,if_neg (by simp [s3]),ir,ht2] at this
     exact this
    have cx_std:=ih (k:=(ae t'.fields 0).kind) oM hin hen
    have hsl:=k4 hw (n + 1) (ae t'.fields 0).kind
    rw [if_neg s2]
    refine jE [(0,_),(1,_)] Tryz.func53 Tryz.ntmps53 fun B hB=>?_
    repeat' (first | refine jR ?_ | (refine jo ?_;first | refine jO fun _=>?_ | refine ah F ?_ | refine aB F ?_ | refine jV (aL F F aS F F) ?_ | refine ab F F F dD F ?_) | (refine ad F (by first | rfl | (refine decide_eq_false ?_;(omega))) ?_) | (refine aj (am (id:=13) _ (fun _ h=>h) ai ?_);refine jT 4 [0,1,2,4] (aa 8 23) ?_;(refine jG (aa 8 31) 3 F (aL F F aS F F) ?_);(refine jG (aa 8 63) 5 F (aq F F F) ?_);((refine jG (aa 8 127) 6 F (cG F F (eN aS) aS F) ?_));refine jT 0 [7] (aa 8 255) ?_;refine jQ ?_) | (refine aj (am (id:=19) _ (fun _ h=>h) ai ?_);refine jT 15 [0,1,2,10,11,12,13] (aa 22 15367) ?_;(refine jG (aa 22 15375) 3 F (aL F F aS F F) ?_);(refine jG (aa 22 15391) 4 F (aA F F oM) ?_);refine jT 12 [5] (aa 22 15423) ?_;((refine jG (aa 22 15487) 6 F (bO F F aS ?_ F F) ?_;focus omega));(refine jG (aa 22 31871) 14 F (aL F F aS F F) ?_);(refine jG (aa 22 64639) 15 F (aA F F oM) ?_);refine jT 8 [16] (aa 22 130175) ?_;((refine jG (aa 22 261247) 17 F (iu F F aS ?_ F F) ?_;focus omega));refine jA 7 F ?_;((refine ab F F F (fV ?_) F ?_;(focus ((simp;omega);done))));refine jS (aa 22 261375) ?_;refine jW 4 [8,9] (aa 22 262143) ?_;refine jA 18 F ?_;(refine ab F F F cx_std F ?_);refine jS (aa 22 524287) ?_;refine jW 0 [19,20,21] (aa 22 4194303) ?_;refine jQ ?_))
    all_goals refine jY (vs:=[_]) ?_
    all_goals (rw [aw];simp)
theorem v9 {b : Nat} {qs : List cF} (h : ScI G b qs) (hw : SchW (ao qs)) {k : ac8} (hk : aO (ao qs) k = true) : an ac7 53 [Pt b 0,Ag [S (sg k),S (bs k),S (nm k)]] G (· = S (rn (ao qs) k)) :=
 v7 h hw ((ao qs).length + 1) (by have:=hw.len;omega) hk (fun t ht=>pW hw t ht)
theorem pT {α : Type} [Inhabited α] {p : α → Bool} : ∀ {l : List α} {i : Nat},i < l.length → (∀ k,k < i → p (ae l k) = false) → p (ae l i) = true → l.find? p = some (ae l i)
 | [],i,hi,_,_=>by simp at hi
 | a :: l,0,_,_,h=>by
  have h : p a = true:=h
  rw [List.find?_cons,h];rfl
 | a :: l,i + 1,hi,hno,h=>by
  have h0 : p a = false:=hno 0 oM
  rw [List.find?_cons,h0]
  exact pT (l:=l) (i:=i) (by simpa using hi) (fun k hk=>hno (k + 1) oM) h
theorem tP {α : Type} [Inhabited α] {p : α → Bool} {l : List α} (hno : ∀ k,k < l.length → p (ae l k) = false) : l.find? p = none:=by
 rw [List.find?_eq_none]
 intro x hx
 obtain ⟨i,hi,rfl⟩:=List.mem_iff_getElem.1 hx
 have:=hno i hi
 rw [aW hi] at this
 simp [this]
theorem tO {fs : List Fld} {tag : Int} {i : Nat} (hi : i < fs.length) (hno : ∀ k,k < i → (ae fs k).tag ≠ tag) (h : (ae fs i).tag = tag) : bR fs tag = some (ae fs i) :=
 pT hi (fun k hk=>by simpa using hno k hk) (by simpa using h)
theorem yZ {fs : List Fld} {tag : Int} (hno : ∀ k,k < fs.length → (ae fs k).tag ≠ tag) : bR fs tag = none:=tP fun k hk=>by simpa using hno k hk
theorem eA {fs : List Fld} {tag : Int} {f : Fld} (h : bR fs tag = some f) : ∃ i,i < fs.length ∧ (∀ k,k < i → (ae fs k).tag ≠ tag) ∧ (ae fs i).tag = tag ∧ ae fs i = f:=by
 have hex : ∃ i,i < fs.length ∧ (ae fs i).tag = tag:=by
  have hm:=List.mem_of_find?_eq_some h
  have ht:=List.find?_some h
  obtain ⟨i,hi,rfl⟩:=List.mem_iff_getElem.1 hm
  exact ⟨i,hi,by rw [aW hi];simpa using ht⟩
 obtain ⟨i,hi,ht⟩:=hex
 induction i using Nat.strongRecOn with
 | _ i ih =>
  by_cases hc : ∃ k,k < i ∧ (ae fs k).tag = tag
  ·obtain ⟨k,hk,hkt⟩:=hc
   exact ih k hk oM hkt
  ·have hno : ∀ k,k < i → (ae fs k).tag ≠ tag:=fun k hk e=>hc ⟨k,hk,e⟩
   refine ⟨i,hi,hno,ht,?_⟩
   rw [tO hi hno ht] at h
   exact Option.some.inj h
abbrev zF : Fld:=⟨0,[],[],[]⟩
abbrev abz : TypeId:=112
abbrev acJ : TypeId:=110
theorem hX {x : bS} {tag : Int} (hf : be G (gn x) 4 x.2.fields.length (aE g5 x.2.fields)) (hl : x.2.fields.length ≤ 1000) :
  an ac7 185 [Ag [U8 x.2.sort,S x.2.name,gn x],I tag] G (· = Tu [Ag (g5 ((bR x.2.fields tag).getD zF)),Bo (bR x.2.fields tag).isSome]):=by
 obtain ⟨⟨a,ca⟩,t⟩:=x
 simp only [gn] at hf ⊢
 dsimp only at hl
 refine jE [(0,_),(1,_)] Tryz.func185 Tryz.ntmps185 fun B hB=>?_
 repeat' (first | refine jR ?_ | (refine jo ?_;first | refine jO fun _=>?_ | refine jL fun _=>?_))
 rename_i y z
 refine aT (ι:=Nat) (fun i=>i ≤ t.fields.length ∧ ∀ k,k < i → (ae t.fields k).tag ≠ tag) (fun i=>[(1,I tag),(2,Pt y 0),(4,Pt z 0),(6,I i)]) (fun _=>G) (fun i=>[.blk z (.cells [I 0,S [],S [],S []].toArray abz (0,0)),.blk y (.cells [U8 t.sort,S t.name,.slice a t.fields.length ca].toArray acJ (0,0))]) (fun i=>t.fields.length - i) 0 ?_ tU F aZ (fun i Hi=>?_)
 ·exact ⟨Nat.zero_le _,fun k hk=>absurd hk oM⟩
 by_cases hi : i < t.fields.length
 ·obtain ⟨bf,of,cf,e,hs⟩:=hf.expl oM
  simp only [Value.slice.injEq] at e
  obtain ⟨rfl,-,rfl⟩:=e
  repeat' (first | refine jM ?_ | (refine jo ?_;first | refine ah F ?_ | (refine jV (cM F F aS ?_) ?_;focus omega) | (refine jV (bO F F aS ?_ F F) ?_;focus omega) | refine jV (av F) ?_ | refine jV (aA F F oM) ?_ | refine jC F F F ?_) | refine ac F (ay oM) ?_ | refine cB F (fun _=>?_) (fun _=>?_))
  ·rename_i he
   refine jZ (vs:=[_,_]) F ⟨aF F F F F,F,trivial⟩ F ⟨F,F,?_⟩
   rw [tO hi Hi.2 he];rfl
  ·rename_i he
   refine aY (i + 1) ⟨oM,fun k hk=>?_⟩ oM tU F aZ
   rcases Nat.lt_or_ge k i with h3 | h3
   ·exact Hi.2 k h3
   ·have : k = i:=oM
    subst this;exact he
 ·repeat' (first | refine jR ?_ | (refine jo ?_;first | refine ah F ?_ | refine jV (av F) ?_ | refine jC F F F ?_ | refine jV (al F F) ?_) | refine ad F (aC oM) ?_)
  refine jZ (vs:=[_,_]) F ⟨aF F F F F,F,trivial⟩ F ⟨F,F,?_⟩
  rw [yZ fun k hk=>Hi.2 k oM];rfl
theorem d6 {b : Nat} {t : Ty} {fv : Value} {ln : ac8} {tag : Int} (hs : b7 G b 0 [U8 t.sort,S t.name,fv,S ln]) (hf : be G fv 6 t.fields.length (aE jl t.fields)) (hl : t.fields.length ≤ 1000) (h : bR t.fields tag = none) :
  an ac7 130 [Pt b 0,I tag] G (· = .pointer none):=by
 have hno : ∀ k,k < t.fields.length → (ae t.fields k).tag ≠ tag:=fun k hk e=>by
  have h1:=List.find?_eq_none.1 h (ae t.fields k) (bP hk)
  exact h1 (by simpa using e)
 refine jE [(0,_),(1,_)] Tryz.func130 Tryz.ntmps130 fun B hB=>?_
 repeat' (first | refine jR ?_ | (refine jo ?_;first | refine jV (aL F F aS F F) ?_ | refine jV (d2 F aS) ?_))
 refine aT (ι:=Nat) (fun i=>i ≤ t.fields.length) (fun i=>[(0,Pt b 0),(1,I tag),(10,I t.fields.length),(11,I i)]) (fun _=>G) (fun i=>[]) (fun i=>t.fields.length - i) 0 ?_ tU F aZ (fun i Hi=>?_)
 ·exact Nat.zero_le _
 by_cases hi : i < t.fields.length
 ·obtain ⟨bf,of,cf,rfl,hsf⟩:=hf.expl oM
  have h2:=hno i hi
  repeat' (first | refine jM ?_ | (refine jo ?_;first | (refine jV (bO F F aS ?_ F F) ?_;focus omega) | refine jV (aL F F aS F F) ?_ | refine jV (aA F F oM) ?_) | refine ac F (ay oM) ?_ | refine ad F (aC ‹_›) ?_)
  exact aY (i + 1) oM oM tU F aZ
 ·repeat' (first | refine jR ?_ | refine ad F (aC oM) ?_)
  refine jY (vs:=[_]) ?_
  rfl
theorem eW {b bf of cf j : Nat} {t : Ty} {ln : ac8} {tag : Int} (hs : b7 G b 0 [U8 t.sort,S t.name,.slice (some ⟨bf,of,none⟩) t.fields.length cf,S ln]) (hsf : b7 G bf of (aE jl t.fields)) (hl : t.fields.length ≤ 1000) (hj : j < t.fields.length) (hno : ∀ k,k < j → (ae t.fields k).tag ≠ tag) (hat : (ae t.fields j).tag = tag) :
  an ac7 130 [Pt b 0,I tag] G (· = Pt bf (of + j * 6)):=by
 refine jE [(0,_),(1,_)] Tryz.func130 Tryz.ntmps130 fun B hB=>?_
 repeat' (first | refine jR ?_ | (refine jo ?_;first | refine jV (aL F F aS F F) ?_ | refine jV (av F) ?_))
 refine aT (ι:=Nat) (fun i=>i ≤ j) (fun i=>[(0,Pt b 0),(1,I tag),(10,I t.fields.length),(11,I i)]) (fun _=>G) (fun i=>[]) (fun i=>t.fields.length - i) 0 ?_ tU F aZ (fun i Hi=>?_)
 ·exact Nat.zero_le _
 by_cases hij : i = j
 ·subst hij
  repeat' (first | refine jR ?_ | (refine jo ?_;first | (refine jV (bO F F aS ?_ F F) ?_;focus omega) | refine jV (aL F F aS F F) ?_ | refine jV (aA F F oM) ?_) | (refine ac F (by refine decide_eq_true ?_;first | assumption | omega) ?_))
  all_goals refine jY (vs:=[_]) ?_
  all_goals rfl
 ·have h2:=hno i oM
  repeat' (first | refine jM ?_ | (refine jo ?_;first | (refine jV (bO F F aS ?_ F F) ?_;focus omega) | refine jV (aL F F aS F F) ?_ | refine jV (aA F F oM) ?_) | refine ac F (ay oM) ?_ | refine ad F (aC ‹_›) ?_)
  exact aY (i + 1) oM oM tU F aZ
theorem om {u : Value} {vs : List bS} {f : Fld} (h : SchR G u vs) (hw : SchW (ag vs)) (hk : aO (ag vs) f.kind = true) :
  an ac7 142 [u,Ag [I f.tag,S f.name,S f.kind,S f.stand]] G (· = S (cW (ag vs) f)):=by
 have cx_std:=v8 h hw hk
 unfold cW
 by_cases hs : f.stand = []
 ·rw [if_pos hs,hs]
  refine jE [(0,_),(1,_)] Tryz.func142 Tryz.ntmps142 fun B hB=>?_
  repeat' (first | refine jR ?_ | (refine jo ?_;first | refine jO fun _=>?_ | refine ah F ?_ | refine ab F F F cx_std F ?_) | refine ad F F ?_)
  all_goals refine jY (vs:=[_]) ?_
  all_goals rfl
 ·rw [if_neg hs]
  refine jE [(0,_),(1,_)] Tryz.func142 Tryz.ntmps142 fun B hB=>?_
  repeat' (first | refine jR ?_ | (refine jo ?_;first | refine jO fun _=>?_ | refine ah F ?_) | refine ac F (ay ‹_›) ?_)
  all_goals refine jY (vs:=[_]) ?_
  all_goals rfl
theorem yf {b bf of j : Nat} {qs : List cF} {fs : List Fld} (h : ScI G b qs) (hw : SchW (ao qs)) (hsf : b7 G bf of (aE jl fs)) (hj : j < fs.length) (hk : aO (ao qs) (ae fs j).kind = true) :
  an ac7 131 [Pt b 0,Pt bf (of + j * 6)] G (· = S (cW (ao qs) (ae fs j))):=by
 have cx_std:=v9 h hw hk
 unfold cW
 by_cases hs : (ae fs j).stand = []
 ·rw [if_pos hs]
  have hs2 : ¬ (ae fs j).stand ≠ []:=fun h=>h hs
  refine jE [(0,_),(1,_)] Tryz.func131 Tryz.ntmps131 fun B hB=>?_
  repeat' (first | refine jR ?_ | (refine jo ?_;first | (refine jV (bO F F aS ?_ F F) ?_;focus omega) | (refine jV (iu F F aS ?_ F F) ?_;focus omega) | refine ab F F F cx_std F ?_) | refine ad F (aC ‹_›) ?_)
  all_goals refine jY (vs:=[_]) ?_
  all_goals rfl
 ·rw [if_neg hs]
  refine jE [(0,_),(1,_)] Tryz.func131 Tryz.ntmps131 fun B hB=>?_
  repeat' (first | refine jR ?_ | (refine jo ?_;(refine jV (bO F F aS ?_ F F) ?_;focus omega)) | refine ac F (ay ‹_›) ?_)
  all_goals refine jY (vs:=[_]) ?_
  all_goals rfl
abbrev iF : TypeId:=83
abbrev zV : TypeId:=9
theorem b6 {w : Nat} {x : ac8} {t : Int} {ks : List V} : V.tot (.nd w x t ks) = 20 + x.length + V.tots ks:=by rw [V.tot]
theorem nb : ∀ (n : Nat) {v : V} {c : VC},v.tot ≤ n → v.tot ≤ 1000000 → V.rep G v c → an ac7 55 [Ag (ck c)] G (· = S v.out):=by
 intro n
 induction n with
 | zero=>intro v c h1 _ _;have:=iU v;omega
 | succ n ih =>
  intro v c h1 h2 h
  obtain ⟨w,x,t,ks⟩:=v
  rw [b6] at h1 h2
  obtain ⟨a,k,cs,rfl,hw,ht,h61,hcl,hsl,hks⟩:=mY h
  have hkl:=d9 ks
  have hol:=jf ks
  have hjl:=nU hks
  have hj2:=fF 44 (V.outs ks)
  rw [hol] at hj2
  simp only [ck,VC.sl]
  refine jB (Post:=fun v G' L'=>G' = G ∧ L' = [] ∧ _) [(0,_)] Tryz.func55 Tryz.ntmps55 fun B hok hB hW=>?_
  repeat' (first | refine jR ?_ | (refine jo ?_;first | refine jO fun _=>?_ | refine ah F ?_ | refine jV (av F) ?_))
  rename_i bv
  refine Nx.addNil zV 1 ?_
  refine aT (ι:=Nat × Value) (fun q=>q.1 ≤ ks.length) (fun q=>[(1,Pt bv 0),(2,S []),(3,q.2),(8,.slice a ks.length k),(9,I ks.length),(10,I q.1)]) (fun _=>G) (fun q=>[.acc q.2 zV 1 q.1 (aE dG ((V.outs ks).take q.1)),.blk bv (.cells (List.toArray [U8 w,S x,I t,.slice a ks.length k]) iF (0,0))]) (fun q=>ks.length - q.1) (0,aI) ?_ tU F aZ (fun q Hq=>?_)
  ·exact Nat.zero_le _
  obtain ⟨i,pv⟩:=q
  dsimp only at Hq ⊢
  by_cases hi : i < ks.length
  ·have hti:=gl hi
   have cx_pr:=ih oM oM (ja hks i hi)
   obtain ⟨bf,of,cf,e,hs⟩:=hsl.expl oM
   simp only [Value.slice.injEq] at e
   obtain ⟨rfl,-,rfl⟩:=e
   repeat' (first | refine jM ?_ | (refine jo ?_;first | (refine jV (cM F F aS ?_) ?_;focus omega) | refine aB F ?_ | refine jV (aA F F oM) ?_ | refine jL fun _=>?_ | refine jC F F F ?_ | refine jF fun _=>?_ | refine bY F F F F F F F F F oM fun _ _=>?_ | refine ab F F F cx_pr F ?_) | refine ac F (ay oM) ?_)
   have e2 : aE dG ((V.outs ks).take i) ++ [S (ae ks i).out] = aE dG ((V.outs ks).take (i + 1)):=by rw [eZ oM,co,lg hi];rfl
   rw [e2]
   exact aY (i + 1,_) (by dsimp only;omega) (by dsimp only;omega) tU rfl sB
  ·have hin : i = ks.length:=oM
   subst hin
   refine Nx.sealA .here fun G1 hG1 hsP=>?_
   rw [← hol,List.take_length] at hsP
   have cx_join:=abk (c:=44) hsP oM
   have hd:=fT ht.2
   have hE : ks.isEmpty = decide (ks.length = 0):=by cases ks <;> simp
   repeat' (first | refine jX ?_ | (refine jo ?_;first | refine ah F ?_ | refine jV (av F) ?_ | refine ab F F F cx_join F ?_ | refine ab F F F (fV oM) F ?_) | refine ad F (aC oM) ?_ | refine cB F (fun _=>?_) (fun _=>?_))
   all_goals refine Nx.base hok hB ?_
   all_goals refine jY (vs:=[_]) ?_
   all_goals (rw [aw,V.out,hE];unfold dp;simp only [decide_eq_true_eq];repeat (first | rw [if_pos oM] | rw [if_neg oM]))
   all_goals (first | rfl | (simp;done))
theorem vY {x : ac8} {t : Int} {u : V} : V.deep (.nd 61 x t [u]) = u.deep:=by rw [V.deep,if_pos rfl,V.deeps,V.deeps,Nat.max_zero]
theorem pi (v : V) : ∀ (ks : List V),V.deeps (ks ++ [v]) = max (V.deeps ks) v.deep
 | []=>by simp [V.deeps]
 | u :: r=>by simp only [List.cons_append,V.deeps,pi v r];omega
mutual
theorem n6 : ∀ v : V,v.deep ≤ v.tot
 | .nd w x t ks=>by
  have:=mD ks
  rw [V.deep,V.tot];split <;> omega
theorem mD : ∀ ks : List V,V.deeps ks ≤ V.tots ks
 | []=>by simp [V.deeps]
 | v :: r=>by
  have:=n6 v
  have:=mD r
  rw [V.deeps,V.tots];omega
end
theorem wt : ∀ (n : Nat) {v : V} {c : VC},v.tot ≤ n → v.tot ≤ 1000000 → V.rep G v c → an ac7 127 [Ag (ck c)] G (· = I (v.deep : Nat)):=by
 intro n
 induction n with
 | zero=>intro v c h1 _ _;have:=iU v;omega
 | succ n ih =>
  intro v c h1 h2 h
  obtain ⟨w,x,t,ks⟩:=v
  rw [b6] at h1 h2
  obtain ⟨a,k,cs,rfl,hw,ht,h61,hcl,hsl,hks⟩:=mY h
  have hkl:=d9 ks
  simp only [ck,VC.sl]
  by_cases hq : w = 61
  ·have hk1:=h61 hq
   have hti:=gl (ks:=ks) (i:=0) oM
   have cx_dp:=ih oM oM (ja hks 0 oM)
   obtain ⟨bf,of,cf,e,hs⟩:=hsl.expl oM
   simp only [Value.slice.injEq] at e
   obtain ⟨rfl,-,rfl⟩:=e
   refine jE [(0,_)] Tryz.func127 Tryz.ntmps127 fun B hB=>?_
   repeat' (first | refine jR ?_ | (refine jo ?_;first | refine jO fun _=>?_ | refine ah F ?_ | (refine jV (cM F F aS ?_) ?_;focus omega) | refine jV (aN F F oM) ?_ | refine ab F F F cx_dp F ?_) | refine ac F (ay oM) ?_)
   refine jY (vs:=[_]) ?_
   rw [aw]
   obtain ⟨u,rfl⟩:=List.length_eq_one_iff.1 hk1
   subst hq
   rw [vY];rfl
  ·rw [cP hq]
   refine jE [(0,_)] Tryz.func127 Tryz.ntmps127 fun B hB=>?_
   repeat' (first | refine jR ?_ | (refine jo ?_;first | refine jO fun _=>?_ | refine ah F ?_ | refine jV (av F) ?_) | refine ad F (aC oM) ?_)
   rename_i bv
   refine Nx.re (d:=3) (v':=I (V.deeps (ks.take 0) : Nat)) F F ?_
   refine aT (ι:=Nat) (fun i=>i ≤ ks.length) (fun i=>[(3,I (V.deeps (ks.take i) : Nat)),(15,.slice a ks.length k),(16,I ks.length),(17,I i)]) (fun _=>G) (fun i=>[]) (fun i=>ks.length - i) 0 ?_ tU F (by repeat (exact List.nil_sublist _)) (fun i Hi=>?_)
   ·exact Nat.zero_le _
   by_cases hi : i < ks.length
   ·have hti:=gl hi
    have cx_dp:=ih oM oM (ja hks i hi)
    obtain ⟨bf,of,cf,e,hs⟩:=hsl.expl oM
    simp only [Value.slice.injEq] at e
    obtain ⟨rfl,-,rfl⟩:=e
    repeat' (first | refine jM ?_ | (refine jo ?_;first | (refine jV (cM F F aS ?_) ?_;focus omega) | refine aB F ?_ | refine jV (aA F F oM) ?_ | refine jL fun _=>?_ | refine jC F F F ?_ | refine jV (abS F F) ?_ | refine ab F F F cx_dp F ?_) | refine ac F (ay oM) ?_)
    refine Nx.re (d:=3) (v':=I (V.deeps (ks.take (i + 1)) : Nat)) F (congrArg (Value.int .i64) (by rw [eZ hi,pi];omega)) ?_
    exact aY (i + 1) oM oM tU F (by repeat (exact List.nil_sublist _))
   ·have hin : i = ks.length:=oM
    subst hin
    rw [List.take_length]
    have hdt:=mD ks
    repeat' (first | refine jM ?_ | refine ad F (aC oM) ?_)
    refine jY (vs:=[_]) ?_
    rw [aw];congr 1
abbrev acO : TypeId:=170
theorem sQ {s p : ac8} (hs : s.length ≤ 1000000 ∧ p.length ≤ 1000000) : an ac7 212 [S s,S p] G (· = Tu [S (if p.isPrefixOf s = true then s.drop p.length else s),Bo (p.isPrefixOf s)]):=by
 have cx_hp : an ac7 164 [S s,S p] G (· = Bo (p.isPrefixOf s)):=gM
 cases hp : p.isPrefixOf s with
 | false =>
  rw [hp] at cx_hp
  refine jE [(0,_),(1,_)] Tryz.func212 Tryz.ntmps212 fun B hB=>?_
  repeat' (first | refine jR ?_ | (refine jo ?_;refine ab F F F gM F ?_) | (refine ac F ?_ ?_;(focus ((simp [*];done);done))))
  refine jY (vs:=[_,_]) ?_
  rfl
 | true =>
  rw [hp] at cx_hp
  have hl : p.length ≤ s.length:=by
   have:=List.isPrefixOf_iff_prefix.1 hp
   exact this.length_le
  refine jE [(0,_),(1,_)] Tryz.func212 Tryz.ntmps212 fun B hB=>?_
  repeat' (first | refine jM ?_ | (refine jo ?_;refine ab F F F gM F ?_) | (refine ad F ?_ ?_;(focus ((simp [*];done);done))))
  refine jY (vs:=[_,_]) ?_
  rfl
theorem th {s p : ac8} (hs : s.length ≤ 1000000 ∧ p.length ≤ 1000000) : an ac7 190 [S s,S p] G (· = Tu [S (if p.isPrefixOf s = true then s.drop p.length else s),Bo (p.isPrefixOf s)]):=by
 have cx_cp:=sQ (G:=G) hs
 refine jE [(0,_),(1,_)] Tryz.func190 Tryz.ntmps190 fun B hB=>?_
 repeat' (first | refine jR ?_ | (refine jo ?_;refine ab F F F cx_cp F ?_))
 refine jY (vs:=[_,_]) ?_
 rfl
def cU (l s : ac8) (b : Bool) : Bool:=!b && l.isPrefixOf s
def dL (l s : ac8) (b : Bool) : ac8:=if cU l s b = true then s.drop l.length else s
abbrev dR (r sc : Nat) (s : ac8) (b : Bool) : Own:=.blk r (.cells (List.toArray [Pt sc 0,S s,Bo b]) acO (0,0))
theorem gH {r sc : Nat} {s l : ac8} {b : Bool} (hs : s.length ≤ 1000000 ∧ l.length ≤ 1000000) : bM ac7 167 [Pt r 0,S l] G [dR r sc s b] (fun v L'=>v = Bo (cU l s b) ∧ L' = [dR r sc (dL l s b) b]):=by
 have cx_cp:=th (G:=G) hs
 unfold dL cU
 cases hp : l.isPrefixOf s with
 | false =>
  rw [hp] at cx_cp
  refine jH [(0,_),(1,_)] Tryz.func167 Tryz.ntmps167 fun B hB hW=>?_
  repeat' (first | refine jR ?_ | (refine jo ?_;first | refine ah F ?_ | refine ar F ?_ | refine ab F F F cx_cp F ?_) | refine ak F F F ?_ | refine ad F F ?_)
  exact aP (vs:=[_]) F ⟨F,trivial⟩ F (List.Sublist.refl _) ⟨F,by cases b <;> rfl,by cases b <;> rfl⟩
 | true =>
  rw [hp] at cx_cp
  cases b with
  | true =>
   refine jH [(0,_),(1,_)] Tryz.func167 Tryz.ntmps167 fun B hB hW=>?_
   repeat' (first | refine jR ?_ | (refine jo ?_;first | refine ah F ?_ | refine aG F ?_ | refine ab F F F cx_cp F ?_) | refine ax F F F ?_ | refine ad F F ?_)
   exact aP (vs:=[_]) F ⟨F,trivial⟩ F (List.Sublist.refl _) ⟨F,F,F⟩
  | false =>
   refine jH [(0,_),(1,_)] Tryz.func167 Tryz.ntmps167 fun B hB hW=>?_
   repeat' (first | refine jR ?_ | (refine jo ?_;first | refine ah F ?_ | refine aG F ?_ | refine jD F F F ?_ | refine ab F F F cx_cp F ?_) | refine ax F F F ?_ | refine ac F F ?_)
   exact aP (vs:=[_]) F ⟨F,trivial⟩ F (List.Sublist.refl _) ⟨F,F,F⟩
theorem dx {r sc : Nat} {s l : ac8} {b : Bool} (hs : s.length ≤ 1000000 ∧ l.length ≤ 1000000) : bM ac7 168 [Pt r 0,S l] G [dR r sc s b] (fun v L'=>L' = [dR r sc (dL l s b) (!cU l s b)]):=by
 have cx_tk:=gH (G:=G) (r:=r) (sc:=sc) (b:=b) hs
 cases ht : cU l s b with
 | false =>
  rw [ht] at cx_tk
  refine jH [(0,_),(1,_)] Tryz.func168 Tryz.ntmps168 fun B hB hW=>?_
  repeat' (first | refine jR ?_ | (refine jo ?_;first | refine jD F F F ?_ | (refine af F F F cx_tk F ?_;rintro _ _ ⟨rfl,rfl⟩;dsimp only [zA,fA])) | refine ac F F ?_)
  exact nX (vs:=[]) F trivial F (List.Sublist.refl _) ⟨F,F⟩
 | true =>
  have hb : b = false:=by unfold cU at ht;cases b <;> simp_all
  subst hb
  rw [ht] at cx_tk
  refine jH [(0,_),(1,_)] Tryz.func168 Tryz.ntmps168 fun B hB hW=>?_
  repeat' (first | refine jR ?_ | (refine jo ?_;(refine af F F F cx_tk F ?_;rintro _ _ ⟨rfl,rfl⟩;dsimp only [zA,fA])) | refine ad F F ?_)
  exact nX (vs:=[]) F trivial F (List.Sublist.refl _) ⟨F,F⟩
theorem kZ {p : Nat → Bool} {q : UInt8 → Bool} (h : ∀ c : UInt8,p c.toNat = q c) : ∀ s : ac8,du p s = s.dropWhile q
 | []=>rfl
 | c :: r=>by
  rw [du,h c,List.dropWhile_cons]
  cases q c with
  | true=>simp only [if_true];exact kZ h r
  | false=>simp
theorem aaQ : ∀ c : UInt8,eT [48,49,50,51,52,53,54,55,56,57] c.toNat = a8 c:=by
 intro c
 have : ∀ n : Nat,n < 256 → eT [48,49,50,51,52,53,54,55,56,57] n = decide (48 ≤ n ∧ n ≤ 57):=by decide +kernel
 exact this _ c.toNat_lt
def txB : ac8:=[97,98,99,100,101,102,103,104,105,106,107,108,109,110,111,112,113,114,115,116,117,118,119,120,121,122,48,49,50,51,52,53,54,55,56,57,32]
def cY (c : UInt8) : Bool:=decide (iK c.toNat)
theorem zQ : ∀ c : UInt8,eT txB c.toNat = cY c:=by
 intro c
 have : ∀ n : Nat,n < 256 → eT txB n = decide (iK n):=by decide +kernel
 exact this _ c.toNat_lt
theorem jI (q : UInt8 → Bool) (s : ac8) : s.take (s.length - (s.dropWhile q).length) = s.takeWhile q:=by
 have h:=List.takeWhile_append_dropWhile (p:=q) (l:=s)
 have hl : (s.takeWhile q).length + (s.dropWhile q).length = s.length:=by
  have:=congrArg List.length h
  rwa [List.length_append] at this
 have e : s.length - (s.dropWhile q).length = (s.takeWhile q).length:=oM
 rw [e]
 have h2 : (s.takeWhile q ++ s.dropWhile q).take (s.takeWhile q).length = s.takeWhile q:=List.take_left
 rwa [h] at h2
theorem dK (q : UInt8 → Bool) (s : ac8) : (s.takeWhile q).length + (s.dropWhile q).length = s.length:=by
 have h:=List.takeWhile_append_dropWhile (p:=q) (l:=s)
 have:=congrArg List.length h
 rwa [List.length_append] at this
theorem pE (x : ac8) : df (39 :: (x ++ [39])) = true ↔ x.length ≤ 12 ∧ ∀ c ∈ x,cY c = true:=by
 unfold df
 rw [decide_eq_true_eq]
 unfold yi
 have e0 : bt (39 :: (x ++ [39])) 0 = 39:=bi _ _
 have e1 : (39 :: (x ++ [39]) : ac8).length = x.length + 2:=by simp
 have e2 : bt (39 :: (x ++ [39])) (x.length + 1) = 39:=by
  rw [dW];simp [bt]
 have e3 : ∀ i,i < x.length → bt (39 :: (x ++ [39])) (i + 1) = bt x i:=fun i hi=>by
  rw [dW];simp [bt,List.getD,List.getElem?_append_left hi]
 rw [e1,show x.length + 2 - 1 = x.length + 1 by omega]
 constructor
 ·rintro ⟨⟨_,h1⟩,_,_,h2⟩
  refine ⟨oM,fun c hc=>?_⟩
  obtain ⟨i,hi,rfl⟩:=List.mem_iff_getElem.1 hc
  have:=h2 (i + 1) oM
  rw [e3 i hi] at this
  have h3 : bt x i = (x[i]).toNat:=by simp [bt,List.getD,List.getElem?_eq_getElem hi]
  rw [h3] at this
  unfold cY
  rw [decide_eq_true_eq]
  rcases this with h | h
  ·omega
  ·exact h
 ·rintro ⟨h1,h2⟩
  refine ⟨⟨oM,oM⟩,e0,e2,fun i hi=>?_⟩
  cases i with
  | zero=>exact .inl F
  | succ i =>
   have hi' : i < x.length:=oM
   rw [e3 i hi']
   have h3 : bt x i = (x[i]).toNat:=by simp [bt,List.getD,List.getElem?_eq_getElem hi']
   rw [h3]
   have:=h2 _ (List.getElem_mem hi')
   unfold cY at this
   rw [decide_eq_true_eq] at this
   exact .inr this
theorem aai {c : UInt8} (h : c.toNat = 39) : cY c = false:=by
 have : c = 39:=UInt8.toNat_inj.1 h
 subst this;decide
theorem vB (s : ac8) : dm s = match s with
  | []=>none
  | c :: r=>if c.toNat = 39 then (match r.dropWhile cY with
   | []=>none
   | d :: t=>if d.toNat = 39 ∧ (r.takeWhile cY).length ≤ 12 then some (.nd 116 (r.takeWhile cY) 0 [],t) else none) else none:=by
 cases s with
 | nil=>rfl
 | cons c r =>
  unfold dm
  dsimp only
  by_cases hc : c.toNat = 39
  ·rw [if_pos hc,if_pos hc]
   have hcut : ∀ r : ac8,aH 39 r = match r.dropWhile cY with
    | []=>(r,[],false)
    | d :: t=>if d.toNat = 39 then (r.takeWhile cY,t,true) else (r.takeWhile cY ++ (aH 39 (d :: t)).1,(aH 39 (d :: t)).2):=by
    intro r
    induction r with
    | nil=>rfl
    | cons x r ih =>
     rw [List.dropWhile_cons,List.takeWhile_cons]
     by_cases hx : cY x = true
     ·rw [if_pos hx,if_pos hx]
      have h39 : ¬ x.toNat = 39:=fun h=>by rw [aai h] at hx;cases hx
      rw [aH,if_neg h39,ih]
      cases hd : r.dropWhile cY with
      | nil=>rfl
      | cons d t =>
       dsimp only
       split
       ·rfl
       ·rfl
     ·rw [if_neg hx,if_neg hx]
      dsimp only
      split
      ·rename_i h39;rw [aH,if_pos h39]
      ·simp
   rw [hcut]
   cases hd : r.dropWhile cY with
   | nil=>rfl
   | cons d t =>
    dsimp only
    by_cases h39 : d.toNat = 39
    ·rw [if_pos h39]
     dsimp only
     by_cases h12 : (r.takeWhile cY).length ≤ 12
     ·rw [if_pos ((pE _).2 ⟨h12,fun c hc=>List.all_eq_true.1 (List.all_takeWhile (l:=r) (p:=cY)) c hc⟩),if_pos ⟨h39,h12⟩]
     ·rw [if_neg (fun h=>h12 ((pE _).1 h).1),if_neg (fun h=>h12 h.2)]
    ·rw [if_neg h39,if_neg (fun h=>h39 h.1)]
     cases hcc : aH 39 (d :: t) with
     | mk a b =>
      obtain ⟨b,f⟩:=b
      cases f with
      | false=>rfl
      | true =>
       dsimp only
       rw [if_neg]
       intro h
       have hall:=((pE _).1 h).2
       have hdx : cY d = false:=by
        have:=List.head_dropWhile_not (p:=cY) (l:=r) (by rw [hd];simp)
        simpa [hd] using this
       have ha : d ∈ a:=by
        rw [aH,if_neg h39] at hcc
        simp only [Prod.mk.injEq] at hcc
        rw [← hcc.1];simp
       have:=hall d (List.mem_append_right _ ha)
       rw [hdx] at this;cases this
  ·rw [if_neg hc,if_neg hc]
theorem lK {r sc : Nat} {s : ac8} {b : Bool} {top : Int} (hs : s.length ≤ 1000000) : bM ac7 169 [Pt r 0,I top] G [dR r sc s b]
  (fun v L'=>∃ n,v = I n ∧ (0 ≤ n ∧ n ≤ 999999) ∧ (∀ m,aR (s.takeWhile a8) top = some m → n = m) ∧ L' = [dR r sc (s.dropWhile a8) (b || (aR (s.takeWhile a8) top).isNone)]):=by
 have hwl:=dK a8 s
 have cx_tl : an ac7 123 [S s,S [48,49,50,51,52,53,54,55,56,57]] G (· = S (s.dropWhile a8)):=by
  rw [← kZ aaQ]
  exact lO F kR F
 have e1 : s.take (((s.length : Nat) : Int) - (((s.dropWhile a8).length : Nat) : Int)).toNat = s.takeWhile a8:=by
  rw [← jI];congr 1;omega
 have cx_pnB:=g9 (G:=G) (s:=s.takeWhile a8) (top:=top) oM
 rw [← e1] at cx_pnB
 cases hnum2 : (aR (s.takeWhile a8) top) with
 | none =>
  rw [← e1] at hnum2
  have hno : (!(aR (s.take (((s.length : Nat) : Int) - (((s.dropWhile a8).length : Nat) : Int)).toNat) top).isSome) = true:=by rw [hnum2];rfl
  refine jH [(0,_),(1,_)] Tryz.func169 Tryz.ntmps169 fun B hB hW=>?_
  repeat' (first | refine jR ?_ | (refine jo ?_;first | refine ah F ?_ | refine jD F F F ?_ | refine ab F F F cx_tl F ?_) | refine ac F ‹_› ?_ | (refine aj (am (id:=2) _ (fun _ h=>h) ai ?_);refine jT 11 [0,1,2,4,5,6,9,10,13] (aa 20 9847) ?_;(refine jG (aa 20 9855) 3 F (aq F F F) ?_);(refine jG (aa 20 9983) 7 F (aq F F F) ?_);refine jW 6 [8,11,12] (aa 20 16383) ?_;refine jA 14 F ?_;(refine cN F F F cx_pnB F ?_;rintro _ ⟨n,rfl,hnum,hn0,hn1⟩);refine jS (aa 20 32767) ?_;refine jT 0 [15,16,17,18,19] (aa 20 1048575) ?_;refine jQ ?_))
  exact aP (vs:=[_]) F ⟨F,trivial⟩ F (List.Sublist.refl _) ⟨F,_,F,⟨hn0,hn1⟩,fun m hm=>(by cases hm),by simp⟩
 | some m =>
  rw [← e1] at hnum2
  have hno : (!(aR (s.take (((s.length : Nat) : Int) - (((s.dropWhile a8).length : Nat) : Int)).toNat) top).isSome) = false:=by rw [hnum2];rfl
  refine jH [(0,_),(1,_)] Tryz.func169 Tryz.ntmps169 fun B hB hW=>?_
  repeat' (first | refine jR ?_ | (refine jo ?_;first | refine ah F ?_ | refine jD F F F ?_ | refine ab F F F cx_tl F ?_) | refine ad F ‹_› ?_ | (refine aj (am (id:=2) _ (fun _ h=>h) ai ?_);refine jT 11 [0,1,2,4,5,6,9,10,13] (aa 20 9847) ?_;(refine jG (aa 20 9855) 3 F (aq F F F) ?_);(refine jG (aa 20 9983) 7 F (aq F F F) ?_);refine jW 6 [8,11,12] (aa 20 16383) ?_;refine jA 14 F ?_;(refine cN F F F cx_pnB F ?_;rintro _ ⟨n,rfl,hnum,hn0,hn1⟩);refine jS (aa 20 32767) ?_;refine jT 0 [15,16,17,18,19] (aa 20 1048575) ?_;refine jQ ?_))
  exact aP (vs:=[_]) F ⟨F,trivial⟩ F (List.Sublist.refl _) ⟨F,_,F,⟨hn0,hn1⟩,fun m' hm=>hnum m' (by rw [hnum2];exact hm),by simp⟩
theorem i7 {l s : ac8} {b : Bool} : (dL l s b).length ≤ s.length:=by unfold dL;split <;> simp
theorem fe {c : UInt8} {s : ac8} : cU [c] s false = true ↔ ∃ r,s = c :: r:=by
 cases s with
 | nil =>
  constructor
  ·intro h;simp [cU,List.isPrefixOf] at h
  ·rintro ⟨r,h⟩;cases h
 | cons d r =>
  constructor
  ·intro h
   have : c = d:=by simpa [cU,List.isPrefixOf] using h
   exact ⟨r,by rw [this]⟩
  ·rintro ⟨r',h⟩
   simp only [List.cons.injEq] at h
   simp [cU,List.isPrefixOf,h.1]
theorem fX {c : UInt8} {r : ac8} : dL [c] (c :: r) false = r:=by unfold dL;rw [if_pos (fe.2 ⟨r,rfl⟩)];rfl
theorem gm {l s : ac8} : cU l s true = false:=by simp [cU]
theorem iE {l s : ac8} : dL l s true = s:=by simp [dL,gm]
theorem gc {l s : ac8} {b : Bool} (h : cU l s b = false) : dL l s b = s:=by simp [dL,h]
def QuP (s : ac8) (b : Bool) (x s' : ac8) (b' : Bool) : Prop :=
 x.length + s'.length ≤ s.length ∧ (b' = false → b = false ∧ dm s = some (.nd 116 x 0 [],s')) ∧ (b' = true → b = true ∨ dm s = none)
theorem aaf (s : ac8) (b : Bool) : QuP s b ((dL [39] s b).takeWhile cY) (dL [39] ((dL [39] s b).dropWhile cY) (!cU [39] s b)) (!cU [39] ((dL [39] s b).dropWhile cY) (!cU [39] s b) || decide (12 < ((dL [39] s b).takeWhile cY).length)):=by
 have hl : ((dL [39] s b).takeWhile cY).length + (dL [39] ((dL [39] s b).dropWhile cY) (!cU [39] s b)).length ≤ s.length:=by
  have h1:=i7 (l:=[39]) (s:=s) (b:=b)
  have h2:=dK cY (dL [39] s b)
  have h3:=i7 (l:=[39]) (s:=(dL [39] s b).dropWhile cY) (b:=!cU [39] s b)
  omega
 refine ⟨hl,?_⟩
 rw [vB]
 cases b with
 | true=>rw [iE,gm];simp [gm]
 | false =>
  cases ht : cU [39] s false with
  | false =>
   simp only [Bool.not_false,gm,Bool.true_or]
   refine ⟨fun h=>(by cases h),fun _=>.inr ?_⟩
   cases s with
   | nil=>rfl
   | cons c r =>
    dsimp only
    rw [if_neg]
    intro hc
    have : cU [39] (c :: r) false = true:=fe.2 ⟨r,by rw [show c = 39 from UInt8.toNat_inj.1 hc]⟩
    rw [this] at ht;cases ht
  | true =>
   obtain ⟨r,rfl⟩:=fe.1 ht
   rw [fX]
   dsimp only
   rw [if_pos (show (39 : UInt8).toNat = 39 from rfl),Bool.not_true]
   cases ht2 : cU [39] (r.dropWhile cY) false with
   | false =>
    simp only [Bool.not_false,Bool.true_or]
    refine ⟨fun h=>(by cases h),fun _=>.inr ?_⟩
    cases hd : r.dropWhile cY with
    | nil=>rfl
    | cons d t =>
     dsimp only
     rw [if_neg]
     rintro ⟨hc,_⟩
     have : cU [39] (r.dropWhile cY) false = true:=fe.2 ⟨t,by rw [hd,show d = 39 from UInt8.toNat_inj.1 hc]⟩
     rw [this] at ht2;cases ht2
   | true =>
    obtain ⟨t,hd⟩:=fe.1 ht2
    rw [hd,fX]
    dsimp only
    by_cases h12 : 12 < (r.takeWhile cY).length
    ·rw [decide_eq_true h12,if_neg (fun h=>by omega)]
     exact ⟨fun h=>(by cases h),fun _=>.inr F⟩
    ·rw [decide_eq_false h12,if_pos ⟨rfl,oM⟩]
     exact ⟨fun _=>⟨F,F⟩,fun h=>(by cases h)⟩
theorem zl {r sc : Nat} {s : ac8} {b : Bool} (hs : s.length ≤ 1000000) : bM ac7 170 [Pt r 0] G [dR r sc s b]
  (fun v L'=>∃ x s' b',v = S x ∧ QuP s b x s' b' ∧ L' = [dR r sc s' b']):=by
 have hq:=aaf s b
 have h1:=i7 (l:=[39]) (s:=s) (b:=b)
 have h2:=dK cY (dL [39] s b)
 have h3:=i7 (l:=[39]) (s:=(dL [39] s b).dropWhile cY) (b:=!cU [39] s b)
 have cx_wa:=dx (G:=G) (r:=r) (sc:=sc) (s:=s) (l:=[39]) (b:=b) ⟨hs,by simp⟩
 have cx_wb:=dx (G:=G) (r:=r) (sc:=sc) (s:=(dL [39] s b).dropWhile cY) (l:=[39]) (b:=!cU [39] s b) ⟨oM,by simp⟩
 have cx_tl : an ac7 123 [S (dL [39] s b),S [97,98,99,100,101,102,103,104,105,106,107,108,109,110,111,112,113,114,115,116,117,118,119,120,121,122,48,49,50,51,52,53,54,55,56,57,32]] G (· = S ((dL [39] s b).dropWhile cY)):=by
  rw [← kZ zQ]
  exact lO F kR F
 have e1 : (dL [39] s b).take ((((dL [39] s b).length : Nat) : Int) - ((((dL [39] s b).dropWhile cY).length : Nat) : Int)).toNat = (dL [39] s b).takeWhile cY:=by
  rw [← jI];congr 1;omega
 by_cases h12 : 12 < ((dL [39] s b).takeWhile cY).length
 ·rw [decide_eq_true h12,Bool.or_true] at hq
  rw [← e1] at h12
  refine jH [(0,_)] Tryz.func170 Tryz.ntmps170 fun B hB hW=>?_
  repeat' (first | refine jR ?_ | (refine jo ?_;first | refine ah F ?_ | refine jD F F F ?_ | (refine af F F F cx_wa F ?_;rintro _ _ rfl;dsimp only [zA,fA]) | (refine af F F F cx_wb F ?_;rintro _ _ rfl;dsimp only [zA,fA]) | refine ab F F F cx_tl F ?_) | refine ac F (ay oM) ?_ | (refine aj (am (id:=3) _ (fun _ h=>h) ai ?_);refine jT 6 [0,1,2,4,5,6,9,10] (aa 14 1655) ?_;(refine jG (aa 14 1663) 3 F (aq F F F) ?_);(refine jG (aa 14 1791) 7 F (aq F F F) ?_);refine jW 0 [8,11,12,13] (aa 14 16383) ?_;refine jQ ?_))
  all_goals exact aP (vs:=[_]) F ⟨F,trivial⟩ F (List.Sublist.refl _) ⟨F,_,_,_,F,by rw [e1];exact hq,F⟩
 ·rw [decide_eq_false h12,Bool.or_false] at hq
  rw [← e1] at h12
  refine jH [(0,_)] Tryz.func170 Tryz.ntmps170 fun B hB hW=>?_
  repeat' (first | refine jR ?_ | (refine jo ?_;first | refine ah F ?_ | refine jD F F F ?_ | (refine af F F F cx_wa F ?_;rintro _ _ rfl;dsimp only [zA,fA]) | (refine af F F F cx_wb F ?_;rintro _ _ rfl;dsimp only [zA,fA]) | refine ab F F F cx_tl F ?_) | refine ad F (aC oM) ?_ | (refine aj (am (id:=3) _ (fun _ h=>h) ai ?_);refine jT 6 [0,1,2,4,5,6,9,10] (aa 14 1655) ?_;(refine jG (aa 14 1663) 3 F (aq F F F) ?_);(refine jG (aa 14 1791) 7 F (aq F F F) ?_);refine jW 0 [8,11,12,13] (aa 14 16383) ?_;refine jQ ?_))
  all_goals exact aP (vs:=[_]) F ⟨F,trivial⟩ F (List.Sublist.refl _) ⟨F,_,_,_,F,by rw [e1];exact hq,F⟩
def RdP (f : ac8 → Option (V × ac8)) (s : ac8) (b : Bool) (u : V) (s' : ac8) (b' : Bool) : Prop :=
 s'.length ≤ s.length ∧ (b' = false → b = false ∧ f s = some (u,s')) ∧ (b' = true → (b = true ∨ f s = none) ∧ u.tot + 100 * s'.length ≤ 100 * s.length + 100)
def ia (f : ac8 → Option (V × ac8)) (r sc : Nat) (s : ac8) (b : Bool) (v : Value) (G' : Gh) (L' : List Own) : Prop :=
 ∃ u c s' b',v = Ag (ck c) ∧ V.rep G' u c ∧ L' = [dR r sc s' b'] ∧ RdP f s b u s' b'
def mS (n sc : Nat) (qs : List cF) : Prop:=∀ (G : Gh) (r : Nat) (k s : ac8) (b : Bool),ScI G sc qs → aO (ao qs) k = true → s.length < n → s.length ≤ 1000 →
 dq ac7 126 [Pt r 0,Ag (ew k)] G [dR r sc s b] (ia (rd (ao qs) n k) r sc s b)
def eP (f : ac8 → Option (V × ac8)) : ac8 → Option (V × ac8)
 | []=>none
 | d :: s'=>if d.toNat = 91 then (match s' with
   | []=>none
   | e :: r=>if e.toNat = 93 then some (.nd 91 [] 0 [],r) else (bh f 20 s' []).map fun x=>(.nd 91 [] 0 x.1,x.2)) else none
theorem md {f : ac8 → Option (V × ac8)} (hf : ∀ s x,f s = some x → x.2.length < s.length) : ∀ (m M : Nat) (s : ac8) (acc : List V),s.length < M →
  bh f m s acc = match bh f M s acc with
   | none=>none
   | some x=>if x.1.length ≤ acc.length + m then some x else none
 | 0,M,s,acc,hM=>by
  cases hr : bh f M s acc with
  | none=>rfl
  | some x =>
   have : acc.length + 1 ≤ x.1.length:=by
    clear hM
    induction M generalizing s acc with
    | zero=>cases hr
    | succ M ih =>
     unfold bh at hr
     cases hfs : f s with
     | none=>rw [hfs] at hr;cases hr
     | some y =>
      rw [hfs] at hr
      obtain ⟨v,r⟩:=y
      cases r with
      | nil=>cases hr
      | cons c r =>
       dsimp only at hr
       split at hr
       ·have:=ih _ _ hr;simp at this;omega
       ·split at hr
        ·simp only [Option.some.injEq] at hr;subst hr;simp
        ·cases hr
   dsimp only
   rw [if_neg oM];rfl
 | m + 1,0,s,acc,hM=>by omega
 | m + 1,M + 1,s,acc,hM=>by
  rw [bh,bh]
  cases hfs : f s with
  | none=>rfl
  | some y =>
   have hlt:=hf _ _ hfs
   obtain ⟨v,r⟩:=y
   cases r with
   | nil=>rfl
   | cons c r =>
    simp only [List.length_cons] at hlt
    dsimp only
    split
    ·rw [md hf m M r (acc ++ [v]) oM]
     cases bh f M r (acc ++ [v]) with
     | none=>rfl
     | some x=>dsimp only;simp only [List.length_append,List.length_singleton];congr 1;simp;omega
    ·split
     ·dsimp only;rw [if_pos (by simp)]
     ·rfl
theorem iR {f : ac8 → Option (V × ac8)} {t : ac8} {vs : List V} : ∀ {m : Nat},(f t = none ∨ ∃ u,f t = some (u,[])) → bh f m t vs = none
 | 0,_=>rfl
 | m + 1,h=>by
  rw [bh]
  rcases h with h | ⟨u,h⟩ <;> rw [h]
theorem iQ {f : ac8 → Option (V × ac8)} {t t2 : ac8} {c : UInt8} {u : V} {vs : List V} {m : Nat} (h : f t = some (u,c :: t2)) (hm : 0 < m) :
  bh f m t vs = if c.toNat = 44 then bh f (m - 1) t2 (vs ++ [u]) else if c.toNat = 93 then some (vs ++ [u],t2) else none:=by
 obtain ⟨m,rfl⟩ : ∃ k,m = k + 1:=⟨m - 1,oM⟩
 rw [bh,h];rfl
theorem gT {ts : List Ty} {n : Nat} {k s : ac8} {x : V × ac8} (h : rd ts n k s = some x) : x.2.length < s.length:=by
 have:=jc n k s x h
 have:=iU x.1
 omega
abbrev ut : TypeId:=77
abbrev qC (b : Nat) (cs : List Value) : Own:=.blk b (.cells cs.toArray iF (0,0))
theorem aa7 {n r sc : Nat} {qs : List cF} {k s : ac8} {b : Bool} (hV : mS n sc qs) (hS : ScI G sc qs) (hk : aO (ao qs) k = true) (hs : s.length ≤ n ∧ s.length ≤ 1000) :
  dq ac7 166 [Pt r 0,Ag (ew k)] G [dR r sc s b] (ia (eP (rd (ao qs) n k)) r sc s b):=by
 have cx_wa:=dx (G:=G) (r:=r) (sc:=sc) (s:=s) (l:=[91]) (b:=b) ⟨oM,by simp⟩
 have cx_tk:=gH (G:=G) (r:=r) (sc:=sc) (s:=dL [91] s b) (l:=[93]) (b:=!cU [91] s b) ⟨by have:=i7 (l:=[91]) (s:=s) (b:=b);omega,by simp⟩
 simp only [ew]
 cases ht : cU [91] s b with
 | false =>
  rw [ht,gc ht] at cx_wa cx_tk
  rw [Bool.not_false,gm,iE] at cx_tk
  have cx_wb:=dx (G:=G) (r:=r) (sc:=sc) (s:=s) (l:=[93]) (b:=true) ⟨oM,by simp⟩
  rw [gm,iE] at cx_wb
  refine bL [(0,_),(1,_)] Tryz.func166 kR Tryz.ntmps166 F F tU fun B hB hW=>?_
  repeat' (first | refine jR ?_ | (refine jo ?_;first | refine jO fun _=>?_ | refine jL fun _=>?_ | refine jV (al F F) ?_ | refine jC F F F ?_ | (refine af F F F cx_wa F ?_;rintro _ _ rfl;dsimp only [zA,fA]) | (refine af F F F cx_tk F ?_;rintro _ _ ⟨rfl,rfl⟩;dsimp only [zA,fA])) | refine ad F F ?_)
  rename_i x3 x4 x5 _
  refine aT (ι:=Unit) (fun i=>True) (fun i=>[(0,Pt r 0),(4,Pt x4 0),(5,Pt x5 0)]) (fun _=>G) (fun i=>[dR r sc s true,qC x5 [U8 91,S [],I 0,aI],qC x4 [U8 0,S [],I 0,aI]]) (fun i=>0) () ?_ tU F sB (fun i Hi=>?_)
  ·trivial
  repeat' (first | refine jR ?_ | (refine jo ?_;first | refine jC F F F ?_ | refine ah F ?_ | refine aB F ?_ | refine jV (av F) ?_ | (refine af F F F cx_wb F ?_;rintro _ _ rfl;dsimp only [zA,fA])) | refine ad F F ?_)
  refine aP (vs:=[_]) F ⟨aF F F F F,trivial⟩ F sB ⟨Gh.le.refl _,.nd 91 [] 0 [],⟨91,[],0,none,0,0⟩,s,true,F,bq dC dC,F,Nat.le_refl _,fun h=>(by cases h),fun _=>⟨?_,by simp only [V.tot,V.tots,List.length_nil];omega⟩⟩
  cases b with
  | true=>exact .inl F
  | false =>
   right
   cases s with
   | nil=>rfl
   | cons d r' =>
    unfold eP
    dsimp only
    rw [if_neg]
    intro h91
    have : cU [91] (d :: r') false = true:=fe.2 ⟨r',by rw [show d = 91 from UInt8.toNat_inj.1 h91]⟩
    rw [this] at ht;cases ht
 | true =>
  have hb : b = false:=by cases b with | true=>rw [gm] at ht;cases ht | false=>rfl
  subst hb
  obtain ⟨s1,rfl⟩:=fe.1 ht
  rw [ht,fX] at cx_wa cx_tk
  rw [Bool.not_true] at cx_wa cx_tk
  simp only [List.length_cons] at hs
  cases ht2 : cU [93] s1 false with
  | true =>
   obtain ⟨s2,rfl⟩:=fe.1 ht2
   rw [ht2,fX] at cx_tk
   refine bL [(0,_),(1,_)] Tryz.func166 kR Tryz.ntmps166 F F tU fun B hB hW=>?_
   repeat' (first | refine jR ?_ | (refine jo ?_;first | refine jO fun _=>?_ | refine jL fun _=>?_ | refine jV (al F F) ?_ | refine jC F F F ?_ | refine aB F ?_ | (refine af F F F cx_wa F ?_;rintro _ _ rfl;dsimp only [zA,fA]) | (refine af F F F cx_tk F ?_;rintro _ _ ⟨rfl,rfl⟩;dsimp only [zA,fA])) | refine ac F F ?_)
   refine aP (vs:=[_]) F ⟨aF F F F F,trivial⟩ F sB ⟨Gh.le.refl _,.nd 91 [] 0 [],⟨91,[],0,none,0,0⟩,s2,false,F,bq dC dC,F,by simp only [List.length_cons];omega,fun _=>⟨rfl,rfl⟩,fun h=>(by cases h)⟩
  | false =>
   rw [ht2,gc ht2] at cx_tk
   have hR : eP (rd (ao qs) n k) (91 :: s1) = (bh (rd (ao qs) n k) 20 s1 []).map fun x=>(.nd 91 [] 0 x.1,x.2):=by
    unfold eP
    dsimp only
    rw [if_pos (show (91 : UInt8).toNat = 91 from rfl)]
    cases s1 with
    | nil =>
     have : rd (ao qs) n k [] = none:=by
      cases h : rd (ao qs) n k [] with
      | none=>rfl
      | some x=>have:=gT h;simp at this
     simp [bh,this]
    | cons e r' =>
     dsimp only
     rw [if_neg]
     intro h93
     have : cU [93] (e :: r') false = true:=fe.2 ⟨r',by rw [show e = 93 from UInt8.toNat_inj.1 h93]⟩
     rw [this] at ht2;cases ht2
   have hmore:=md (f:=rd (ao qs) n k) (fun s x h=>gT h) 20 (s1.length + 1) s1 [] oM
   refine bL [(0,_),(1,_)] Tryz.func166 kR Tryz.ntmps166 F F tU fun B hB hW=>?_
   repeat' (first | refine jR ?_ | (refine jo ?_;first | refine jO fun _=>?_ | refine jL fun _=>?_ | refine jV (al F F) ?_ | refine jC F F F ?_ | (refine af F F F cx_wa F ?_;rintro _ _ rfl;dsimp only [zA,fA]) | (refine af F F F cx_tk F ?_;rintro _ _ ⟨rfl,rfl⟩;dsimp only [zA,fA])) | refine ad F F ?_)
   rename_i x3 x4 x5 _
   refine Nx.addNil iF 4 (Nx.perm (List.Perm.swap _ _ _) ?_)
   refine aT (ι:=List V × List VC × Option Addr × Nat × ac8 × Nat × Gh) (fun q=>(V.reps q.2.2.2.2.2.2 q.1 q.2.1 ∧ Gh.le G q.2.2.2.2.2.2) ∧ (bh (rd (ao qs) n k) (s1.length + 1) s1 [] = bh (rd (ao qs) n k) q.2.2.2.2.2.1 q.2.2.2.2.1 q.1 ∧ q.2.2.2.2.1.length < q.2.2.2.2.2.1) ∧ (V.tots q.1 + 100 * q.2.2.2.2.1.length + 100 ≤ 100 * (s1.length + 1) ∧ q.2.2.2.2.1.length ≤ s1.length)) (fun q=>[(0,Pt r 0),(3,Pt x3 0),(4,Pt x4 0),(5,Pt x5 0)]) (fun q=>q.2.2.2.2.2.2) (fun q=>[dR r sc q.2.2.2.2.1 false,.acc (.slice q.2.2.1 q.1.length q.2.2.2.1) iF 4 q.1.length (aE ck q.2.1),qC x5 [U8 91,S [],I 0,.slice q.2.2.1 q.1.length q.2.2.2.1],qC x4 [U8 0,S [],I 0,aI],.blk x3 (.cells (List.toArray [S (sg k),S (bs k),S (nm k)]) ut (0,0))]) (fun q=>q.2.2.2.2.1.length) ([],[],none,0,s1,s1.length + 1,G) ?_ tU F aZ (fun q Hq=>?_)
   ·exact ⟨⟨F,Gh.le.refl _⟩,⟨F,by dsimp only;omega⟩,by dsimp only;simp only [V.tots];omega,Nat.le_refl _⟩
   obtain ⟨vs,cs,a,cap,t,m,Gq⟩:=q
   dsimp only at Hq ⊢
   obtain ⟨⟨hreps,hgq⟩,⟨hit,htm⟩,hT,htl⟩:=Hq
   have hcl:=gS hreps
   have hkl:=d9 vs
   have cx_vl:=hV Gq r k t false (hS.mono hgq) hk oM oM
   repeat' (first | refine jR ?_ | (refine jo ?_;refine ah F ?_) | refine ac F F ?_)
   (refine aj (am (id:=6) [.blk x3 (.cells (List.toArray [S (sg k),S (bs k),S (nm k)]) ut (0,0))] (by intro y hy;simp only [List.mem_cons,List.not_mem_nil,or_false] at hy ⊢;simp [hy]) ai ?_);refine jW 7 [0,2] (aa 9 5) ?_;(refine jG (aa 9 13) 3 F (bD F F F F) ?_);refine bA [1,4] kR dC ⟨?_,?_,trivial⟩;(focus (refine aM F F ?_;(refine ah F ?_);refine jK (aa 9 15) ?_;refine jA 4 F ?_;(refine cI F F F cx_vl F ?_;rintro _ G1 _ hle ⟨u1,c1,t1,b1,rfl,hrep,rfl,hP⟩;dsimp only [zA,fA];skip);refine jK (aa 9 31) ?_;refine jA 5 F ?_;(refine jF fun _=>?_);refine jK (aa 9 63) ?_;refine jA 6 F ?_;((refine bY F F F F F F F F F ?_ fun _ _=>?_;focus omega));refine jK (aa 9 127) ?_;refine jW 1 [7] (aa 9 255) ?_;refine jA 8 F ?_;(refine jD F F F ?_);refine jK (aa 9 511) ?_;refine jQ ?_));rotate_left 1;(focus (refine aM F F ?_;(refine cI F F F cx_vl F ?_;rintro _ G1 _ hle ⟨u1,c1,t1,b1,rfl,hrep,rfl,hP⟩;dsimp only [zA,fA];skip);refine jK (aa 9 29) ?_;refine bA [1,5] kR dC ⟨?_,?_,trivial⟩;(focus (refine aM F F ?_;(refine ah F ?_);refine jK (aa 9 31) ?_;refine jA 5 F ?_;(refine jF fun _=>?_);refine jK (aa 9 63) ?_;refine jA 6 F ?_;((refine bY F F F F F F F F F ?_ fun _ _=>?_;focus omega));refine jK (aa 9 127) ?_;refine jW 1 [7] (aa 9 255) ?_;refine jA 8 F ?_;(refine jD F F F ?_);refine jK (aa 9 511) ?_;refine jQ ?_));rotate_left 1;(focus (refine aM F F ?_;(refine jF fun _=>?_);refine jK (aa 9 61) ?_;refine jA 1 F ?_;(refine ah F ?_);refine jK (aa 9 63) ?_;refine jA 6 F ?_;((refine bY F F F F F F F F F ?_ fun _ _=>?_;focus omega));refine jK (aa 9 127) ?_;refine jW 1 [7] (aa 9 255) ?_;refine jA 8 F ?_;(refine jD F F F ?_);refine jK (aa 9 511) ?_;refine jQ ?_));rotate_left 1));rotate_left 2)
   all_goals
    rename_i y1 yc
    have hrow : aE ck cs ++ [U8 (c1.what : Nat),S c1.text,I c1.tag,c1.sl] = aE ck (cs ++ [c1]):=(co ck cs c1).symm
    have hr2 : V.reps G1 (vs ++ [u1]) (cs ++ [c1]):=ip hrep (cd hle hreps)
    have hvl : (vs ++ [u1]).length = vs.length + 1:=by simp
    have htu : V.tots (vs ++ [u1]) = V.tots vs + u1.tot:=by simp [eY,V.tots]
    have hgl:=hgq.trans hle
    obtain ⟨hPl,hP0,hP1⟩:=hP
    rw [hrow]
    cases b1 with
    | true =>
     obtain ⟨hno,hto⟩:=hP1 rfl
     have hno : rd (ao qs) n k t = none:=by
      rcases hno with h | h
      ·cases h
      ·exact h
     have hit2 : bh (rd (ao qs) n k) m t vs = none:=iR (.inl hno)
     have cx_tm:=gH (G:=G1) (r:=r) (sc:=sc) (s:=t1) (l:=[44]) (b:=true) ⟨oM,by simp⟩
     have cx_wb:=dx (G:=G1) (r:=r) (sc:=sc) (s:=t1) (l:=[93]) (b:=true) ⟨oM,by simp⟩
     rw [gm,iE] at cx_tm cx_wb
     repeat' (first | refine jR ?_ | (refine jo ?_;first | refine jD F F F ?_ | refine jC F F F ?_ | refine ah F ?_ | refine aB F ?_ | refine jV (av F) ?_ | (refine af F F F cx_wb F ?_;rintro _ _ rfl;dsimp only [zA,fA]) | (refine af F F F cx_tm F ?_;rintro _ _ ⟨rfl,rfl⟩;dsimp only [zA,fA])) | refine ac F F ?_ | refine cB F (fun _=>?_) (fun _=>?_))
     all_goals (refine Nx.sealS (v:=.slice (some ⟨y1,0,none⟩) (vs.length + 1) yc) fun G2 hG2 hsl=>?_)
     all_goals refine aP (vs:=[_]) F ⟨aF F F F F,trivial⟩ F sB ⟨hgl.trans hG2,.nd 91 [] 0 (vs ++ [u1]),⟨91,[],0,some ⟨y1,0,none⟩,vs.length + 1,yc⟩,t1,true,F,c0 dC dC (fun h=>absurd h dC) hvl.symm (by rw [List.length_append,List.length_singleton,hcl];exact hsl) (cd hG2 hr2),F,by simp only [List.length_cons];omega,fun h=>(by cases h),fun _=>⟨.inr (by rw [hR,hmore,hit,hit2];rfl),by rw [b6,htu];simp only [List.length_cons,List.length_nil];omega⟩⟩
    | false =>
     obtain ⟨_,hfs⟩:=hP0 rfl
     have htot:=jc n k t _ hfs
     dsimp only at htot
     have hup:=iU u1
     have cx_tm:=gH (G:=G1) (r:=r) (sc:=sc) (s:=t1) (l:=[44]) (b:=false) ⟨oM,by simp⟩
     cases ht3 : cU [44] t1 false with
     | true =>
      obtain ⟨t2,rfl⟩:=fe.1 ht3
      rw [ht3,fX] at cx_tm
      have hit2:=iQ (m:=m) (vs:=vs) hfs oM
      rw [if_pos (show (44 : UInt8).toNat = 44 from rfl)] at hit2
      simp only [List.length_cons] at htot hPl
      have hlt : t2.length < m - 1:=oM
      repeat' (first | refine jR ?_ | (refine jo ?_;(refine af F F F cx_tm F ?_;rintro _ _ ⟨rfl,rfl⟩;dsimp only [zA,fA])) | refine ad F F ?_)
      exact aY (vs ++ [u1],cs ++ [c1],some ⟨y1,0,none⟩,yc,t2,m - 1,G1) ⟨⟨hr2,hgl⟩,⟨by rw [hit,hit2],hlt⟩,by dsimp only;omega,by dsimp only;omega⟩ (by dsimp only;omega) tU rfl (by rw [hvl];repeat (first | exact List.Sublist.refl _ | apply List.Sublist.cons_cons | apply List.Sublist.cons))
     | false =>
      rw [ht3,gc ht3] at cx_tm
      have cx_wb:=dx (G:=G1) (r:=r) (sc:=sc) (s:=t1) (l:=[93]) (b:=false) ⟨oM,by simp⟩
      cases ht4 : cU [93] t1 false with
      | true =>
       obtain ⟨t2,rfl⟩:=fe.1 ht4
       rw [ht4,fX,Bool.not_true] at cx_wb
       have hit2:=iQ (m:=m) (vs:=vs) hfs oM
       rw [if_neg (show ¬ (93 : UInt8).toNat = 44 by decide),if_pos (show (93 : UInt8).toNat = 93 from rfl)] at hit2
       simp only [List.length_cons] at htot hPl
       by_cases h20 : vs.length + 1 ≤ 20
       ·repeat' (first | refine jR ?_ | (refine jo ?_;first | refine jC F F F ?_ | refine ah F ?_ | refine aB F ?_ | refine jV (av F) ?_ | (refine af F F F cx_wb F ?_;rintro _ _ rfl;dsimp only [zA,fA]) | (refine af F F F cx_tm F ?_;rintro _ _ ⟨rfl,rfl⟩;dsimp only [zA,fA])) | refine ac F F ?_ | refine ad F (aC oM) ?_)
        refine Nx.sealS (v:=.slice (some ⟨y1,0,none⟩) (vs.length + 1) yc) fun G2 hG2 hsl=>?_
        refine aP (vs:=[_]) F ⟨aF F F F F,trivial⟩ F sB ⟨hgl.trans hG2,.nd 91 [] 0 (vs ++ [u1]),⟨91,[],0,some ⟨y1,0,none⟩,vs.length + 1,yc⟩,t2,false,F,c0 dC dC (fun h=>absurd h dC) hvl.symm (by rw [List.length_append,List.length_singleton,hcl];exact hsl) (cd hG2 hr2),F,by simp only [List.length_cons];omega,fun _=>⟨rfl,by rw [hR,hmore,hit,hit2];dsimp only;rw [if_pos (by simp;omega)];rfl⟩,fun h=>(by cases h)⟩
       ·repeat' (first | refine jR ?_ | (refine jo ?_;first | refine jD F F F ?_ | refine jC F F F ?_ | refine ah F ?_ | refine aB F ?_ | refine jV (av F) ?_ | (refine af F F F cx_wb F ?_;rintro _ _ rfl;dsimp only [zA,fA]) | (refine af F F F cx_tm F ?_;rintro _ _ ⟨rfl,rfl⟩;dsimp only [zA,fA])) | (refine ac F (by first | rfl | (refine decide_eq_true ?_;(omega))) ?_))
        refine Nx.sealS (v:=.slice (some ⟨y1,0,none⟩) (vs.length + 1) yc) fun G2 hG2 hsl=>?_
        refine aP (vs:=[_]) F ⟨aF F F F F,trivial⟩ F sB ⟨hgl.trans hG2,.nd 91 [] 0 (vs ++ [u1]),⟨91,[],0,some ⟨y1,0,none⟩,vs.length + 1,yc⟩,t2,true,F,c0 dC dC (fun h=>absurd h dC) hvl.symm (by rw [List.length_append,List.length_singleton,hcl];exact hsl) (cd hG2 hr2),F,by simp only [List.length_cons];omega,fun h=>(by cases h),fun _=>⟨.inr (by rw [hR,hmore,hit,hit2];dsimp only;rw [if_neg (by simp;omega)];rfl),by rw [b6,htu];simp only [List.length_cons,List.length_nil];omega⟩⟩
      | false =>
       rw [ht4,gc ht4,Bool.not_false] at cx_wb
       have hit2 : bh (rd (ao qs) n k) m t vs = none:=by
        cases t1 with
        | nil=>exact iR (.inr ⟨u1,hfs⟩)
        | cons d t2 =>
         rw [iQ hfs oM,if_neg,if_neg]
         ·intro h93
          have : cU [93] (d :: t2) false = true:=fe.2 ⟨t2,by rw [show d = 93 from UInt8.toNat_inj.1 h93]⟩
          rw [this] at ht4;cases ht4
         ·intro h44
          have : cU [44] (d :: t2) false = true:=fe.2 ⟨t2,by rw [show d = 44 from UInt8.toNat_inj.1 h44]⟩
          rw [this] at ht3;cases ht3
       repeat' (first | refine jR ?_ | (refine jo ?_;first | refine jD F F F ?_ | refine jC F F F ?_ | refine ah F ?_ | refine aB F ?_ | refine jV (av F) ?_ | (refine af F F F cx_wb F ?_;rintro _ _ rfl;dsimp only [zA,fA]) | (refine af F F F cx_tm F ?_;rintro _ _ ⟨rfl,rfl⟩;dsimp only [zA,fA])) | refine ac F F ?_ | refine cB F (fun _=>?_) (fun _=>?_))
       all_goals (refine Nx.sealS (v:=.slice (some ⟨y1,0,none⟩) (vs.length + 1) yc) fun G2 hG2 hsl=>?_)
       all_goals refine aP (vs:=[_]) F ⟨aF F F F F,trivial⟩ F sB ⟨hgl.trans hG2,.nd 91 [] 0 (vs ++ [u1]),⟨91,[],0,some ⟨y1,0,none⟩,vs.length + 1,yc⟩,t1,true,F,c0 dC dC (fun h=>absurd h dC) hvl.symm (by rw [List.length_append,List.length_singleton,hcl];exact hsl) (cd hG2 hr2),F,by simp only [List.length_cons];omega,fun h=>(by cases h),fun _=>⟨.inr (by rw [hR,hmore,hit,hit2];rfl),by rw [b6,htu];simp only [List.length_cons,List.length_nil];omega⟩⟩
def zVC : VC:=⟨0,[],0,none,0,0⟩
def abs (t : Ty) (bf of : Nat) (f : ac8 → ac8 → Option (V × ac8)) (r sc : Nat) (s : ac8) (b : Bool) (v : Value) (G' : Gh) (L' : List Own) : Prop :=
  ∃ s' b',L' = [dR r sc s' b'] ∧ s'.length ≤ s.length ∧
    ((v = Tu [Ag (ck zVC),.pointer none] ∧ b' = true ∧ (b = true ∨ aU f t s = none)) ∨
     (∃ j u c,j < t.fields.length ∧ v = Tu [Ag (ck c),Pt bf (of + j * 6)] ∧ V.rep G' (.nd 61 [] (ae t.fields j).tag [u]) c ∧ b = false ∧ u.tot + 100 * s'.length + 100 ≤ 100 * s.length ∧
       (b' = false → aU f t s = some ((ae t.fields j,u),s')) ∧ (b' = true → aU f t s = none)))
abbrev zP : Value:=Ag [U8 0,S [],I 0,aI]
theorem e8 {f : ac8 → ac8 → Option (V × ac8)} {t : Ty} {s : ac8} (h : aR (s.takeWhile a8) 200 = none ∨ ∃ m,aR (s.takeWhile a8) 200 = some m ∧ bR t.fields m = none) : aU f t s = none:=by
 unfold aU cm
 rcases h with h | ⟨m,h,h2⟩
 ·rw [h];rfl
 ·rw [h];dsimp only [Option.map_some];rw [h2]
theorem gG {f : ac8 → ac8 → Option (V × ac8)} {t : Ty} {s : ac8} {m : Int} (h : aR (s.takeWhile a8) 200 = some m) (h2 : ∀ s2,s.dropWhile a8 ≠ 61 :: s2) : aU f t s = none:=by
 unfold aU cm
 rw [h];dsimp only [Option.map_some]
 cases bR t.fields m with
 | none=>rfl
 | some d =>
  dsimp only
  cases hd : s.dropWhile a8 with
  | nil=>rfl
  | cons c r =>
   dsimp only
   rw [if_neg]
   intro hc
   exact h2 r (by rw [hd,show c = 61 from UInt8.toNat_inj.1 hc])
theorem lx {f : ac8 → ac8 → Option (V × ac8)} {t : Ty} {s s2 : ac8} {m : Int} {d : Fld} (h : aR (s.takeWhile a8) 200 = some m) (hd : bR t.fields m = some d) (h2 : s.dropWhile a8 = 61 :: s2) : aU f t s = (f d.kind s2).map fun x=>((d,x.1),x.2):=by
 unfold aU cm
 rw [h];dsimp only [Option.map_some];rw [hd,h2];dsimp only;rw [if_pos (show (61 : UInt8).toNat = 61 from rfl)]
theorem ou {n r sc bt bf of cf : Nat} {qs : List cF} {t : Ty} {ln s : ac8} {b : Bool} {fv : Value} (hV : mS n sc qs) (hS : ScI G sc qs) (hw : TyW t) (hkf : ∀ d ∈ t.fields,aO (ao qs) d.kind = true)
  (h1 : b7 G bt 0 [U8 t.sort,S t.name,fv,S ln]) (h2 : be G fv 6 t.fields.length (aE jl t.fields)) (hfv : t.fields ≠ [] → fv = .slice (some ⟨bf,of,none⟩) t.fields.length cf ∧ b7 G bf of (aE jl t.fields)) (hs : s.length ≤ n ∧ s.length ≤ 1000) :
  dq ac7 191 [Pt r 0,Pt bt 0] G [dR r sc s b] (abs t bf of (rd (ao qs) n) r sc s b):=by
 have hwl:=dK a8 s
 have hfl:=hw.len
 have cx_nu:=lK (G:=G) (r:=r) (sc:=sc) (s:=s) (b:=b) (top:=200) oM
 have cx_wa:=dx (G:=G) (r:=r) (sc:=sc) (s:=s.dropWhile a8) (l:=[61]) (b:=(b || (aR (s.takeWhile a8) 200).isNone)) ⟨oM,by simp⟩
 have htl:=i7 (l:=[61]) (s:=s.dropWhile a8) (b:=(b || (aR (s.takeWhile a8) 200).isNone))
 have hleft : ∀ (s' : ac8),s'.length ≤ s.length → (b = true ∨ aU (rd (ao qs) n) t s = none) → ∀ G',abs t bf of (rd (ao qs) n) r sc s b (Tu [Ag (ck zVC),.pointer none]) G' [dR r sc s' true]:=fun s' h3 h4 G'=>⟨s',true,rfl,h3,.inl ⟨rfl,rfl,h4⟩⟩
 refine bL [(0,_),(1,_)] Tryz.func191 kR Tryz.ntmps191 F F tU fun B hB hW=>?_
 repeat' (first | refine jR ?_ | (refine jo ?_;first | refine jL fun _=>?_ | (refine af F F F cx_nu F ?_;rintro _ _ ⟨n1,rfl,⟨hn0,hn1⟩,hnum,rfl⟩;dsimp only [zA,fA])))
 rename_i x4
 cases hft : bR t.fields n1 with
 | none =>
  have hno : aU (rd (ao qs) n) t s = none:=by
   cases hm : aR (s.takeWhile a8) 200 with
   | none=>exact e8 (.inl hm)
   | some m=>exact e8 (.inr ⟨m,hm,by rw [← hnum m hm];exact hft⟩)
  have cx_fld:=d6 h1 h2 oM hft
  repeat' (first | refine jR ?_ | (refine jo ?_;first | refine jV (cC F F) ?_ | refine aG F ?_ | refine jD F F F ?_ | refine jC F F F ?_ | refine jV (al F F) ?_ | refine ab F F F cx_fld F ?_ | (refine af F F F cx_wa F ?_;rintro _ _ rfl;dsimp only [zA,fA])) | refine ax F F F ?_ | refine ac F F ?_)
  refine aP (vs:=[_,_]) F ⟨aF F F F F,F,trivial⟩ F sB ⟨Gh.le.refl _,hleft _ oM (.inr hno) _⟩
 | some d =>
  obtain ⟨j,hj,hjn,hjt,hjd⟩:=eA hft
  subst hjd
  obtain ⟨rfl,hsf⟩:=hfv (fun h=>by rw [h] at hj;simp at hj)
  have cx_fld:=eW h1 hsf oM hj hjn hjt
  cases ht : cU [61] (s.dropWhile a8) (b || (aR (s.takeWhile a8) 200).isNone) with
  | false =>
   rw [ht,Bool.not_false] at cx_wa
   have hno : b = true ∨ aU (rd (ao qs) n) t s = none:=by
    cases b with
    | true=>exact .inl F
    | false =>
     right
     cases hm : aR (s.takeWhile a8) 200 with
     | none=>exact e8 (.inl hm)
     | some m =>
      refine gG hm (fun s2 h=>?_)
      rw [hm,h] at ht
      have : cU [61] (61 :: s2) false = true:=fe.2 ⟨s2,rfl⟩
      rw [show (false || (some m).isNone) = false from rfl,this] at ht;cases ht
   repeat' (first | refine jR ?_ | (refine jo ?_;first | refine jV (cC F F) ?_ | refine ah F ?_ | refine ar F ?_ | refine jD F F F ?_ | refine jC F F F ?_ | refine jV (al F F) ?_ | refine ab F F F cx_fld F ?_ | (refine af F F F cx_wa F ?_;rintro _ _ rfl;dsimp only [zA,fA])) | refine ak F F F ?_ | refine ac F F ?_)
   refine aP (vs:=[_,_]) F ⟨aF F F F F,F,trivial⟩ F sB ⟨Gh.le.refl _,hleft _ oM hno _⟩
  | true =>
   have hb0 : (b || (aR (s.takeWhile a8) 200).isNone) = false:=by
    cases hb : (b || (aR (s.takeWhile a8) 200).isNone) with
    | false=>rfl
    | true=>rw [hb,gm] at ht;cases ht
   rw [hb0] at ht cx_wa htl
   rw [hb0]
   simp only [Bool.or_eq_false_iff] at hb0
   obtain ⟨hb,hnn⟩:=hb0
   obtain ⟨m,hm⟩ : ∃ m,aR (s.takeWhile a8) 200 = some m:=by
    cases hm : aR (s.takeWhile a8) 200 with
    | none=>rw [hm] at hnn;cases hnn
    | some m=>exact ⟨m,F⟩
   obtain ⟨s2,hs2⟩:=fe.1 ht
   rw [ht,hs2,fX,Bool.not_true] at cx_wa
   have hdig : 1 ≤ (s.takeWhile a8).length:=by
    have h3:=(ee hm).2.1
    rw [h3];exact g8 m
   rw [hs2,List.length_cons] at hwl
   have hfd : ∀ x,aU (rd (ao qs) n) t s = some x ↔ (rd (ao qs) n (ae t.fields j).kind s2).map (fun x=>((ae t.fields j,x.1),x.2)) = some x:=fun x=>by
    rw [lx hm (d:=ae t.fields j) (by rw [← hnum m hm,hft]) hs2]
   have hkd:=hkf (ae t.fields j) (bP hj)
   have cx_vl:=hV G r (ae t.fields j).kind s2 false hS hkd oM oM
   rw [hs2]
   repeat' (first | refine jR ?_ | (refine jo ?_;first | refine jL fun _=>?_ | refine jV (cC F F) ?_ | refine ah F ?_ | (refine jV (iu F F aS ?_ F F) ?_;focus omega) | refine ar F ?_ | refine jC F F F ?_ | refine ab F F F cx_fld F ?_ | (refine af F F F cx_wa F ?_;rintro _ _ rfl;dsimp only [zA,fA]) | (refine cI F F F cx_vl F ?_;rintro _ G1 _ hle ⟨u1,c1,t1,b1,rfl,hrep,rfl,hP⟩;dsimp only [zA,fA];skip)) | refine ak F F F ?_ | refine ad F F ?_)
   have hsf1:=hsf.mono hle
   have htag:=(hw.fld _ (bP hj)).tag
   repeat' (first | refine jR ?_ | (refine aj (dY (id:=7) (tt:=4) F ai ?_);refine jW 6 [0,1,2,7] (aa 10 135) ?_;((refine jG (aa 10 143) 3 F (bO F F aS ?_ F F) ?_;focus omega));(refine jG (aa 10 159) 4 F (bD F F F F) ?_);refine jA 5 F ?_;(refine jF fun _=>?_);refine jK (aa 10 191) ?_;(refine jG (aa 10 255) 6 F (al F F) ?_);refine jA 8 F ?_;(refine jC F F F ?_);refine jK (aa 10 511) ?_;refine jW 0 [9] (aa 10 1023) ?_;refine jQ ?_))
   rename_i y
   refine Nx.sealC (b:=y) fun G2 hG2 hsy=>?_
   have hsl : be G2 (.slice (some ⟨y,0,none⟩) 1 1) 4 ([c1] : List VC).length (aE ck [c1]):=⟨rfl,.inr ⟨y,0,1,rfl,Nat.le_refl _,hsy⟩⟩
   have hrp : V.rep G2 (.nd 61 [] (ae t.fields j).tag [u1]) ⟨61,[],(ae t.fields j).tag,some ⟨y,0,none⟩,1,1⟩:=c0 dC oM (fun _=>rfl) rfl hsl ⟨c1,[],rfl,ge hG2 hrep,rfl⟩
   obtain ⟨hPl,hP0,hP1⟩:=hP
   have hf2:=fun x=>hfd x
   cases b1 with
   | false =>
    obtain ⟨_,hgood⟩:=hP0 rfl
    have htot:=jc n _ _ _ hgood
    dsimp only at htot
    refine aP (vs:=[_,_]) F ⟨aF F F F F,F,trivial⟩ F sB ⟨hle.trans hG2,t1,false,F,oM,.inr ⟨j,u1,⟨61,[],(ae t.fields j).tag,some ⟨y,0,none⟩,1,1⟩,hj,F,hrp,hb,oM,fun _=>(hfd _).2 (by rw [hgood];rfl),fun h=>(by cases h)⟩⟩
   | true =>
    obtain ⟨hbad,hto⟩:=hP1 rfl
    have hbad2 : rd (ao qs) n (ae t.fields j).kind s2 = none:=by
     rcases hbad with h | h
     ·cases h
     ·exact h
    have hno : aU (rd (ao qs) n) t s = none:=by
     cases hx : aU (rd (ao qs) n) t s with
     | none=>rfl
     | some x=>have:=(hfd x).1 hx;rw [hbad2] at this;cases this
    refine aP (vs:=[_,_]) F ⟨aF F F F F,F,trivial⟩ F sB ⟨hle.trans hG2,t1,true,F,oM,.inr ⟨j,u1,⟨61,[],(ae t.fields j).tag,some ⟨y,0,none⟩,1,1⟩,hj,F,hrp,hb,oM,fun h=>(by cases h),fun _=>hno⟩⟩
theorem iM {c : UInt8} {s : ac8} (h : cU [c] s false = false) : ∀ s2,s ≠ c :: s2:=fun s2 e=>by
 have : cU [c] s false = true:=fe.2 ⟨s2,e⟩
 rw [this] at h;cases h
theorem nO {ts : List Ty} {f : ac8 → ac8 → Option (V × ac8)} {t : Ty} {s : ac8} {c : UInt8} (hc : t.sort = 82 ∧ c = 123 ∨ t.sort = 69 ∧ c = 35 ∨ (t.sort ≠ 82 ∧ t.sort ≠ 69) ∧ c = 60) (h : ∀ s2,s ≠ c :: s2) : a9 ts f t s = none:=by
 cases s with
 | nil=>rfl
 | cons d r =>
  have hd : d ≠ c:=fun e=>h r (by rw [e])
  unfold a9
  dsimp only
  have hn : ∀ k : Nat,k < 256 → c = UInt8.ofNat k → ¬ d.toNat = k:=fun k hk e h2=>hd (by rw [e,bm h2 hk])
  rcases hc with ⟨h1,h2⟩ | ⟨h1,h2⟩ | ⟨⟨h1,h1'⟩,h2⟩
  ·rw [if_pos h1,if_neg (hn 123 dC h2)]
  ·rw [if_neg oM,if_pos h1,if_neg (hn 35 dC h2)]
  ·rw [if_neg h1,if_neg h1',if_neg (hn 60 dC h2)]
theorem ace {n r sc bt : Nat} {qs : List cF} {t : Ty} {s : ac8} {b : Bool} (hT : iD G bt t) (hw : TyW t) (hso : t.sort = 69) (hs : s.length ≤ n ∧ s.length ≤ 1000) :
  dq ac7 171 [Pt r 0,Pt bt 0] G [dR r sc s b] (ia (a9 (ao qs) (rd (ao qs) n) t) r sc s b):=by
 obtain ⟨fv,ln,h1,h2⟩:=hT
 have hfl:=hw.len
 have hso' : (t.sort : Int) = 69:=oM
 have cx_wa:=dx (G:=G) (r:=r) (sc:=sc) (s:=s) (l:=[35]) (b:=b) ⟨oM,by simp⟩
 cases ht : cU [35] s b with
 | false =>
  rw [ht,gc ht,Bool.not_false] at cx_wa
  have hno : b = true ∨ a9 (ao qs) (rd (ao qs) n) t s = none:=by
   cases b with
   | true=>exact .inl F
   | false=>exact .inr (nO (.inr (.inl ⟨hso,F⟩)) (iM ht))
  have cx_nu:=lK (G:=G) (r:=r) (sc:=sc) (s:=s) (b:=true) (top:=200) oM
  rw [Bool.true_or] at cx_nu
  have hwl:=dK a8 s
  refine bL [(0,_),(1,_)] Tryz.func171 kR Tryz.ntmps171 F F tU fun B hB hW=>?_
  repeat' (first | refine jR ?_ | (refine jo ?_;first | refine jL fun _=>?_ | refine ah F ?_ | refine jV (aL F F aS F F) ?_ | refine jV (al F F) ?_ | refine jD F F F ?_ | refine jC F F F ?_ | (refine af F F F cx_wa F ?_;rintro _ _ rfl;dsimp only [zA,fA]) | (refine af F F F cx_nu F ?_;rintro _ _ ⟨n1,rfl,⟨hn0,hn1⟩,hnum,rfl⟩;dsimp only [zA,fA])) | refine ac F (ay ‹_›) ?_)
  cases hft : bR t.fields n1 with
  | none =>
   have cx_fld:=d6 h1 h2 oM hft
   repeat' (first | refine jR ?_ | (refine jo ?_;first | refine aB F ?_ | refine jD F F F ?_ | refine jC F F F ?_ | refine jV (cC F F) ?_ | refine ab F F F cx_fld F ?_) | refine ac F F ?_)
   refine aP (vs:=[_]) F ⟨aF F F F F,trivial⟩ F sB ⟨Gh.le.refl _,.nd 69 [] n1 [],⟨69,[],n1,none,0,0⟩,s.dropWhile a8,true,by rw [hso];rfl,bq dC ⟨hn0,hn1⟩,rfl,oM,fun h=>(by cases h),fun _=>⟨hno,by simp only [V.tot,V.tots,List.length_nil];omega⟩⟩
  | some d =>
   obtain ⟨j,hj,hjn,hjt,hjd⟩:=eA hft
   obtain ⟨bf,of,cf,rfl,hsf⟩:=h2.expl oM
   have cx_fld:=eW h1 hsf oM hj hjn hjt
   repeat' (first | refine jR ?_ | (refine jo ?_;first | refine aB F ?_ | refine jC F F F ?_ | refine jV (cC F F) ?_ | refine ab F F F cx_fld F ?_) | refine ad F F ?_)
   refine aP (vs:=[_]) F ⟨aF F F F F,trivial⟩ F sB ⟨Gh.le.refl _,.nd 69 [] n1 [],⟨69,[],n1,none,0,0⟩,s.dropWhile a8,true,by rw [hso];rfl,bq dC ⟨hn0,hn1⟩,rfl,oM,fun h=>(by cases h),fun _=>⟨hno,by simp only [V.tot,V.tots,List.length_nil];omega⟩⟩
 | true =>
  have hb : b = false:=by cases b with | true=>rw [gm] at ht;cases ht | false=>rfl
  subst hb
  obtain ⟨s1,rfl⟩:=fe.1 ht
  rw [ht,fX,Bool.not_true] at cx_wa
  simp only [List.length_cons] at hs
  have cx_nu:=lK (G:=G) (r:=r) (sc:=sc) (s:=s1) (b:=false) (top:=200) oM
  rw [Bool.false_or] at cx_nu
  have hwl:=dK a8 s1
  have hRT : a9 (ao qs) (rd (ao qs) n) t (35 :: s1) = match cm 200 s1 with
    | none=>none
    | some (n,r)=>if (bR t.fields n).isSome = true then some (.nd 69 [] n [],r) else none:=by
   unfold a9
   dsimp only
   rw [if_neg oM,if_pos hso,if_pos (show (35 : UInt8).toNat = 35 from rfl)]
   cases cm 200 s1 <;> rfl
  cases hnu : aR (s1.takeWhile a8) 200 with
  | none =>
   have hno : a9 (ao qs) (rd (ao qs) n) t (35 :: s1) = none:=by rw [hRT];unfold cm;rw [hnu];rfl
   rw [hnu] at cx_nu
   refine bL [(0,_),(1,_)] Tryz.func171 kR Tryz.ntmps171 F F tU fun B hB hW=>?_
   repeat' (first | refine jR ?_ | (refine jo ?_;first | refine jL fun _=>?_ | refine ah F ?_ | refine jV (aL F F aS F F) ?_ | refine jV (al F F) ?_ | refine jD F F F ?_ | refine jC F F F ?_ | (refine af F F F cx_wa F ?_;rintro _ _ rfl;dsimp only [zA,fA]) | (refine af F F F cx_nu F ?_;rintro _ _ ⟨n1,rfl,⟨hn0,hn1⟩,hnum,rfl⟩;dsimp only [zA,fA])) | refine ac F (ay ‹_›) ?_)
   cases hft : bR t.fields n1 with
   | none =>
    have cx_fld:=d6 h1 h2 oM hft
    repeat' (first | refine jR ?_ | (refine jo ?_;first | refine aB F ?_ | refine jD F F F ?_ | refine jC F F F ?_ | refine jV (cC F F) ?_ | refine ab F F F cx_fld F ?_) | refine ac F F ?_)
    refine aP (vs:=[_]) F ⟨aF F F F F,trivial⟩ F sB ⟨Gh.le.refl _,.nd 69 [] n1 [],⟨69,[],n1,none,0,0⟩,s1.dropWhile a8,true,by rw [hso];rfl,bq dC ⟨hn0,hn1⟩,rfl,by simp only [List.length_cons];omega,fun h=>(by cases h),fun _=>⟨.inr hno,by simp only [V.tot,V.tots,List.length_nil,List.length_cons];omega⟩⟩
   | some d =>
    obtain ⟨j,hj,hjn,hjt,hjd⟩:=eA hft
    obtain ⟨bf,of,cf,rfl,hsf⟩:=h2.expl oM
    have cx_fld:=eW h1 hsf oM hj hjn hjt
    repeat' (first | refine jR ?_ | (refine jo ?_;first | refine aB F ?_ | refine jC F F F ?_ | refine jV (cC F F) ?_ | refine ab F F F cx_fld F ?_) | refine ad F F ?_)
    refine aP (vs:=[_]) F ⟨aF F F F F,trivial⟩ F sB ⟨Gh.le.refl _,.nd 69 [] n1 [],⟨69,[],n1,none,0,0⟩,s1.dropWhile a8,true,by rw [hso];rfl,bq dC ⟨hn0,hn1⟩,rfl,by simp only [List.length_cons];omega,fun h=>(by cases h),fun _=>⟨.inr hno,by simp only [V.tot,V.tots,List.length_nil,List.length_cons];omega⟩⟩
  | some m =>
   rw [hnu] at cx_nu
   have hRT2 : a9 (ao qs) (rd (ao qs) n) t (35 :: s1) = if (bR t.fields m).isSome = true then some (.nd 69 [] m [],s1.dropWhile a8) else none:=by rw [hRT];unfold cm;rw [hnu];rfl
   refine bL [(0,_),(1,_)] Tryz.func171 kR Tryz.ntmps171 F F tU fun B hB hW=>?_
   repeat' (first | refine jR ?_ | (refine jo ?_;first | refine jL fun _=>?_ | refine ah F ?_ | refine jV (aL F F aS F F) ?_ | refine jV (al F F) ?_ | refine jD F F F ?_ | refine jC F F F ?_ | (refine af F F F cx_wa F ?_;rintro _ _ rfl;dsimp only [zA,fA]) | (refine af F F F cx_nu F ?_;rintro _ _ ⟨n1,rfl,⟨hn0,hn1⟩,hnum,rfl⟩;dsimp only [zA,fA])) | refine ac F (ay ‹_›) ?_)
   obtain rfl : n1 = m:=hnum m rfl
   cases hft : bR t.fields n1 with
   | none =>
    rw [hft] at hRT2
    have cx_fld:=d6 h1 h2 oM hft
    repeat' (first | refine jR ?_ | (refine jo ?_;first | refine aB F ?_ | refine jD F F F ?_ | refine jC F F F ?_ | refine jV (cC F F) ?_ | refine ab F F F cx_fld F ?_) | refine ac F F ?_)
    refine aP (vs:=[_]) F ⟨aF F F F F,trivial⟩ F sB ⟨Gh.le.refl _,.nd 69 [] n1 [],⟨69,[],n1,none,0,0⟩,s1.dropWhile a8,true,by rw [hso];rfl,bq dC ⟨hn0,hn1⟩,rfl,by simp only [List.length_cons];omega,fun h=>(by cases h),fun _=>⟨.inr hRT2,by simp only [V.tot,V.tots,List.length_nil,List.length_cons];omega⟩⟩
   | some d =>
    rw [hft] at hRT2
    obtain ⟨j,hj,hjn,hjt,hjd⟩:=eA hft
    obtain ⟨bf,of,cf,rfl,hsf⟩:=h2.expl oM
    have cx_fld:=eW h1 hsf oM hj hjn hjt
    repeat' (first | refine jR ?_ | (refine jo ?_;first | refine aB F ?_ | refine jC F F F ?_ | refine jV (cC F F) ?_ | refine ab F F F cx_fld F ?_) | refine ad F F ?_)
    refine aP (vs:=[_]) F ⟨aF F F F F,trivial⟩ F sB ⟨Gh.le.refl _,.nd 69 [] n1 [],⟨69,[],n1,none,0,0⟩,s1.dropWhile a8,false,by rw [hso];rfl,bq dC ⟨hn0,hn1⟩,rfl,by simp only [List.length_cons];omega,fun _=>⟨rfl,hRT2⟩,fun h=>(by cases h)⟩
theorem tw {G : Gh} {t : Int} {u : V} {c : VC} (h : V.rep G (.nd 61 [] t [u]) c) : ∃ (b o k : Nat) (d : VC),c = ⟨61,[],t,some ⟨b,o,none⟩,1,k⟩ ∧ (0 ≤ t ∧ t ≤ 999999) ∧ b7 G b o (aE ck [d]) ∧ V.rep G u d ∧ V.rep G (.nd 85 [] t [u]) ⟨85,[],t,some ⟨b,o,none⟩,1,k⟩:=by
 obtain ⟨a,k,cs,rfl,_,ht,_,hcl,hsl,hks⟩:=mY h
 rw [V.reps] at hks
 obtain ⟨d,cs',rfl,hd,hcs⟩:=hks
 rw [V.reps] at hcs
 subst hcs
 obtain ⟨b,o,cap,e,hs⟩:=hsl.expl (by simp)
 simp only [Value.slice.injEq] at e
 obtain ⟨rfl,-,rfl⟩:=e
 exact ⟨b,o,k,d,F,ht,hs,hd,c0 dC ht (fun h=>absurd h dC) F hsl ⟨d,[],F,hd,F⟩⟩
theorem acb {n r sc bt : Nat} {qs : List cF} {t : Ty} {s : ac8} {b : Bool} (hV : mS n sc qs) (hS : ScI G sc qs) (hkf : ∀ d ∈ t.fields,aO (ao qs) d.kind = true) (hT : iD G bt t) (hw : TyW t) (hso : t.sort = 85) (hs : s.length ≤ n ∧ s.length ≤ 1000) :
  dq ac7 171 [Pt r 0,Pt bt 0] G [dR r sc s b] (ia (a9 (ao qs) (rd (ao qs) n) t) r sc s b):=by
 obtain ⟨fv,ln,h1,h2⟩:=hT
 have hfl:=hw.len
 have hso' : (t.sort : Int) = 85:=oM
 have hne : 0 < t.fields.length:=List.length_pos_iff.2 (hw.ne oM)
 obtain ⟨bf,of,cf,rfl,hsf⟩:=h2.expl hne
 have cx_wa:=dx (G:=G) (r:=r) (sc:=sc) (s:=s) (l:=[60]) (b:=b) ⟨oM,by simp⟩
 cases ht : cU [60] s b with
 | false =>
  rw [ht,gc ht,Bool.not_false] at cx_wa
  have hno : b = true ∨ a9 (ao qs) (rd (ao qs) n) t s = none:=by
   cases b with
   | true=>exact .inl F
   | false=>exact .inr (nO (.inr (.inr ⟨oM,F⟩)) (iM ht))
  have cx_fd:=ou (s:=s) (b:=true) (r:=r) hV hS hw hkf h1 h2 (fun _=>⟨rfl,hsf⟩) hs
  refine bL [(0,_),(1,_)] Tryz.func171 kR Tryz.ntmps171 F F tU fun B hB hW=>?_
  repeat' (first | refine jR ?_ | (refine jo ?_;first | refine jL fun _=>?_ | refine jV (aL F F aS F F) ?_ | refine jV (al F F) ?_ | refine jC F F F ?_ | (refine af F F F cx_wa F ?_;rintro _ _ rfl;dsimp only [zA,fA]) | (refine cI F F F cx_fd F ?_;rintro _ G1 _ hle ⟨t1,b1,rfl,htl,⟨rfl,rfl,hF⟩ | ⟨j,u1,c1,hj,rfl,hrep,hb0,hto,hg,hbd⟩⟩ <;> (dsimp only [zA,fA];skip))) | refine ac F (ay ‹_›) ?_ | refine ad F (aC oM) ?_)
  ·have cx_wb:=dx (G:=G1) (r:=r) (sc:=sc) (s:=t1) (l:=[62]) (b:=true) ⟨oM,by simp⟩
   rw [gm,iE,Bool.not_false] at cx_wb
   repeat' (first | refine jR ?_ | (refine jo ?_;first | refine aB F ?_ | refine jC F F F ?_ | refine jV (gE F F) ?_ | (refine af F F F cx_wb F ?_;rintro _ _ rfl;dsimp only [zA,fA])) | refine ad F F ?_)
   refine aP (vs:=[_]) F ⟨aF F F F F,trivial⟩ F sB ⟨hle,.nd 85 [] 0 [],⟨85,[],0,none,0,0⟩,t1,true,by rw [hso];rfl,bq dC dC,rfl,oM,fun h=>(by cases h),fun _=>⟨hno,by simp only [V.tot,V.tots,List.length_nil];omega⟩⟩
  ·cases hb0
 | true =>
  have hb : b = false:=by cases b with | true=>rw [gm] at ht;cases ht | false=>rfl
  subst hb
  obtain ⟨s1,rfl⟩:=fe.1 ht
  rw [ht,fX,Bool.not_true] at cx_wa
  simp only [List.length_cons] at hs
  have hRT : a9 (ao qs) (rd (ao qs) n) t (60 :: s1) = match aU (rd (ao qs) n) t s1 with
    | none=>none
    | some ((d,v),r)=>match r with
     | []=>none
     | c' :: r'=>if c'.toNat = 62 then some (.nd 85 [] d.tag [v],r') else none:=by
   unfold a9
   dsimp only
   rw [if_neg oM,if_neg oM,if_pos (show (60 : UInt8).toNat = 60 from rfl)]
   cases aU (rd (ao qs) n) t s1 <;> rfl
  have cx_fd:=ou (s:=s1) (b:=false) (r:=r) hV hS hw hkf h1 h2 (fun _=>⟨rfl,hsf⟩) ⟨oM,oM⟩
  refine bL [(0,_),(1,_)] Tryz.func171 kR Tryz.ntmps171 F F tU fun B hB hW=>?_
  repeat' (first | refine jR ?_ | (refine jo ?_;first | refine jL fun _=>?_ | refine jV (aL F F aS F F) ?_ | refine jV (al F F) ?_ | refine jC F F F ?_ | (refine af F F F cx_wa F ?_;rintro _ _ rfl;dsimp only [zA,fA]) | (refine cI F F F cx_fd F ?_;rintro _ G1 _ hle ⟨t1,b1,rfl,htl,⟨rfl,rfl,hF⟩ | ⟨j,u1,c1,hj,rfl,hrep,hb0,hto,hg,hbd⟩⟩ <;> (dsimp only [zA,fA];skip))) | refine ac F (ay ‹_›) ?_ | refine ad F (aC oM) ?_)
  ·have hno : a9 (ao qs) (rd (ao qs) n) t (60 :: s1) = none:=by
    rcases hF with h | h
    ·cases h
    ·rw [hRT,h]
   have cx_wb:=dx (G:=G1) (r:=r) (sc:=sc) (s:=t1) (l:=[62]) (b:=true) ⟨oM,by simp⟩
   rw [gm,iE,Bool.not_false] at cx_wb
   repeat' (first | refine jR ?_ | (refine jo ?_;first | refine aB F ?_ | refine jC F F F ?_ | refine jV (gE F F) ?_ | (refine af F F F cx_wb F ?_;rintro _ _ rfl;dsimp only [zA,fA])) | refine ad F F ?_)
   refine aP (vs:=[_]) F ⟨aF F F F F,trivial⟩ F sB ⟨hle,.nd 85 [] 0 [],⟨85,[],0,none,0,0⟩,t1,true,by rw [hso];rfl,bq dC dC,rfl,by simp only [List.length_cons];omega,fun h=>(by cases h),fun _=>⟨.inr hno,by simp only [V.tot,V.tots,List.length_nil,List.length_cons];omega⟩⟩
  ·obtain ⟨kb,ko,kc,d,rfl,htg,hsd,hrd,hru⟩:=tw hrep
   have hsf1:=hsf.mono hle
   cases b1 with
   | true =>
    have hno : a9 (ao qs) (rd (ao qs) n) t (60 :: s1) = none:=by rw [hRT,hbd rfl]
    have cx_wb:=dx (G:=G1) (r:=r) (sc:=sc) (s:=t1) (l:=[62]) (b:=true) ⟨oM,by simp⟩
    rw [gm,iE,Bool.not_false] at cx_wb
    repeat' (first | refine jR ?_ | (refine jo ?_;first | refine jV (gE F F) ?_ | (refine af F F F cx_wb F ?_;rintro _ _ rfl;dsimp only [zA,fA])) | refine ac F F ?_)
    rename_i x4 x5 _ x6 _
    dsimp only [VC.sl]
    (refine aj (am (id:=25) [.blk x6 (.cells (List.toArray [U8 ((61 : Nat) : Int),S [],I (ae t.fields j).tag,.slice (some ⟨kb,ko,none⟩) 1 kc]) iF (0,0))] (by intro y hy;simp only [List.mem_cons,List.not_mem_nil,or_false] at hy ⊢;simp [hy]) ai ?_);refine jW 6 [0,1,2,4] (aa 10 23) ?_;((refine jG (aa 10 31) 3 F (bO F F aS ?_ F F) ?_;focus omega));refine jW 4 [6] (aa 10 95) ?_;(refine jG (aa 10 127) 5 F (aq F F F) ?_);refine jA 7 F ?_;(refine jD F F F ?_);refine jK (aa 10 255) ?_;refine jW 1 [8] (aa 10 511) ?_;refine jA 9 F ?_;(refine jD F F F ?_);refine jK (aa 10 1023) ?_;refine jQ ?_)
    all_goals repeat' (first | refine jR ?_ | (refine jo ?_;first | refine aB F ?_ | refine jC F F F ?_))
    all_goals refine aP (vs:=[_]) F ⟨aF F F F F,trivial⟩ F sB ⟨hle,.nd 85 [] (ae t.fields j).tag [u1],⟨85,[],(ae t.fields j).tag,some ⟨kb,ko,none⟩,1,kc⟩,t1,true,by rw [hso];rfl,hru,rfl,by simp only [List.length_cons] at *;omega,fun h=>(by cases h),fun _=>⟨.inr hno,by simp only [V.tot,V.tots,List.length_nil,List.length_cons] at *;omega⟩⟩
   | false =>
    have hgd:=hg rfl
    have cx_wb:=dx (G:=G1) (r:=r) (sc:=sc) (s:=t1) (l:=[62]) (b:=false) ⟨oM,by simp⟩
    cases ht2 : cU [62] t1 false with
    | true =>
     obtain ⟨t2,rfl⟩:=fe.1 ht2
     rw [ht2,fX,Bool.not_true] at cx_wb
     have hgood : a9 (ao qs) (rd (ao qs) n) t (60 :: s1) = some (.nd 85 [] (ae t.fields j).tag [u1],t2):=by
      rw [hRT,hgd];dsimp only;rw [if_pos (show (62 : UInt8).toNat = 62 from rfl)]
     repeat' (first | refine jR ?_ | (refine jo ?_;first | refine jV (gE F F) ?_ | (refine af F F F cx_wb F ?_;rintro _ _ rfl;dsimp only [zA,fA])) | refine ac F F ?_)
     rename_i x4 x5 _ x6 _
     dsimp only [VC.sl]
     (refine aj (am (id:=25) [.blk x6 (.cells (List.toArray [U8 ((61 : Nat) : Int),S [],I (ae t.fields j).tag,.slice (some ⟨kb,ko,none⟩) 1 kc]) iF (0,0))] (by intro y hy;simp only [List.mem_cons,List.not_mem_nil,or_false] at hy ⊢;simp [hy]) ai ?_);refine jW 6 [0,1,2,4] (aa 10 23) ?_;((refine jG (aa 10 31) 3 F (bO F F aS ?_ F F) ?_;focus omega));refine jW 4 [6] (aa 10 95) ?_;(refine jG (aa 10 127) 5 F (aq F F F) ?_);refine jA 7 F ?_;(refine jD F F F ?_);refine jK (aa 10 255) ?_;refine jW 1 [8] (aa 10 511) ?_;refine jA 9 F ?_;(refine jD F F F ?_);refine jK (aa 10 1023) ?_;refine jQ ?_)
     all_goals repeat' (first | refine jR ?_ | (refine jo ?_;first | refine aB F ?_ | refine jC F F F ?_))
     all_goals refine aP (vs:=[_]) F ⟨aF F F F F,trivial⟩ F sB ⟨hle,.nd 85 [] (ae t.fields j).tag [u1],⟨85,[],(ae t.fields j).tag,some ⟨kb,ko,none⟩,1,kc⟩,t2,false,by rw [hso];rfl,hru,rfl,by simp only [List.length_cons] at *;omega,fun _=>⟨rfl,hgood⟩,fun h=>(by cases h)⟩
    | false =>
     rw [ht2,gc ht2,Bool.not_false] at cx_wb
     have hno : a9 (ao qs) (rd (ao qs) n) t (60 :: s1) = none:=by
      rw [hRT,hgd]
      dsimp only
      cases t1 with
      | nil=>rfl
      | cons e t2 =>
       dsimp only
       rw [if_neg]
       intro h62
       exact iM ht2 t2 (by rw [show e = 62 from UInt8.toNat_inj.1 h62])
     repeat' (first | refine jR ?_ | (refine jo ?_;first | refine jV (gE F F) ?_ | (refine af F F F cx_wb F ?_;rintro _ _ rfl;dsimp only [zA,fA])) | refine ac F F ?_)
     rename_i x4 x5 _ x6 _
     dsimp only [VC.sl]
     (refine aj (am (id:=25) [.blk x6 (.cells (List.toArray [U8 ((61 : Nat) : Int),S [],I (ae t.fields j).tag,.slice (some ⟨kb,ko,none⟩) 1 kc]) iF (0,0))] (by intro y hy;simp only [List.mem_cons,List.not_mem_nil,or_false] at hy ⊢;simp [hy]) ai ?_);refine jW 6 [0,1,2,4] (aa 10 23) ?_;((refine jG (aa 10 31) 3 F (bO F F aS ?_ F F) ?_;focus omega));refine jW 4 [6] (aa 10 95) ?_;(refine jG (aa 10 127) 5 F (aq F F F) ?_);refine jA 7 F ?_;(refine jD F F F ?_);refine jK (aa 10 255) ?_;refine jW 1 [8] (aa 10 511) ?_;refine jA 9 F ?_;(refine jD F F F ?_);refine jK (aa 10 1023) ?_;refine jQ ?_)
     all_goals repeat' (first | refine jR ?_ | (refine jo ?_;first | refine aB F ?_ | refine jC F F F ?_))
     all_goals refine aP (vs:=[_]) F ⟨aF F F F F,trivial⟩ F sB ⟨hle,.nd 85 [] (ae t.fields j).tag [u1],⟨85,[],(ae t.fields j).tag,some ⟨kb,ko,none⟩,1,kc⟩,t1,true,by rw [hso];rfl,hru,rfl,by simp only [List.length_cons] at *;omega,fun h=>(by cases h),fun _=>⟨.inr hno,by simp only [V.tot,V.tots,List.length_nil,List.length_cons] at *;omega⟩⟩
theorem dO {ts : List Ty} {f : ac8 → ac8 → Option (V × ac8)} {t : Ty} {s : ac8} {vs : List V} {last : Int} : ∀ {m : Nat},aU f t s = none → bH ts f t m last s vs = none
 | 0,_=>rfl
 | m + 1,h=>by rw [bH,h]
theorem kf {ts : List Ty} {f : ac8 → ac8 → Option (V × ac8)} {t : Ty} {s r : ac8} {vs : List V} {last : Int} {d : Fld} {v : V} {m : Nat} (h : aU f t s = some ((d,v),r)) (hm : 0 < m) :
  bH ts f t m last s vs = if d.tag ≤ last ∨ v.out = cW ts d then none else match r with
   | []=>none
   | c :: r'=>if c.toNat = 44 then bH ts f t (m - 1) d.tag r' (vs ++ [.nd 61 [] d.tag [v]]) else if c.toNat = 125 then some (vs ++ [.nd 61 [] d.tag [v]],r') else none:=by
 obtain ⟨m,rfl⟩ : ∃ k,m = k + 1:=⟨m - 1,oM⟩
 rw [bH,h];rfl
theorem kB {f : ac8 → ac8 → Option (V × ac8)} {t : Ty} : aU f t [] = none:=by
 unfold aU cm
 have : aR (([] : ac8).takeWhile a8) 200 = none:=by
  cases h : aR (([] : ac8).takeWhile a8) 200 with
  | none=>rfl
  | some m =>
   have:=(ee h).2.1
   have h2:=g8 m
   rw [← this] at h2;simp at h2
 rw [this];rfl
theorem acd {n r sc bt : Nat} {qs : List cF} {t : Ty} {s : ac8} {b : Bool} (hV : mS n sc qs) (hS : ScI G sc qs) (hW0 : SchW (ao qs)) (hkf : ∀ d ∈ t.fields,aO (ao qs) d.kind = true) (hT : iD G bt t) (hw : TyW t) (hso : t.sort = 82) (hs : s.length ≤ n ∧ s.length ≤ 1000) :
  dq ac7 171 [Pt r 0,Pt bt 0] G [dR r sc s b] (ia (a9 (ao qs) (rd (ao qs) n) t) r sc s b):=by
 obtain ⟨fv,ln,h1,h2⟩:=hT
 have hfl:=hw.len
 have hso' : (t.sort : Int) = 82:=oM
 have cx_wa:=dx (G:=G) (r:=r) (sc:=sc) (s:=s) (l:=[123]) (b:=b) ⟨oM,by simp⟩
 have cx_tk:=gH (G:=G) (r:=r) (sc:=sc) (s:=dL [123] s b) (l:=[125]) (b:=!cU [123] s b) ⟨by have:=i7 (l:=[123]) (s:=s) (b:=b);omega,by simp⟩
 cases ht : cU [123] s b with
 | false =>
  rw [ht,gc ht] at cx_wa cx_tk
  rw [Bool.not_false,gm,iE] at cx_tk
  have cx_wb:=dx (G:=G) (r:=r) (sc:=sc) (s:=s) (l:=[125]) (b:=true) ⟨oM,by simp⟩
  rw [gm,iE] at cx_wb
  have hno : b = true ∨ a9 (ao qs) (rd (ao qs) n) t s = none:=by
   cases b with
   | true=>exact .inl F
   | false=>exact .inr (nO (.inl ⟨hso,F⟩) (iM ht))
  refine bL [(0,_),(1,_)] Tryz.func171 kR Tryz.ntmps171 F F tU fun B hB hW=>?_
  repeat' (first | refine jR ?_ | (refine jo ?_;first | refine jL fun _=>?_ | refine jV (aL F F aS F F) ?_ | refine jV (al F F) ?_ | refine jC F F F ?_ | (refine af F F F cx_wa F ?_;rintro _ _ rfl;dsimp only [zA,fA]) | (refine af F F F cx_tk F ?_;rintro _ _ ⟨rfl,rfl⟩;dsimp only [zA,fA])) | (refine ad F (by first | rfl | (refine decide_eq_false ?_;(omega))) ?_))
  rename_i x4 x5 _
  refine aT (ι:=Unit) (fun i=>True) (fun i=>[(0,Pt r 0),(1,Pt bt 0),(4,Pt x4 0),(5,Pt x5 0),(8,I 0)]) (fun _=>G) (fun i=>[dR r sc s true,qC x5 [U8 t.sort,S [],I 0,aI],qC x4 [U8 0,S [],I 0,aI]]) (fun i=>0) () ?_ tU F aZ (fun i Hi=>?_)
  ·trivial
  repeat' (first | refine jR ?_ | (refine jo ?_;first | refine ah F ?_ | refine aB F ?_ | refine jC F F F ?_ | (refine af F F F cx_wb F ?_;rintro _ _ rfl;dsimp only [zA,fA])) | refine ad F F ?_)
  refine aP (vs:=[_]) F ⟨aF F F F F,trivial⟩ F sB ⟨Gh.le.refl _,.nd 82 [] 0 [],⟨82,[],0,none,0,0⟩,s,true,by rw [hso];rfl,bq dC dC,rfl,Nat.le_refl _,fun h=>(by cases h),fun _=>⟨hno,by simp only [V.tot,V.tots,List.length_nil];omega⟩⟩
 | true =>
  have hb : b = false:=by cases b with | true=>rw [gm] at ht;cases ht | false=>rfl
  subst hb
  obtain ⟨s1,rfl⟩:=fe.1 ht
  rw [ht,fX] at cx_wa cx_tk
  rw [Bool.not_true] at cx_wa cx_tk
  simp only [List.length_cons] at hs
  cases ht2 : cU [125] s1 false with
  | true =>
   obtain ⟨s2,rfl⟩:=fe.1 ht2
   rw [ht2,fX] at cx_tk
   have hgood : a9 (ao qs) (rd (ao qs) n) t (123 :: 125 :: s2) = some (.nd 82 [] 0 [],s2):=by
    unfold a9
    dsimp only
    rw [if_pos hso,if_pos (show (123 : UInt8).toNat = 123 from rfl),if_pos (show (125 : UInt8).toNat = 125 from rfl)]
   refine bL [(0,_),(1,_)] Tryz.func171 kR Tryz.ntmps171 F F tU fun B hB hW=>?_
   repeat' (first | refine jR ?_ | (refine jo ?_;first | refine jL fun _=>?_ | refine aB F ?_ | refine jV (aL F F aS F F) ?_ | refine jV (al F F) ?_ | refine jC F F F ?_ | (refine af F F F cx_wa F ?_;rintro _ _ rfl;dsimp only [zA,fA]) | (refine af F F F cx_tk F ?_;rintro _ _ ⟨rfl,rfl⟩;dsimp only [zA,fA])) | refine ac F F ?_ | refine ad F (aC oM) ?_)
   refine aP (vs:=[_]) F ⟨aF F F F F,trivial⟩ F sB ⟨Gh.le.refl _,.nd 82 [] 0 [],⟨82,[],0,none,0,0⟩,s2,false,by rw [hso];rfl,bq dC dC,rfl,by simp only [List.length_cons];omega,fun _=>⟨rfl,hgood⟩,fun h=>(by cases h)⟩
  | false =>
   rw [ht2,gc ht2] at cx_tk
   have hR : a9 (ao qs) (rd (ao qs) n) t (123 :: s1) = (bH (ao qs) (rd (ao qs) n) t (s1.length + 1) 0 s1 []).map fun x=>(.nd 82 [] 0 x.1,x.2):=by
    unfold a9
    dsimp only
    rw [if_pos hso,if_pos (show (123 : UInt8).toNat = 123 from rfl)]
    cases s1 with
    | nil=>rw [dO kB];rfl
    | cons e r' =>
     dsimp only
     rw [if_neg]
     intro h93
     exact iM ht2 r' (by rw [show e = 125 from UInt8.toNat_inj.1 h93])
   refine bL [(0,_),(1,_)] Tryz.func171 kR Tryz.ntmps171 F F tU fun B hB hW=>?_
   repeat' (first | refine jR ?_ | (refine jo ?_;first | refine jL fun _=>?_ | refine jV (aL F F aS F F) ?_ | refine jV (al F F) ?_ | refine jC F F F ?_ | (refine af F F F cx_wa F ?_;rintro _ _ rfl;dsimp only [zA,fA]) | (refine af F F F cx_tk F ?_;rintro _ _ ⟨rfl,rfl⟩;dsimp only [zA,fA])) | (refine ad F (by first | rfl | (refine decide_eq_false ?_;(omega))) ?_))
   rename_i x4 x5 _
   refine Nx.addNil iF 4 (Nx.perm (List.Perm.swap _ _ _) ?_)
   refine aT (ι:=List V × List VC × Option Addr × Nat × ac8 × Nat × Int × Gh) (fun q=>(V.reps q.2.2.2.2.2.2.2 q.1 q.2.1 ∧ Gh.le G q.2.2.2.2.2.2.2) ∧ (bH (ao qs) (rd (ao qs) n) t (s1.length + 1) 0 s1 [] = bH (ao qs) (rd (ao qs) n) t q.2.2.2.2.2.1 q.2.2.2.2.2.2.1 q.2.2.2.2.1 q.1 ∧ q.2.2.2.2.1.length < q.2.2.2.2.2.1) ∧ (V.tots q.1 + 100 * q.2.2.2.2.1.length + 100 ≤ 100 * (s1.length + 1) ∧ q.2.2.2.2.1.length ≤ s1.length)) (fun q=>[(0,Pt r 0),(1,Pt bt 0),(4,Pt x4 0),(5,Pt x5 0),(8,I q.2.2.2.2.2.2.1)]) (fun q=>q.2.2.2.2.2.2.2) (fun q=>[dR r sc q.2.2.2.2.1 false,.acc (.slice q.2.2.1 q.1.length q.2.2.2.1) iF 4 q.1.length (aE ck q.2.1),qC x5 [U8 t.sort,S [],I 0,.slice q.2.2.1 q.1.length q.2.2.2.1],qC x4 [U8 0,S [],I 0,aI]]) (fun q=>q.2.2.2.2.1.length) ([],[],none,0,s1,s1.length + 1,0,G) ?_ tU F aZ (fun q Hq=>?_)
   ·exact ⟨⟨F,Gh.le.refl _⟩,⟨F,by dsimp only;omega⟩,by dsimp only;simp only [V.tots];omega,Nat.le_refl _⟩
   obtain ⟨vs,cs,a,cap,t',m,last,Gq⟩:=q
   dsimp only at Hq ⊢
   obtain ⟨⟨hreps,hgq⟩,⟨hit,htm⟩,hT,htl'⟩:=Hq
   have hcl:=gS hreps
   have hkl:=d9 vs
   have hfv : t.fields ≠ [] → ∃ bf of cf,fv = .slice (some ⟨bf,of,none⟩) t.fields.length cf ∧ b7 G bf of (aE jl t.fields):=fun h=>by
    obtain ⟨bf,of,cf,e,hs⟩:=h2.expl (List.length_pos_iff.2 h)
    exact ⟨bf,of,cf,e,hs⟩
   obtain ⟨bf,of,cf,hfv⟩ : ∃ bf of cf,t.fields ≠ [] → fv = .slice (some ⟨bf,of,none⟩) t.fields.length cf ∧ b7 G bf of (aE jl t.fields):=by
    by_cases h : t.fields = []
    ·exact ⟨0,0,0,fun h'=>absurd h h'⟩
    ·obtain ⟨bf,of,cf,h⟩:=hfv h
     exact ⟨bf,of,cf,fun _=>h⟩
   have cx_fd:=ou (s:=t') (b:=false) (r:=r) hV (hS.mono hgq) hw hkf (h1.mono hgq) (h2.mono hgq) (fun h=>⟨(hfv h).1,(hfv h).2.mono hgq⟩) ⟨oM,oM⟩
   repeat' (first | refine jR ?_ | (refine jo ?_;first | refine jL fun _=>?_ | refine ah F ?_ | refine jD F F F ?_ | refine jC F F F ?_ | (refine cI F F F cx_fd F ?_;rintro _ G1 _ hle ⟨t1,b1,rfl,htl,⟨rfl,rfl,hF⟩ | ⟨j,u1,c1,hj,rfl,hrep,hb0,hto,hg,hbd⟩⟩ <;> (dsimp only [zA,fA];skip))) | refine ac F F ?_ | (refine aj (am (id:=9) _ (fun _ h=>h) ai ?_);refine jT 23 [0] (aa 24 1) ?_;(refine jG (aa 24 3) 1 F (cC F F) ?_);refine jT 21 [2] (aa 24 7) ?_;(try (first | refine Nx.re (d:=38) (v':=Bo true) F (congrArg Value.bool F) ?_ | refine Nx.re (d:=38) (v':=Bo false) F (congrArg Value.bool F) ?_));refine jT 17 [3,4,5,7] (aa 24 191) ?_;(refine jN (aa 24 255) 6 F ?_);refine jT 15 [8] (aa 24 511) ?_;(refine jG (aa 24 1023) 9 F (a6 F F F) ?_);refine jT 13 [10] (aa 24 2047) ?_;(try (refine Nx.re (d:=46) (v':=Bo true) F (congrArg Value.bool F) ?_));refine jT 8 [11,16,17,18,20] (aa 24 1511423) ?_;(refine jN (aa 24 1515519) 12 F ?_);(refine jN (aa 24 1523711) 13 F ?_);(refine jN (aa 24 1540095) 14 F ?_);(refine jN (aa 24 2064383) 19 F ?_);(refine jN (aa 24 2097151) 15 F ?_);(refine jN (aa 24 4194303) 21 F ?_);refine jT 1 [22] (aa 24 8388607) ?_;(refine jG (aa 24 16777215) 23 F (a6 F F F) ?_);refine jQ ?_))
   ·have hgl:=hgq.trans hle
    have hno : aU (rd (ao qs) n) t t' = none:=by
     rcases hF with h | h
     ·cases h
     ·exact h
    have hit2 : bH (ao qs) (rd (ao qs) n) t m last t' vs = none:=dO hno
    have cx_wb:=dx (G:=G1) (r:=r) (sc:=sc) (s:=t1) (l:=[125]) (b:=true) ⟨oM,by simp⟩
    rw [gm,iE,Bool.not_false] at cx_wb
    repeat' (first | refine jR ?_ | (refine jo ?_;first | refine aB F ?_ | refine jC F F F ?_ | (refine af F F F cx_wb F ?_;rintro _ _ rfl;dsimp only [zA,fA])))
    refine Nx.sealS (v:=.slice a vs.length cap) fun G2 hG2 hsl=>?_
    refine aP (vs:=[_]) F ⟨aF F F F F,trivial⟩ F sB ⟨hgl.trans hG2,.nd 82 [] 0 vs,⟨82,[],0,a,vs.length,cap⟩,t1,true,by rw [hso];rfl,c0 dC dC (fun h=>absurd h dC) rfl (by rw [hcl];exact hsl) (cd (hle.trans hG2) hreps),F,by simp only [List.length_cons];omega,fun h=>(by cases h),fun _=>⟨.inr (by rw [hR,hit,hit2];rfl),by rw [b6];simp only [List.length_cons,List.length_nil];omega⟩⟩
   ·have hgl:=hgq.trans hle
    obtain ⟨kb,ko,kc,d,rfl,htg,hsd,hrd,hru⟩:=tw hrep
    dsimp only [ck,VC.sl]
    have hsf1:=(hfv (fun h=>by rw [h] at hj;simp at hj)).2.mono hgl
    have hS1:=hS.mono hgl
    have cx_pr:=nb (G:=G1) u1.tot (Nat.le_refl _) oM hrd
    have hotl:=pK hrd
    have cx_of:=yf hS1 hW0 hsf1 hj (hkf _ (bP hj))
    have cx_wb:=dx (G:=G1) (r:=r) (sc:=sc) (s:=t1) (l:=[125]) (b:=true) ⟨oM,by simp⟩
    rw [gm,iE,Bool.not_false] at cx_wb
    by_cases hbrk : (ae t.fields j).tag ≤ last ∨ u1.out = cW (ao qs) (ae t.fields j)
    ·have hit2 : bH (ao qs) (rd (ao qs) n) t m last t' vs = none:=by
      cases b1 with
      | true=>exact dO (hbd F)
      | false=>rw [kf (hg rfl) oM,if_pos hbrk]
     by_cases hlast : (ae t.fields j).tag ≤ last
     ·repeat' (first | refine jR ?_ | (refine jo ?_;first | refine aB F ?_ | refine jD F F F ?_ | refine jC F F F ?_ | (refine af F F F cx_wb F ?_;rintro _ _ rfl;dsimp only [zA,fA])) | refine ac F F ?_ | (refine aj (am (id:=9) _ (fun _ h=>h) ai ?_);refine jT 23 [0] (aa 24 1) ?_;(refine jG (aa 24 3) 1 F (cC F F) ?_);refine jT 21 [2] (aa 24 7) ?_;(try (refine Nx.re (d:=38) (v':=Bo false) F (congrArg Value.bool F) ?_));refine jT 17 [3,4,5,7] (aa 24 191) ?_;((refine jG (aa 24 255) 6 F (bO F F aS ?_ F F) ?_;focus omega));refine jT 15 [8] (aa 24 511) ?_;(refine jG (aa 24 1023) 9 F (aJ F F F) ?_);refine jT 13 [10] (aa 24 2047) ?_;(try (refine Nx.re (d:=46) (v':=Bo true) F (congrArg Value.bool (ay ‹_›)) ?_));refine jT 8 [11,16,17,18,20] (aa 24 1511423) ?_;(refine jN (aa 24 1515519) 12 F ?_);(refine jN (aa 24 1523711) 13 F ?_);(refine jN (aa 24 1540095) 14 F ?_);(refine jN (aa 24 2064383) 19 F ?_);(refine jN (aa 24 2097151) 15 F ?_);(refine jN (aa 24 4194303) 21 F ?_);refine jT 1 [22] (aa 24 8388607) ?_;(refine jG (aa 24 16777215) 23 F (a6 F F F) ?_);refine jQ ?_))
      refine Nx.sealS (v:=.slice a vs.length cap) fun G2 hG2 hsl=>?_
      refine aP (vs:=[_]) F ⟨aF F F F F,trivial⟩ F sB ⟨hgl.trans hG2,.nd 82 [] 0 vs,⟨82,[],0,a,vs.length,cap⟩,t1,true,by rw [hso];rfl,c0 dC dC (fun h=>absurd h dC) rfl (by rw [hcl];exact hsl) (cd (hle.trans hG2) hreps),F,by simp only [List.length_cons];omega,fun h=>(by cases h),fun _=>⟨.inr (by rw [hR,hit,hit2];rfl),by rw [b6];simp only [List.length_cons,List.length_nil];omega⟩⟩
     ·have heq : u1.out = cW (ao qs) (ae t.fields j):=by
       rcases hbrk with h | h
       ·exact absurd h hlast
       ·exact h
      repeat' (first | refine jR ?_ | (refine jo ?_;first | refine aB F ?_ | refine jD F F F ?_ | refine jC F F F ?_ | (refine af F F F cx_wb F ?_;rintro _ _ rfl;dsimp only [zA,fA])) | refine ac F (ay ‹_›) ?_ | (refine aj (am (id:=9) _ (fun _ h=>h) ai ?_);refine jT 23 [0] (aa 24 1) ?_;(refine jG (aa 24 3) 1 F (cC F F) ?_);refine jT 21 [2] (aa 24 7) ?_;(try (refine Nx.re (d:=38) (v':=Bo false) F (congrArg Value.bool F) ?_));refine jT 17 [3,4,5,7] (aa 24 191) ?_;((refine jG (aa 24 255) 6 F (bO F F aS ?_ F F) ?_;focus omega));refine jT 15 [8] (aa 24 511) ?_;(refine jG (aa 24 1023) 9 F (aJ F F F) ?_);refine jT 13 [10] (aa 24 2047) ?_;(try (refine Nx.re (d:=46) (v':=Bo false) F (congrArg Value.bool (aC ‹_›)) ?_));refine jT 8 [11,16,17,18,20] (aa 24 1511423) ?_;(refine jG (aa 24 1515519) 12 F (aq F F F) ?_);(refine jG (aa 24 1523711) 13 F (aN F F oM) ?_);((refine jG (aa 24 1540095) 14 F (cM F F aS ?_) ?_;(focus ((simp only [List.length_append,List.length_cons,List.length_nil,List.length_take];omega);done))));(refine jG (aa 24 2064383) 19 F (aq F F F) ?_);(refine jA 15 F ?_;(refine ab F F F cx_pr F ?_);refine jS (aa 24 2097151) ?_);(refine jA 21 F ?_;(refine ab F F F cx_of F ?_);refine jS (aa 24 4194303) ?_);refine jT 1 [22] (aa 24 8388607) ?_;(refine jG (aa 24 16777215) 23 F (aJ F F F) ?_);refine jQ ?_))
      refine Nx.sealS (v:=.slice a vs.length cap) fun G2 hG2 hsl=>?_
      refine aP (vs:=[_]) F ⟨aF F F F F,trivial⟩ F sB ⟨hgl.trans hG2,.nd 82 [] 0 vs,⟨82,[],0,a,vs.length,cap⟩,t1,true,by rw [hso];rfl,c0 dC dC (fun h=>absurd h dC) rfl (by rw [hcl];exact hsl) (cd (hle.trans hG2) hreps),F,by simp only [List.length_cons];omega,fun h=>(by cases h),fun _=>⟨.inr (by rw [hR,hit,hit2];rfl),by rw [b6];simp only [List.length_cons,List.length_nil];omega⟩⟩
    ·have hlast : ¬ (ae t.fields j).tag ≤ last:=fun h=>hbrk (.inl h)
     have heq : ¬ u1.out = cW (ao qs) (ae t.fields j):=fun h=>hbrk (.inr h)
     have hrow : aE ck cs ++ [U8 ((61 : Nat) : Int),S [],I (ae t.fields j).tag,.slice (some ⟨kb,ko,none⟩) 1 kc] = aE ck (cs ++ [⟨61,[],(ae t.fields j).tag,some ⟨kb,ko,none⟩,1,kc⟩]):=(co ck cs (⟨61,[],(ae t.fields j).tag,some ⟨kb,ko,none⟩,1,kc⟩ : VC)).symm
     have hr2 : V.reps G1 (vs ++ [.nd 61 [] (ae t.fields j).tag [u1]]) (cs ++ [⟨61,[],(ae t.fields j).tag,some ⟨kb,ko,none⟩,1,kc⟩]):=ip hrep (cd hle hreps)
     have hvl : (vs ++ [V.nd 61 [] (ae t.fields j).tag [u1]]).length = vs.length + 1:=by simp
     have htu : V.tots (vs ++ [V.nd 61 [] (ae t.fields j).tag [u1]]) = V.tots vs + (20 + u1.tot):=by simp [eY,V.tots,V.tot]
     cases b1 with
     | true =>
      have hit2 : bH (ao qs) (rd (ao qs) n) t m last t' vs = none:=dO (hbd rfl)
      have cx_tm:=gH (G:=G1) (r:=r) (sc:=sc) (s:=t1) (l:=[44]) (b:=true) ⟨oM,by simp⟩
      rw [gm,iE] at cx_tm
      repeat' (first | refine jR ?_ | (refine jo ?_;first | refine ah F ?_ | (refine jV (bO F F aS ?_ F F) ?_;focus omega) | refine aB F ?_ | refine jD F F F ?_ | refine jC F F F ?_ | refine jF fun _=>?_ | refine bY F F F F F F F F F oM fun _ _=>?_ | (refine af F F F cx_wb F ?_;rintro _ _ rfl;dsimp only [zA,fA]) | (refine af F F F cx_tm F ?_;rintro _ _ ⟨rfl,rfl⟩;dsimp only [zA,fA])) | refine ac F F ?_ | refine ad F (aC ‹_›) ?_ | (refine aj (am (id:=9) _ (fun _ h=>h) ai ?_);refine jT 23 [0] (aa 24 1) ?_;(refine jG (aa 24 3) 1 F (cC F F) ?_);refine jT 21 [2] (aa 24 7) ?_;(try (refine Nx.re (d:=38) (v':=Bo false) F (congrArg Value.bool F) ?_));refine jT 17 [3,4,5,7] (aa 24 191) ?_;((refine jG (aa 24 255) 6 F (bO F F aS ?_ F F) ?_;focus omega));refine jT 15 [8] (aa 24 511) ?_;(refine jG (aa 24 1023) 9 F (aJ F F F) ?_);refine jT 13 [10] (aa 24 2047) ?_;(try (refine Nx.re (d:=46) (v':=Bo false) F (congrArg Value.bool (aC ‹_›)) ?_));refine jT 8 [11,16,17,18,20] (aa 24 1511423) ?_;(refine jG (aa 24 1515519) 12 F (aq F F F) ?_);(refine jG (aa 24 1523711) 13 F (aN F F oM) ?_);((refine jG (aa 24 1540095) 14 F (cM F F aS ?_) ?_;(focus ((simp only [List.length_append,List.length_cons,List.length_nil,List.length_take];omega);done))));(refine jG (aa 24 2064383) 19 F (aq F F F) ?_);(refine jA 15 F ?_;(refine ab F F F cx_pr F ?_);refine jS (aa 24 2097151) ?_);(refine jA 21 F ?_;(refine ab F F F cx_of F ?_);refine jS (aa 24 4194303) ?_);refine jT 1 [22] (aa 24 8388607) ?_;(refine jG (aa 24 16777215) 23 F (aJ F F F) ?_);refine jQ ?_))
      rename_i _ y1 yc _
      rw [hrow]
      refine Nx.sealS (v:=.slice (some ⟨y1,0,none⟩) (vs.length + 1) yc) fun G2 hG2 hsl=>?_
      refine aP (vs:=[_]) F ⟨aF F F F F,trivial⟩ F sB ⟨hgl.trans hG2,.nd 82 [] 0 (vs ++ [.nd 61 [] (ae t.fields j).tag [u1]]),⟨82,[],0,some ⟨y1,0,none⟩,vs.length + 1,yc⟩,t1,true,by rw [hso];rfl,c0 dC dC (fun h=>absurd h dC) hvl.symm (by rw [List.length_append,List.length_singleton,hcl];exact hsl) (cd hG2 hr2),F,by simp only [List.length_cons];omega,fun h=>(by cases h),fun _=>⟨.inr (by rw [hR,hit,hit2];rfl),by rw [b6,htu];simp only [List.length_cons,List.length_nil];omega⟩⟩
     | false =>
      have hst:=kf (ts:=ao qs) (vs:=vs) (last:=last) (m:=m) (hg rfl) oM
      rw [if_neg hbrk] at hst
      have cx_tm:=gH (G:=G1) (r:=r) (sc:=sc) (s:=t1) (l:=[44]) (b:=false) ⟨oM,by simp⟩
      clear cx_wb
      have cx_wb:=dx (G:=G1) (r:=r) (sc:=sc) (s:=t1) (l:=[125]) (b:=false) ⟨oM,by simp⟩
      cases ht3 : cU [44] t1 false with
      | true =>
       obtain ⟨t2,rfl⟩:=fe.1 ht3
       rw [ht3,fX] at cx_tm
       simp only [List.length_cons] at htl hto
       dsimp only at hst
       rw [if_pos (show (44 : UInt8).toNat = 44 from rfl)] at hst
       have hlt : t2.length < m - 1:=oM
       repeat' (first | refine jR ?_ | (refine jo ?_;first | refine ah F ?_ | (refine jV (bO F F aS ?_ F F) ?_;focus omega) | refine aB F ?_ | refine jD F F F ?_ | refine jF fun _=>?_ | refine bY F F F F F F F F F oM fun _ _=>?_ | (refine af F F F cx_tm F ?_;rintro _ _ ⟨rfl,rfl⟩;dsimp only [zA,fA])) | (refine ad F (by first | rfl | (refine decide_eq_false ?_;(assumption))) ?_) | (refine aj (am (id:=9) _ (fun _ h=>h) ai ?_);refine jT 23 [0] (aa 24 1) ?_;(refine jG (aa 24 3) 1 F (cC F F) ?_);refine jT 21 [2] (aa 24 7) ?_;(try (refine Nx.re (d:=38) (v':=Bo false) F (congrArg Value.bool F) ?_));refine jT 17 [3,4,5,7] (aa 24 191) ?_;((refine jG (aa 24 255) 6 F (bO F F aS ?_ F F) ?_;focus omega));refine jT 15 [8] (aa 24 511) ?_;(refine jG (aa 24 1023) 9 F (aJ F F F) ?_);refine jT 13 [10] (aa 24 2047) ?_;(try (refine Nx.re (d:=46) (v':=Bo false) F (congrArg Value.bool (aC ‹_›)) ?_));refine jT 8 [11,16,17,18,20] (aa 24 1511423) ?_;(refine jG (aa 24 1515519) 12 F (aq F F F) ?_);(refine jG (aa 24 1523711) 13 F (aN F F oM) ?_);((refine jG (aa 24 1540095) 14 F (cM F F aS ?_) ?_;(focus ((simp only [List.length_append,List.length_cons,List.length_nil,List.length_take];omega);done))));(refine jG (aa 24 2064383) 19 F (aq F F F) ?_);(refine jA 15 F ?_;(refine ab F F F cx_pr F ?_);refine jS (aa 24 2097151) ?_);(refine jA 21 F ?_;(refine ab F F F cx_of F ?_);refine jS (aa 24 4194303) ?_);refine jT 1 [22] (aa 24 8388607) ?_;(refine jG (aa 24 16777215) 23 F (aJ F F F) ?_);refine jQ ?_))
       rename_i _ y1 yc
       rw [hrow]
       exact aY (vs ++ [.nd 61 [] (ae t.fields j).tag [u1]],cs ++ [⟨61,[],(ae t.fields j).tag,some ⟨kb,ko,none⟩,1,kc⟩],some ⟨y1,0,none⟩,yc,t2,m - 1,(ae t.fields j).tag,G1) ⟨⟨hr2,hgl⟩,⟨by rw [hit,hst],hlt⟩,by dsimp only;omega,by dsimp only;omega⟩ (by dsimp only;omega) tU rfl (by rw [hvl];repeat (first | exact List.Sublist.refl _ | apply List.Sublist.cons_cons | apply List.Sublist.cons))
      | false =>
       rw [ht3,gc ht3] at cx_tm
       cases ht4 : cU [125] t1 false with
       | true =>
        obtain ⟨t2,rfl⟩:=fe.1 ht4
        rw [ht4,fX,Bool.not_true] at cx_wb
        simp only [List.length_cons] at htl hto
        dsimp only at hst
        rw [if_neg (show ¬ (125 : UInt8).toNat = 44 by decide),if_pos (show (125 : UInt8).toNat = 125 from rfl)] at hst
        have hit2:=hst
        repeat' (first | refine jR ?_ | (refine jo ?_;first | refine ah F ?_ | (refine jV (bO F F aS ?_ F F) ?_;focus omega) | refine aB F ?_ | refine jD F F F ?_ | refine jC F F F ?_ | refine jF fun _=>?_ | refine bY F F F F F F F F F oM fun _ _=>?_ | (refine af F F F cx_wb F ?_;rintro _ _ rfl;dsimp only [zA,fA]) | (refine af F F F cx_tm F ?_;rintro _ _ ⟨rfl,rfl⟩;dsimp only [zA,fA])) | refine ac F F ?_ | refine ad F (aC ‹_›) ?_ | (refine aj (am (id:=9) _ (fun _ h=>h) ai ?_);refine jT 23 [0] (aa 24 1) ?_;(refine jG (aa 24 3) 1 F (cC F F) ?_);refine jT 21 [2] (aa 24 7) ?_;(try (refine Nx.re (d:=38) (v':=Bo false) F (congrArg Value.bool F) ?_));refine jT 17 [3,4,5,7] (aa 24 191) ?_;((refine jG (aa 24 255) 6 F (bO F F aS ?_ F F) ?_;focus omega));refine jT 15 [8] (aa 24 511) ?_;(refine jG (aa 24 1023) 9 F (aJ F F F) ?_);refine jT 13 [10] (aa 24 2047) ?_;(try (refine Nx.re (d:=46) (v':=Bo false) F (congrArg Value.bool (aC ‹_›)) ?_));refine jT 8 [11,16,17,18,20] (aa 24 1511423) ?_;(refine jG (aa 24 1515519) 12 F (aq F F F) ?_);(refine jG (aa 24 1523711) 13 F (aN F F oM) ?_);((refine jG (aa 24 1540095) 14 F (cM F F aS ?_) ?_;(focus ((simp only [List.length_append,List.length_cons,List.length_nil,List.length_take];omega);done))));(refine jG (aa 24 2064383) 19 F (aq F F F) ?_);(refine jA 15 F ?_;(refine ab F F F cx_pr F ?_);refine jS (aa 24 2097151) ?_);(refine jA 21 F ?_;(refine ab F F F cx_of F ?_);refine jS (aa 24 4194303) ?_);refine jT 1 [22] (aa 24 8388607) ?_;(refine jG (aa 24 16777215) 23 F (aJ F F F) ?_);refine jQ ?_))
        rename_i _ y1 yc _
        rw [hrow]
        refine Nx.sealS (v:=.slice (some ⟨y1,0,none⟩) (vs.length + 1) yc) fun G2 hG2 hsl=>?_
        refine aP (vs:=[_]) F ⟨aF F F F F,trivial⟩ F sB ⟨hgl.trans hG2,.nd 82 [] 0 (vs ++ [.nd 61 [] (ae t.fields j).tag [u1]]),⟨82,[],0,some ⟨y1,0,none⟩,vs.length + 1,yc⟩,t2,false,by rw [hso];rfl,c0 dC dC (fun h=>absurd h dC) hvl.symm (by rw [List.length_append,List.length_singleton,hcl];exact hsl) (cd hG2 hr2),F,by simp only [List.length_cons];omega,fun _=>⟨rfl,by rw [hR,hit,hit2];rfl⟩,fun h=>(by cases h)⟩
       | false =>
        rw [ht4,gc ht4,Bool.not_false] at cx_wb
        have hit2 : bH (ao qs) (rd (ao qs) n) t m last t' vs = none:=by
         rw [hst]
         cases t1 with
         | nil=>rfl
         | cons e t2 =>
          dsimp only
          rw [if_neg,if_neg]
          ·intro h
           exact iM ht4 t2 (by rw [show e = 125 from UInt8.toNat_inj.1 h])
          ·intro h
           exact iM ht3 t2 (by rw [show e = 44 from UInt8.toNat_inj.1 h])
        repeat' (first | refine jR ?_ | (refine jo ?_;first | refine ah F ?_ | (refine jV (bO F F aS ?_ F F) ?_;focus omega) | refine aB F ?_ | refine jD F F F ?_ | refine jC F F F ?_ | refine jF fun _=>?_ | refine bY F F F F F F F F F oM fun _ _=>?_ | (refine af F F F cx_wb F ?_;rintro _ _ rfl;dsimp only [zA,fA]) | (refine af F F F cx_tm F ?_;rintro _ _ ⟨rfl,rfl⟩;dsimp only [zA,fA])) | refine ac F F ?_ | refine ad F (aC ‹_›) ?_ | (refine aj (am (id:=9) _ (fun _ h=>h) ai ?_);refine jT 23 [0] (aa 24 1) ?_;(refine jG (aa 24 3) 1 F (cC F F) ?_);refine jT 21 [2] (aa 24 7) ?_;(try (refine Nx.re (d:=38) (v':=Bo false) F (congrArg Value.bool F) ?_));refine jT 17 [3,4,5,7] (aa 24 191) ?_;((refine jG (aa 24 255) 6 F (bO F F aS ?_ F F) ?_;focus omega));refine jT 15 [8] (aa 24 511) ?_;(refine jG (aa 24 1023) 9 F (aJ F F F) ?_);refine jT 13 [10] (aa 24 2047) ?_;(try (refine Nx.re (d:=46) (v':=Bo false) F (congrArg Value.bool (aC ‹_›)) ?_));refine jT 8 [11,16,17,18,20] (aa 24 1511423) ?_;(refine jG (aa 24 1515519) 12 F (aq F F F) ?_);(refine jG (aa 24 1523711) 13 F (aN F F oM) ?_);((refine jG (aa 24 1540095) 14 F (cM F F aS ?_) ?_;(focus ((simp only [List.length_append,List.length_cons,List.length_nil,List.length_take];omega);done))));(refine jG (aa 24 2064383) 19 F (aq F F F) ?_);(refine jA 15 F ?_;(refine ab F F F cx_pr F ?_);refine jS (aa 24 2097151) ?_);(refine jA 21 F ?_;(refine ab F F F cx_of F ?_);refine jS (aa 24 4194303) ?_);refine jT 1 [22] (aa 24 8388607) ?_;(refine jG (aa 24 16777215) 23 F (aJ F F F) ?_);refine jQ ?_))
        rename_i _ y1 yc _
        rw [hrow]
        refine Nx.sealS (v:=.slice (some ⟨y1,0,none⟩) (vs.length + 1) yc) fun G2 hG2 hsl=>?_
        refine aP (vs:=[_]) F ⟨aF F F F F,trivial⟩ F sB ⟨hgl.trans hG2,.nd 82 [] 0 (vs ++ [.nd 61 [] (ae t.fields j).tag [u1]]),⟨82,[],0,some ⟨y1,0,none⟩,vs.length + 1,yc⟩,t1,true,by rw [hso];rfl,c0 dC dC (fun h=>absurd h dC) hvl.symm (by rw [List.length_append,List.length_singleton,hcl];exact hsl) (cd hG2 hr2),F,by simp only [List.length_cons];omega,fun h=>(by cases h),fun _=>⟨.inr (by rw [hR,hit,hit2];rfl),by rw [b6,htu];simp only [List.length_cons,List.length_nil];omega⟩⟩
theorem pp {c : UInt8} {a b d : ac8} : an ac7 129 [Ag [S (c :: a),S b,S d]] G (· = Ag [S a,S b,S d]):=by
 refine jE [(0,_)] Tryz.func129 Tryz.ntmps129 fun B hB=>?_
 repeat' (first | refine jX ?_ | (refine jo ?_;first | refine jO fun _=>?_ | refine jL fun _=>?_ | refine ah F ?_ | refine aB F ?_ | refine jD F F F ?_ | refine jC F F F ?_))
 refine jZ (vs:=[_]) F ⟨aF F F F F,trivial⟩ F ⟨F,F,?_⟩
 rfl
theorem ji {c : UInt8} {k : ac8} (h : c.toNat = 91 ∨ c.toNat = 63) : sg (c :: k) = c :: sg k ∧ bs (c :: k) = bs k ∧ nm (c :: k) = nm k ∧ br (c :: k) = br k:=by
 have hc : br (c :: k) = br k:=by rw [br,if_pos h]
 exact ⟨mX h,by unfold bs;rw [hc],by unfold nm;rw [hc],hc⟩
theorem dz {ts : List Ty} {c : UInt8} {k : ac8} (hc : c.toNat = 91 ∨ c.toNat = 63) (h : aO ts (c :: k) = true) : aO ts k = true:=by
 unfold aO at h ⊢
 simp only [Bool.and_eq_true] at h ⊢
 obtain ⟨h1,h2⟩:=h
 refine ⟨?_,?_⟩
 ·unfold bB at h1 ⊢
  simp only [Bool.and_eq_true,decide_eq_true_eq,List.length_cons] at h1 ⊢
  refine ⟨oM,?_⟩
  have:=h1.2
  rw [d1,if_pos hc] at this
  exact this
 ·unfold en at h2 ⊢
  rw [(ji hc).2.2.2] at h2
  exact h2
theorem rt {ts : List Ty} {f : ac8 → ac8 → Option (V × ac8)} {c : UInt8} {k s : ac8} (hc : c.toNat = 91) : eJ ts f (c :: k) s = eP (f k) s:=by
 unfold eJ eP
 dsimp only
 rw [if_pos hc]
 cases s <;> rfl
theorem sn {r sc : Nat} {k s : ac8} : bM ac7 126 [Pt r 0,Ag [S (sg k),S (bs k),S (nm k)]] G [dR r sc s true] (fun v L'=>v = zP ∧ L' = [dR r sc s true]):=by
 refine jH [(0,_),(1,_)] Tryz.func126 Tryz.ntmps126 fun B hB hW=>?_
 repeat' (first | refine jR ?_ | (refine jo ?_;first | refine jO fun _=>?_ | refine jL fun _=>?_ | refine ah F ?_ | refine jV (al F F) ?_ | refine jC F F F ?_) | refine ac F F ?_)
 refine aP (vs:=[_]) F ⟨aF F F F F,trivial⟩ F sB ⟨F,F,F⟩
theorem bM.toM {P : Program} {f : FuncId} {args : List Value} {L : List Own} {R : Value → List Own → Prop} {R' : Value → Gh → List Own → Prop} (h : bM P f args G L R) (hr : ∀ v L',R v L' → R' v G L') : dq P f args G L R' :=
 Fn.mono h fun v G' L' h2=>⟨h2.1 ▸ Gh.le.refl _,h2.1 ▸ hr v L' h2.2⟩
theorem fC : V.rep G (.nd 0 [] 0 []) ⟨0,[],0,none,0,0⟩:=bq dC dC
theorem aaT {n r sc : Nat} {qs : List cF} {c : UInt8} {k s : ac8} (hc : c = 63) (hV : mS n sc qs) (hS : ScI G sc qs) (hk : aO (ao qs) (c :: k) = true) (hs : s.length < n + 1 ∧ s.length ≤ 1000) :
  dq ac7 126 [Pt r 0,Ag (ew (c :: k))] G [dR r sc s false] (ia (rd (ao qs) (n + 1) (c :: k)) r sc s false):=by
 subst hc
 have hk2:=dz (.inr rfl) hk
 obtain ⟨e1,e2,e3,_⟩:=ji (c:=63) (k:=k) (.inr rfl)
 have hrd : rd (ao qs) (n + 1) (63 :: k) s = match s with
   | []=>none
   | d :: s'=>if d.toNat = 45 then some (.nd 63 [] 0 [],s') else if d.toNat = 43 then (rd (ao qs) n k s').map fun x=>(.nd 63 [] 0 [x.1],x.2) else none:=by
  rw [rd];unfold eJ
  dsimp only
  rw [if_neg (show ¬ (63 : UInt8).toNat = 91 by decide),if_pos (show (63 : UInt8).toNat = 63 from rfl)]
  cases s <;> rfl
 unfold ew
 rw [e1,e2,e3]
 have cx_sign:=@i1 G 63 (sg k) (bs k) (nm k)
 have cx_pt:=@pp G 63 (sg k) (bs k) (nm k)
 have cx_tk:=gH (G:=G) (r:=r) (sc:=sc) (s:=s) (l:=[45]) (b:=false) ⟨oM,by simp⟩
 have cx_wa:=dx (G:=G) (r:=r) (sc:=sc) (s:=s) (l:=[43]) (b:=false) ⟨oM,by simp⟩
 cases ht : cU [45] s false with
 | true =>
  obtain ⟨s1,rfl⟩:=fe.1 ht
  rw [ht,fX] at cx_tk
  dsimp only at hrd
  rw [if_pos (show (45 : UInt8).toNat = 45 from rfl)] at hrd
  refine bL [(0,_),(1,_)] Tryz.func126 kR Tryz.ntmps126 F F tU fun B hB hW=>?_
  repeat' (first | refine jR ?_ | (refine jo ?_;first | refine jO fun _=>?_ | refine jL fun _=>?_ | refine ah F ?_ | refine aB F ?_ | refine jV (al F F) ?_ | refine jC F F F ?_ | refine ab F F F cx_sign F ?_ | (refine af F F F cx_tk F ?_;rintro _ _ ⟨rfl,rfl⟩;dsimp only [zA,fA])) | refine ac F F ?_ | refine ad F F ?_)
  refine aP (vs:=[_]) F ⟨aF F F F F,trivial⟩ F sB ⟨Gh.le.refl _,.nd 63 [] 0 [],⟨63,[],0,none,0,0⟩,s1,false,F,bq dC dC,F,by simp only [List.length_cons];omega,fun _=>⟨rfl,hrd⟩,fun h=>(by cases h)⟩
 | false =>
  rw [ht,gc ht] at cx_tk
  cases ht2 : cU [43] s false with
  | false =>
   rw [ht2,gc ht2,Bool.not_false] at cx_wa
   have hno : rd (ao qs) (n + 1) (63 :: k) s = none:=by
    rw [hrd]
    cases s with
    | nil=>rfl
    | cons d s' =>
     dsimp only
     rw [if_neg,if_neg]
     ·intro h;exact iM ht2 s' (by rw [show d = 43 from UInt8.toNat_inj.1 h])
     ·intro h;exact iM ht s' (by rw [show d = 45 from UInt8.toNat_inj.1 h])
   refine bL [(0,_),(1,_)] Tryz.func126 kR Tryz.ntmps126 F F tU fun B hB hW=>?_
   repeat' (first | refine jR ?_ | (refine jo ?_;first | refine jO fun _=>?_ | refine jL fun _=>?_ | refine ah F ?_ | refine aB F ?_ | refine ab F F F cx_sign F ?_ | refine ab F F F cx_pt F ?_ | (refine af F F F cx_tk F ?_;rintro _ _ ⟨rfl,rfl⟩;dsimp only [zA,fA]) | (refine af F F F cx_wa F ?_;rintro _ _ rfl;dsimp only [zA,fA])) | refine ac F F ?_ | refine ad F F ?_)
   refine jo ?_
   refine af F F F sn F ?_
   rintro _ _ ⟨rfl,rfl⟩
   dsimp only [zA,fA]
   repeat' (first | refine jR ?_ | (refine jo ?_;first | refine jV (al F F) ?_ | refine jC F F F ?_ | refine jF fun _=>?_))
   rename_i y
   refine Nx.sealC (b:=y) fun G2 hG2 hsy=>?_
   have hsl : be G2 (.slice (some ⟨y,0,none⟩) 1 1) 4 ([⟨0,[],0,none,0,0⟩] : List VC).length (aE ck [⟨0,[],0,none,0,0⟩]):=⟨rfl,.inr ⟨y,0,1,rfl,Nat.le_refl _,hsy⟩⟩
   refine aP (vs:=[_]) F ⟨aF F F F F,trivial⟩ F sB ⟨hG2,.nd 63 [] 0 [.nd 0 [] 0 []],⟨63,[],0,some ⟨y,0,none⟩,1,1⟩,s,true,F,c0 dC dC (fun h=>absurd h dC) F hsl ⟨_,[],F,fC,F⟩,F,Nat.le_refl _,fun h=>(by cases h),fun _=>⟨.inr hno,by simp only [V.tot,V.tots,List.length_nil];omega⟩⟩
  | true =>
   obtain ⟨s1,rfl⟩:=fe.1 ht2
   rw [ht2,fX,Bool.not_true] at cx_wa
   simp only [List.length_cons] at hs
   dsimp only at hrd
   rw [if_neg (show ¬ (43 : UInt8).toNat = 45 by decide),if_pos (show (43 : UInt8).toNat = 43 from rfl)] at hrd
   have cx_vl:=hV G r k s1 false hS hk2 oM oM
   refine bL [(0,_),(1,_)] Tryz.func126 kR Tryz.ntmps126 F F tU fun B hB hW=>?_
   repeat' (first | refine jR ?_ | (refine jo ?_;first | refine jO fun _=>?_ | refine jL fun _=>?_ | refine ah F ?_ | refine aB F ?_ | refine jV (al F F) ?_ | refine jC F F F ?_ | refine jF fun _=>?_ | refine ab F F F cx_sign F ?_ | refine ab F F F cx_pt F ?_ | (refine af F F F cx_tk F ?_;rintro _ _ ⟨rfl,rfl⟩;dsimp only [zA,fA]) | (refine af F F F cx_wa F ?_;rintro _ _ rfl;dsimp only [zA,fA]) | (refine cI F F F cx_vl F ?_;rintro _ G1 _ hle ⟨u1,c1,t1,b1,rfl,hrep,rfl,hP⟩;dsimp only [zA,fA];skip)) | refine ac F F ?_ | refine ad F F ?_)
   rename_i y
   refine Nx.sealC (b:=y) fun G2 hG2 hsy=>?_
   have hsl : be G2 (.slice (some ⟨y,0,none⟩) 1 1) 4 ([c1] : List VC).length (aE ck [c1]):=⟨rfl,.inr ⟨y,0,1,rfl,Nat.le_refl _,hsy⟩⟩
   obtain ⟨hPl,hP0,hP1⟩:=hP
   cases b1 with
   | false =>
    refine aP (vs:=[_]) F ⟨aF F F F F,trivial⟩ F sB ⟨hle.trans hG2,.nd 63 [] 0 [u1],⟨63,[],0,some ⟨y,0,none⟩,1,1⟩,t1,false,F,c0 dC dC (fun h=>absurd h dC) F hsl ⟨_,[],F,ge hG2 hrep,F⟩,F,by simp only [List.length_cons];omega,fun _=>⟨rfl,by rw [hrd,(hP0 rfl).2];rfl⟩,fun h=>(by cases h)⟩
   | true =>
    obtain ⟨hno,hto⟩:=hP1 rfl
    have hno2 : rd (ao qs) n k s1 = none:=by
     rcases hno with h | h
     ·cases h
     ·exact h
    refine aP (vs:=[_]) F ⟨aF F F F F,trivial⟩ F sB ⟨hle.trans hG2,.nd 63 [] 0 [u1],⟨63,[],0,some ⟨y,0,none⟩,1,1⟩,t1,true,F,c0 dC dC (fun h=>absurd h dC) F hsl ⟨_,[],F,ge hG2 hrep,F⟩,F,by simp only [List.length_cons];omega,fun h=>(by cases h),fun _=>⟨.inr (by rw [hrd,hno2];rfl),by simp only [V.tot,V.tots,List.length_nil,List.length_cons];omega⟩⟩
theorem aaV {n r sc : Nat} {qs : List cF} {k s : ac8} (hV : mS n sc qs) (hS : ScI G sc qs) (hk : aO (ao qs) (91 :: k) = true) (hs : s.length < n + 1 ∧ s.length ≤ 1000) :
  dq ac7 126 [Pt r 0,Ag (ew (91 :: k))] G [dR r sc s false] (ia (rd (ao qs) (n + 1) (91 :: k)) r sc s false):=by
 have hk2:=dz (.inl rfl) hk
 obtain ⟨e1,e2,e3,_⟩:=ji (c:=91) (k:=k) (.inl rfl)
 have hrd : rd (ao qs) (n + 1) (91 :: k) s = eP (rd (ao qs) n k) s:=by rw [rd];exact rt F
 unfold ew
 rw [e1,e2,e3]
 have cx_sign:=@i1 G 91 (sg k) (bs k) (nm k)
 have cx_pt:=@pp G 91 (sg k) (bs k) (nm k)
 have cx_li:=aa7 (G:=G) (r:=r) (b:=false) hV hS hk2 (s:=s) ⟨oM,oM⟩
 refine bL [(0,_),(1,_)] Tryz.func126 kR Tryz.ntmps126 F F tU fun B hB hW=>?_
 repeat' (first | refine jR ?_ | (refine jo ?_;first | refine jO fun _=>?_ | refine jL fun _=>?_ | refine ah F ?_ | refine aB F ?_ | refine jC F F F ?_ | refine ab F F F cx_sign F ?_ | refine ab F F F cx_pt F ?_ | (refine cI F F F cx_li F ?_;rintro _ G1 _ hle ⟨u1,c1,t1,b1,rfl,hrep,rfl,hP⟩;dsimp only [zA,fA];skip)) | refine ac F F ?_ | refine ad F F ?_)
 obtain ⟨hPl,hP0,hP1⟩:=hP
 refine aP (vs:=[_]) F ⟨aF F F F F,trivial⟩ F sB ⟨hle,u1,c1,t1,b1,F,hrep,F,hPl,fun h=>⟨F,by rw [hrd];exact (hP0 h).2⟩,fun h=>by rw [hrd];exact hP1 h⟩
theorem eG {ts : List Ty} {c : UInt8} {k : ac8} (hk : aO ts (c :: k) = true) (h91 : ¬ (c.toNat = 91 ∨ c.toNat = 63)) (hr : a7 ts (c :: k) = none) : c :: k = [110] ∨ c :: k = [116] ∨ c :: k = [102]:=by
 have hko:=db hk
 have hcs:=fH (r:=k) h91
 have hrn : bJ (br (c :: k)) = none:=by
  cases hx : bJ (br (c :: k)) with
  | none=>rfl
  | some x =>
   obtain ⟨t,ht⟩:=mr hk (by rw [hx];rfl)
   rw [hcs,hr] at ht;cases ht
 have h:=oy hko hrn
 have h64 : ¬ c.toNat = 64:=by
  intro h64
  rw [hcs] at hrn
  simp [bJ,h64] at hrn
 have e : bs (c :: k) = c :: k:=by unfold bs;rw [hcs];simp [px,h64]
 rwa [e] at h
theorem k6 {ts : List Ty} {n : Nat} {s : ac8} {c : UInt8} (hc : c = 110 ∨ c = 116 ∨ c = 102) (hr : a7 ts [c] = none) : rd ts (n + 1) [c] s = if c = 110 then (cm 999999 s).map fun x=>(.nd 110 (bz x.1) 0 [],x.2) else if c = 116 then dm s else dZ s:=by
 rw [rd];unfold eJ
 dsimp only
 rcases hc with rfl | rfl | rfl <;> simp [hr]
theorem aaU {n r sc : Nat} {qs : List cF} {s : ac8} (hr : a7 (ao qs) [110] = none) (hs : s.length ≤ 1000) :
  dq ac7 126 [Pt r 0,Ag (ew [110])] G [dR r sc s false] (ia (rd (ao qs) (n + 1) [110]) r sc s false):=by
 have hrd:=k6 (ts:=ao qs) (n:=n) (s:=s) (c:=110) (.inl rfl) hr
 rw [if_pos rfl] at hrd
 have cx_sign:=@dD G [110] []
 have cx_nu:=lK (G:=G) (r:=r) (sc:=sc) (s:=s) (b:=false) (top:=999999) oM
 have hwl:=dK a8 s
 show dq ac7 126 [Pt r 0,Ag [S [],S [110],S []]] G [dR r sc s false] _
 refine bL [(0,_),(1,_)] Tryz.func126 kR Tryz.ntmps126 F F tU fun B hB hW=>?_
 repeat' (first | refine jR ?_ | (refine jo ?_;first | refine jO fun _=>?_ | refine jL fun _=>?_ | refine ah F ?_ | refine aB F ?_ | refine jV (al F F) ?_ | refine jC F F F ?_ | refine ab F F F cx_sign F ?_ | (refine af F F F cx_nu F ?_;rintro _ _ ⟨n1,rfl,⟨hn0,hn1⟩,hnum,rfl⟩;dsimp only [zA,fA]) | refine ab F F F (fV oM) F ?_) | refine ac F F ?_ | refine ad F F ?_)
 have hdl:=fT hn1
 cases hm : aR (s.takeWhile a8) 999999 with
 | none =>
  refine aP (vs:=[_]) F ⟨aF F F F F,trivial⟩ F sB ⟨Gh.le.refl _,.nd 110 (bz n1) 0 [],⟨110,bz n1,0,none,0,0⟩,s.dropWhile a8,true,F,bq dC dC,F,oM,fun h=>(by cases h),fun _=>⟨.inr (by rw [hrd];unfold cm;rw [hm];rfl),by simp only [V.tot,V.tots];omega⟩⟩
 | some m =>
  obtain rfl : n1 = m:=hnum m hm
  refine aP (vs:=[_]) F ⟨aF F F F F,trivial⟩ F sB ⟨Gh.le.refl _,.nd 110 (bz n1) 0 [],⟨110,bz n1,0,none,0,0⟩,s.dropWhile a8,false,F,bq dC dC,F,oM,fun _=>⟨F,by rw [hrd];unfold cm;rw [hm];rfl⟩,fun h=>(by cases h)⟩
theorem aaS {n r sc : Nat} {qs : List cF} {s : ac8} (hr : a7 (ao qs) [116] = none) (hs : s.length ≤ 1000) :
  dq ac7 126 [Pt r 0,Ag (ew [116])] G [dR r sc s false] (ia (rd (ao qs) (n + 1) [116]) r sc s false):=by
 have hrd:=k6 (ts:=ao qs) (n:=n) (s:=s) (c:=116) (.inr (.inl rfl)) hr
 rw [if_neg dC,if_pos rfl] at hrd
 have cx_sign:=@dD G [116] []
 have cx_qu:=zl (G:=G) (r:=r) (sc:=sc) (s:=s) (b:=false) oM
 show dq ac7 126 [Pt r 0,Ag [S [],S [116],S []]] G [dR r sc s false] _
 refine bL [(0,_),(1,_)] Tryz.func126 kR Tryz.ntmps126 F F tU fun B hB hW=>?_
 repeat' (first | refine jR ?_ | (refine jo ?_;first | refine jO fun _=>?_ | refine jL fun _=>?_ | refine ah F ?_ | refine aB F ?_ | refine jV (al F F) ?_ | refine jC F F F ?_ | refine ab F F F cx_sign F ?_ | (refine af F F F cx_qu F ?_;rintro _ _ ⟨x1,t1,b1,rfl,hQ,rfl⟩;dsimp only [zA,fA])) | refine ac F F ?_ | refine ad F F ?_)
 obtain ⟨hQl,hQ0,hQ1⟩:=hQ
 refine aP (vs:=[_]) F ⟨aF F F F F,trivial⟩ F sB ⟨Gh.le.refl _,.nd 116 x1 0 [],⟨116,x1,0,none,0,0⟩,t1,b1,F,bq dC dC,F,oM,fun h=>⟨F,by rw [hrd];exact (hQ0 h).2⟩,fun h=>⟨.inr (by rw [hrd];rcases hQ1 h with h | h;cases h;exact h),by simp only [V.tot,V.tots];omega⟩⟩
theorem aaW {n r sc : Nat} {qs : List cF} {s : ac8} (hr : a7 (ao qs) [102] = none) (hs : s.length ≤ 1000) :
  dq ac7 126 [Pt r 0,Ag (ew [102])] G [dR r sc s false] (ia (rd (ao qs) (n + 1) [102]) r sc s false):=by
 have hrd:=k6 (ts:=ao qs) (n:=n) (s:=s) (c:=102) (.inr (.inr rfl)) hr
 rw [if_neg dC,if_neg dC] at hrd
 unfold dZ at hrd
 have cx_sign:=@dD G [102] []
 have cx_tk:=gH (G:=G) (r:=r) (sc:=sc) (s:=s) (l:=[121,101,115]) (b:=false) ⟨oM,by simp⟩
 have cx_wa:=dx (G:=G) (r:=r) (sc:=sc) (s:=s) (l:=[110,111]) (b:=false) ⟨oM,by simp⟩
 have ey : ∀ l : ac8,cU l s false = l.isPrefixOf s:=fun l=>by simp [cU]
 have el : ∀ l : ac8,l.isPrefixOf s = true → s.length = l.length + (s.drop l.length).length:=fun l h=>by
  have:=pJ h
  have h2:=congrArg List.length this
  rwa [List.length_append] at h2
 show dq ac7 126 [Pt r 0,Ag [S [],S [102],S []]] G [dR r sc s false] _
 cases hy : ([121,101,115] : ac8).isPrefixOf s with
 | true =>
  have hl : s.length = 3 + (s.drop 3).length:=el _ hy
  unfold dL at cx_tk
  rw [ey,hy,if_pos rfl] at cx_tk
  rw [hy,if_pos rfl] at hrd
  refine bL [(0,_),(1,_)] Tryz.func126 kR Tryz.ntmps126 F F tU fun B hB hW=>?_
  repeat' (first | refine jR ?_ | (refine jo ?_;first | refine jO fun _=>?_ | refine jL fun _=>?_ | refine ah F ?_ | refine aB F ?_ | refine jV (al F F) ?_ | refine jC F F F ?_ | refine ab F F F cx_sign F ?_ | (refine af F F F cx_tk F ?_;rintro _ _ ⟨rfl,rfl⟩;dsimp only [zA,fA])) | refine ac F F ?_ | refine ad F F ?_)
  refine aP (vs:=[_]) F ⟨aF F F F F,trivial⟩ F sB ⟨Gh.le.refl _,.nd 102 [121,101,115] 0 [],⟨102,[121,101,115],0,none,0,0⟩,s.drop 3,false,F,bq dC dC,F,oM,fun _=>⟨F,hrd⟩,fun h=>(by cases h)⟩
 | false =>
  have h1 : cU [121,101,115] s false = false:=by rw [ey,hy]
  rw [h1,gc h1] at cx_tk
  rw [hy,if_neg dC] at hrd
  cases hno : ([110,111] : ac8).isPrefixOf s with
  | true =>
   have hl : s.length = 2 + (s.drop 2).length:=el _ hno
   unfold dL at cx_wa
   rw [ey,hno,if_pos rfl] at cx_wa
   rw [hno,if_pos rfl] at hrd
   refine bL [(0,_),(1,_)] Tryz.func126 kR Tryz.ntmps126 F F tU fun B hB hW=>?_
   repeat' (first | refine jR ?_ | (refine jo ?_;first | refine jO fun _=>?_ | refine jL fun _=>?_ | refine ah F ?_ | refine aB F ?_ | refine jV (al F F) ?_ | refine jC F F F ?_ | refine ab F F F cx_sign F ?_ | (refine af F F F cx_tk F ?_;rintro _ _ ⟨rfl,rfl⟩;dsimp only [zA,fA]) | (refine af F F F cx_wa F ?_;rintro _ _ rfl;dsimp only [zA,fA])) | refine ac F F ?_ | refine ad F F ?_)
   refine aP (vs:=[_]) F ⟨aF F F F F,trivial⟩ F sB ⟨Gh.le.refl _,.nd 102 [110,111] 0 [],⟨102,[110,111],0,none,0,0⟩,s.drop 2,false,F,bq dC dC,F,oM,fun _=>⟨F,hrd⟩,fun h=>(by cases h)⟩
  | false =>
   have h2 : cU [110,111] s false = false:=by rw [ey,hno]
   rw [h2,gc h2,Bool.not_false] at cx_wa
   rw [hno,if_neg dC] at hrd
   refine bL [(0,_),(1,_)] Tryz.func126 kR Tryz.ntmps126 F F tU fun B hB hW=>?_
   repeat' (first | refine jR ?_ | (refine jo ?_;first | refine jO fun _=>?_ | refine jL fun _=>?_ | refine ah F ?_ | refine aB F ?_ | refine jV (al F F) ?_ | refine jC F F F ?_ | refine ab F F F cx_sign F ?_ | (refine af F F F cx_tk F ?_;rintro _ _ ⟨rfl,rfl⟩;dsimp only [zA,fA]) | (refine af F F F cx_wa F ?_;rintro _ _ rfl;dsimp only [zA,fA])) | refine ac F F ?_ | refine ad F F ?_)
   refine aP (vs:=[_]) F ⟨aF F F F F,trivial⟩ F sB ⟨Gh.le.refl _,.nd 102 [110,111] 0 [],⟨102,[110,111],0,none,0,0⟩,s,true,F,bq dC dC,F,Nat.le_refl _,fun h=>(by cases h),fun _=>⟨.inr hrd,by simp only [V.tot,V.tots,List.length_cons,List.length_nil];omega⟩⟩
theorem aaX {n r sc : Nat} {qs : List cF} {c : UInt8} {k s : ac8} {t : Ty} (h91 : ¬ (c.toNat = 91 ∨ c.toNat = 63)) (hV : mS n sc qs) (hS : ScI G sc qs) (hw : SchW (ao qs)) (hk : aO (ao qs) (c :: k) = true) (hrf : a7 (ao qs) (c :: k) = some t) (hs : s.length < n + 1 ∧ s.length ≤ 1000) :
  dq ac7 126 [Pt r 0,Ag (ew (c :: k))] G [dR r sc s false] (ia (rd (ao qs) (n + 1) (c :: k)) r sc s false):=by
 have hko:=db hk
 have hsg:=mW (r:=k) h91
 have hcs:=fH (r:=k) h91
 have hrn : (bJ (br (c :: k))).isSome = true:=by
  rw [hcs];unfold a7 at hrf
  cases hx : bJ (c :: k) with
  | none=>rw [hx] at hrf;cases hrf
  | some x=>rfl
 have hbs : bs (c :: k) = [64]:=(nh hko).2 hrn
 have hnm : bJ (c :: k) = some (nm (c :: k)):=by
  unfold nm;rw [hcs] at hrn ⊢
  cases hx : bJ (c :: k) with
  | none=>rw [hx] at hrn;cases hrn
  | some x=>rfl
 have hft : gF (ao qs) (nm (c :: k)) = some t:=by unfold a7 at hrf;rw [hnm] at hrf;exact hrf
 have hkv:=gW qs (nm (c :: k))
 rw [← g6] at hft
 rcases hfq : eO qs (nm (c :: k)) with _ | ⟨p,t'⟩
 ·rw [hfq] at hft;cases hft
 rw [hfq] at hft hkv
 dsimp only [Option.map_some] at hft hkv
 have htt : t' = t:=Option.some.inj hft
 subst htt
 have hqm:=iw hfq
 have htm:=cj hrf
 have hW:=hw.ty t' htm
 have hT : iD G p t':=hS.ty _ hqm
 obtain ⟨u,m,g1,g2,g3⟩:=hS.at'
 have hrd : rd (ao qs) (n + 1) (c :: k) s = a9 (ao qs) (rd (ao qs) n) t' s:=by
  rw [rd];unfold eJ
  dsimp only
  rw [if_neg (fun h=>h91 (.inl h)),if_neg (fun h=>h91 (.inr h)),hrf]
 have cx_ot : dq ac7 171 [Pt r 0,Pt p 0] G [dR r sc s false] (ia (a9 (ao qs) (rd (ao qs) n) t') r sc s false):=by
  rcases hW.sort with h | h | h
  ·exact acd hV hS hw (fun d hd=>dT hw htm oM hd) hT hW h ⟨oM,oM⟩
  ·exact acb hV hS (fun d hd=>dT hw htm oM hd) hT hW h ⟨oM,oM⟩
  ·exact ace hT hW h ⟨oM,oM⟩
 have cx_sign:=@dD G [64] (nm (c :: k))
 unfold ew
 rw [hsg,hbs]
 clear hft hfq hnm hrn hcs
 refine bL [(0,_),(1,_)] Tryz.func126 kR Tryz.ntmps126 F F tU fun B hB hW=>?_
 repeat' (first | refine jR ?_ | (refine jo ?_;first | refine jO fun _=>?_ | refine jL fun _=>?_ | refine ah F ?_ | refine aB F ?_ | refine ab F F F cx_sign F ?_) | refine ad F F ?_)
 rename_i x3 x4
 (refine aj (am (id:=21) [.blk x3 (.cells (List.toArray [S [],S [64],S (nm (c :: k))]) ut (0,0))] (by intro y hy;simp only [List.mem_cons,List.not_mem_nil,or_false] at hy ⊢;simp [hy]) ai ?_);refine jW 8 [0,1,2,3,8] (aa 13 271) ?_;(refine jG (aa 13 783) 9 F (aq F F F) ?_);refine jA 4 F ?_;(refine ah F ?_);refine jK (aa 13 799) ?_;refine jW 4 [5,6] (aa 13 895) ?_;(refine jG (aa 13 1023) 7 F (aL F F aS F F) ?_);((refine jG (aa 13 2047) 10 F (cG F F (eN aS) aS F) ?_));refine jA 11 F ?_;(refine cI F F F cx_ot F ?_;rintro _ G1 _ hle ⟨u1,c1,t1,b1,rfl,hrep,rfl,hP⟩;dsimp only [zA,fA];skip);refine jK (aa 13 4095) ?_;refine jA 12 F ?_;(refine jC F F F ?_);refine jK (aa 13 8191) ?_;refine jQ ?_)
 all_goals repeat' (refine jR ?_)
 all_goals (obtain ⟨hPl,hP0,hP1⟩:=hP)
 all_goals refine aP (vs:=[_]) F ⟨aF F F F F,trivial⟩ F sB ⟨hle,u1,c1,t1,b1,F,hrep,F,hPl,fun h=>⟨F,by rw [hrd];exact (hP0 h).2⟩,fun h=>by rw [hrd];exact hP1 h⟩
theorem ri {sc : Nat} {qs : List cF} (hw : SchW (ao qs)) : ∀ n,mS n sc qs
 | 0=>fun G r k s b _ _ h _=>absurd h (Nat.not_lt_zero _)
 | n + 1=>fun G r k s b hS hk hn hs=>by
  have hV:=ri (sc:=sc) hw n
  cases b with
  | true =>
   exact sn.toM fun v L' ⟨h1,h2⟩=>⟨.nd 0 [] 0 [],⟨0,[],0,none,0,0⟩,s,true,h1,fC,h2,Nat.le_refl _,fun h=>(by cases h),fun _=>⟨.inl F,by simp only [V.tot,V.tots,List.length_nil];omega⟩⟩
  | false =>
   match k,hk with
   | [],hk=>cases hk
   | c :: k,hk =>
    by_cases h1 : c.toNat = 91
    ·obtain rfl:=bm h1 dC
     exact aaV hV hS hk ⟨hn,hs⟩
    by_cases h2 : c.toNat = 63
    ·obtain rfl:=bm h2 dC
     exact aaT F hV hS hk ⟨hn,hs⟩
    have h91 : ¬ (c.toNat = 91 ∨ c.toNat = 63):=fun h=>by rcases h with h | h <;> omega
    cases hr : a7 (ao qs) (c :: k) with
    | some t=>exact aaX h91 hV hS hw hk hr ⟨hn,hs⟩
    | none =>
     rcases eG hk h91 hr with e | e | e
     ·rw [e] at hr ⊢;exact aaU hr hs
     ·rw [e] at hr ⊢;exact aaS hr hs
     ·rw [e] at hr ⊢;exact aaW hr hs
end Go.E
