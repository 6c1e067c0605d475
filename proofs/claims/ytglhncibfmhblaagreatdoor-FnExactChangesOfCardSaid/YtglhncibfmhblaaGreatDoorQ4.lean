/- Contracts and plain laws that the statement rests on, part 4. Conditions: as each says. -/
import Derived.Test.YtglhncibfmhblaaGreatDoorQ3
set_option linter.unusedVariables false
set_option linter.unusedSimpArgs false
namespace Go.E
set_option maxRecDepth 20000
set_option maxHeartbeats 2000000
open Go.Proofs
variable {G : Gh}
theorem jj {t : Ty} : eS t = (ab t.fields 0).kind:=by
 unfold eS ab
 cases t.fields with
 | nil=>rfl
 | cons f r=>rfl
theorem kf {t : Ty} : tag0 t = (ab t.fields 0).tag:=by
 unfold tag0 ab
 cases t.fields with
 | nil=>rfl
 | cons f r=>rfl
theorem nh {n : Int} (h : 0 ≤ n ∧ n ≤ 9223372036854775807) : (be n).length ≤ 19:=gz h.2
theorem ud (k : adB) : (gH k).length ≤ 2:=by
 unfold gH
 split
 ·simp
 ·split
  ·simp
  ·split <;> simp
theorem SchW.tag0 {ts : List Ty} (h : SchW ts) {t : Ty} (ht : t ∈ ts) : 0 ≤ Go.E.tag0 t ∧ Go.E.tag0 t ≤ 200:=by
 rw [kf]
 by_cases h0 : 0 < t.fields.length
 ·have:=((h.ty t ht).fld _ (bB h0)).tag;omega
 ·have : t.fields = []:=List.eq_nil_of_length_eq_zero oM
  rw [this];exact ⟨Int.le_refl _,by decide⟩
theorem lH {ts : List Ty} (h : SchW ts) : ∀ (n : Nat) (k : adB),(bV ts n k).length ≤ 30 * n
 | 0,k=>by simp [bV]
 | n + 1,[]=>by simp [bV]
 | n + 1,c :: r=>by
  unfold bV
  split
  ·simp;omega
  ·split
   ·simp;omega
   ·split
    ·have:=ud (c :: r);omega
    ·rename_i t ht
     have h1:=h.tag0 (bj ht)
     have h2:=nh (n:=tag0 t) oM
     have h3:=lH h n (eS t)
     split
     ·simp;omega
     ·split
      ·simp;omega
      ·simp;omega
theorem dY {ts : List Ty} (h : SchW ts) {t : Ty} (ht : t ∈ ts) (hs : t.sort ≠ 69) {f : Fld} (hf : f ∈ t.fields) : aA ts f.kind = true:=by
 unfold aA
 rw [((h.ty t ht).fld f hf).kind hs,Bool.true_and]
 obtain ⟨i,hi,rfl⟩:=List.mem_iff_getElem.1 ht
 obtain ⟨j,hj,rfl⟩:=List.mem_iff_getElem.1 hf
 have h1:=(h.valid.1 i hi).2
 rw [aI hi] at h1
 rcases h1 with h1 | h1
 ·exact absurd h1 hs
 ·have:=h1 j hj
  rwa [aI hj] at this
theorem dL {ts : List Ty} {k : adB} (h : aA ts k = true) : bZ k = true:=by
 unfold aA at h;simp only [Bool.and_eq_true] at h;exact h.1
theorem gA {c : UInt8} {r : adB} (h : ¬ (c.toNat = 91 ∨ c.toNat = 63)) : bU (c :: r) = c :: r:=by rw [bU,if_neg h]
theorem qE {ts : List Ty} (h : SchW ts) {k : adB} (t : Ty) (ht : a8 ts k = some t) : cr ts (ts.length + 1) t = true:=by
 obtain ⟨i,hi,rfl⟩:=List.mem_iff_getElem.1 (bj ht)
 have:=h.valid.2 i hi
 rwa [aI hi] at this
theorem wT {u : Value} {vs : List cD} (h : SchR G u vs) (hw : SchW (ag vs)) : ∀ (n : Nat) {k : adB},n ≤ 1000 → aA (ag vs) k = true → (∀ t,a8 (ag vs) k = some t → cr (ag vs) n t = true) →
  aZ adA 142 [u,S k] G (· = S (bV (ag vs) (n + 1) k)):=by
 have hvl : vs.length ≤ 1000000:=by have:=hw.len;rw [qn] at this;omega
 intro n
 induction n with
 | zero =>
  intro k hn hk he
  have hko:=dL hk
  have hkk:=du hko
  match k,hkk with
  | c :: r,hkk =>
   have e0:=mt c r
   by_cases h1 : c.toNat = 91
   ·refine jE [(0,_),(1,_)] Tryz.func142 Tryz.ntmps142 fun B hB=>?_
    repeat' (first | refine jX ?_ | (refine ac F ?_ ?_;(focus ((simp [*];done);done))))
    all_goals refine jY (vs:=[_]) ?_
    all_goals (rw [aR];unfold bV;rw [if_pos h1])
   by_cases h2 : c.toNat = 63
   ·refine jE [(0,_),(1,_)] Tryz.func142 Tryz.ntmps142 fun B hB=>?_
    repeat' (first | refine jX ?_ | (refine ac F ?_ ?_;(focus ((simp [*];done);done))) | (refine ad F ?_ ?_;(focus ((simp [*];done);done))))
    all_goals refine jY (vs:=[_]) ?_
    all_goals (rw [aR];unfold bV;rw [if_neg h1,if_pos h2])
   have href:=fj vs (c :: r)
   have cx_rf:=i9 (k:=c :: r) h hvl hkk.1 oM
   cases hr : fg vs (c :: r) with
   | some x=>rw [hr] at href;have:=he _ href.symm;cases this
   | none =>
    rw [hr] at href cx_rf
    refine jE [(0,_),(1,_)] Tryz.func142 Tryz.ntmps142 fun B hB=>?_
    repeat' (first | refine jX ?_ | (refine jo ?_;first | refine jL fun _=>?_ | refine jC F F F ?_ | refine ae F F F cx_rf F ?_ | refine ae F F F rO F ?_) | refine ac F F ?_ | (refine ad F ?_ ?_;(focus ((simp;omega);done))))
    all_goals refine jY (vs:=[_]) ?_
    all_goals (rw [aR];unfold bV;rw [if_neg h1,if_neg h2,← href];rfl)
 | succ n ih =>
  intro k hn hk he
  have hko:=dL hk
  have hkk:=du hko
  match k,hkk with
  | c :: r,hkk =>
   have e0:=mt c r
   by_cases h1 : c.toNat = 91
   ·refine jE [(0,_),(1,_)] Tryz.func142 Tryz.ntmps142 fun B hB=>?_
    repeat' (first | refine jX ?_ | (refine ac F ?_ ?_;(focus ((simp [*];done);done))))
    all_goals refine jY (vs:=[_]) ?_
    all_goals (rw [aR];unfold bV;rw [if_pos h1])
   by_cases h2 : c.toNat = 63
   ·refine jE [(0,_),(1,_)] Tryz.func142 Tryz.ntmps142 fun B hB=>?_
    repeat' (first | refine jX ?_ | (refine ac F ?_ ?_;(focus ((simp [*];done);done))) | (refine ad F ?_ ?_;(focus ((simp [*];done);done))))
    all_goals refine jY (vs:=[_]) ?_
    all_goals (rw [aR];unfold bV;rw [if_neg h1,if_pos h2])
   have href:=fj vs (c :: r)
   have cx_rf:=i9 (k:=c :: r) h hvl hkk.1 oM
   rcases hr : fg vs (c :: r) with _ | ⟨⟨a,ca⟩,t⟩
   ·rw [hr] at href cx_rf
    refine jE [(0,_),(1,_)] Tryz.func142 Tryz.ntmps142 fun B hB=>?_
    repeat' (first | refine jX ?_ | (refine jo ?_;first | refine jL fun _=>?_ | refine jC F F F ?_ | refine ae F F F cx_rf F ?_ | refine ae F F F rO F ?_) | refine ac F F ?_ | (refine ad F ?_ ?_;(focus ((simp;omega);done))))
    all_goals refine jY (vs:=[_]) ?_
    all_goals (rw [aR];unfold bV;rw [if_neg h1,if_neg h2,← href];rfl)
   rw [hr] at href cx_rf
   have hrf : a8 (ag vs) (c :: r) = some t:=href.symm
   have htm:=bj hrf
   have hW:=hw.ty t htm
   have htg:=hw.tag0 htm
   rw [kf] at htg
   have e3 : bV (ag vs) (n + 1 + 1) (c :: r) = if t.sort = 82 then [123,125] else if t.sort = 69 then 35 :: be (tag0 t) else 60 :: (be (tag0 t) ++ 61 :: (bV (ag vs) (n + 1) (eS t) ++ [62])):=by
    rw [bV,if_neg h1,if_neg h2,hrf]
   rw [e3,kf,jj]
   clear e3
   by_cases s1 : t.sort = 82
   ·rw [if_pos s1]
    refine jE [(0,_),(1,_)] Tryz.func142 Tryz.ntmps142 fun B hB=>?_
    repeat' (first | refine jX ?_ | (refine jo ?_;first | refine jL fun _=>?_ | refine jC F F F ?_ | refine aB F ?_ | refine ae F F F cx_rf F ?_) | (refine ac F ?_ ?_;(focus ((simp [*];done);done))) | (refine ad F ?_ ?_;(focus ((first | rfl | (simp;omega));done))))
    all_goals refine jY (vs:=[_]) ?_
    all_goals rfl
   have h0 : 0 < t.fields.length:=List.length_pos_iff.2 (hW.ne s1)
   obtain ⟨bf,of,cf,ef,hsf⟩:=(h.fl _ (gp hr)).expl h0
   simp only [gm,Value.slice.injEq] at ef
   obtain ⟨rfl,-,rfl⟩:=ef
   dsimp only at hsf
   have cx_rf : aZ adA 136 [u,S (c :: r)] G (· = Tu [Ag [U8 t.sort,S t.name,.slice (some ⟨bf,of,none⟩) t.fields.length ca],Bo true]):=cx_rf
   have hdl:=nh (n:=(ab t.fields 0).tag) oM
   rw [if_neg s1]
   by_cases s2 : t.sort = 69
   ·rw [if_pos s2]
    refine jE [(0,_),(1,_)] Tryz.func142 Tryz.ntmps142 fun B hB=>?_
    repeat' (first | refine jX ?_ | (refine jo ?_;first | refine jL fun _=>?_ | refine jC F F F ?_ | refine aB F ?_ | (refine jV (b8 F F aS ?_ F F) ?_;focus omega) | refine jV (ak F F oM) ?_ | refine ae F F F cx_rf F ?_ | (refine ae F F F (fQ ?_) F ?_;(focus ((simp;omega);done)))) | refine ac F (ax oM) ?_ | (refine ad F ?_ ?_;(focus ((first | rfl | (refine decide_eq_false ?_;(omega)) | (simp;omega));done))))
    all_goals refine jY (vs:=[_]) ?_
    all_goals rfl
   have hin:=dY hw htm s2 (bB h0)
   have hen : ∀ t',a8 (ag vs) (ab t.fields 0).kind = some t' → cr (ag vs) n t' = true:=by
    intro t' ht'
    have:=he t hrf
    have s3 : t.sort = 85:=by rcases hW.sort with h | h | h <;> omega
    rw [cr,if_neg (by simp [s3]),jj,ht'] at this
    exact this
   have cx_std:=ih (k:=(ab t.fields 0).kind) oM hin hen
   have hsl:=lH hw (n + 1) (ab t.fields 0).kind
   rw [if_neg s2]
   refine jE [(0,_),(1,_)] Tryz.func142 Tryz.ntmps142 fun B hB=>?_
   repeat' (first | refine jX ?_ | (refine jo ?_;first | refine jL fun _=>?_ | refine jC F F F ?_ | refine aB F ?_ | refine ae F F F cx_rf F ?_) | (refine ad F ?_ ?_;(focus ((first | rfl | (refine decide_eq_false ?_;(omega)) | (simp;omega));done))) | (refine an (ao (id:=13) _ (fun _ h=>h) am ?_);refine jT 15 [0,8,9] (aa 18 769) ?_;(refine jG (aa 18 771) 1 F (aX F F F) ?_);(refine jG (aa 18 775) 2 F (ak F F oM) ?_);refine jT 12 [3] (aa 18 783) ?_;((refine jG (aa 18 799) 4 F (b8 F F aS ?_ F F) ?_;focus omega));(refine jG (aa 18 1823) 10 F (aX F F F) ?_);(refine jG (aa 18 3871) 11 F (ak F F oM) ?_);refine jT 8 [12] (aa 18 7967) ?_;((refine jG (aa 18 16159) 13 F (b8 F F aS ?_ F F) ?_;focus omega));refine jA 5 F ?_;((refine ae F F F (fQ ?_) F ?_;(focus ((simp;omega);done))));refine jS (aa 18 16191) ?_;refine jW 4 [6,7] (aa 18 16383) ?_;refine jA 14 F ?_;(refine ae F F F cx_std F ?_);refine jS (aa 18 32767) ?_;refine jW 0 [15,16,17] (aa 18 262143) ?_;refine jQ ?_))
   all_goals refine jY (vs:=[_]) ?_
   all_goals (rw [aR];simp)
theorem wV {u : Value} {vs : List cD} (h : SchR G u vs) (hw : SchW (ag vs)) {k : adB} (hk : aA (ag vs) k = true) : aZ adA 142 [u,S k] G (· = S (pj (ag vs) k)) :=
 wT h hw ((ag vs).length + 1) (by have:=hw.len;omega) hk (fun t ht=>qE hw t ht)
theorem nE {c : UInt8} {r : adB} (h : c.toNat = 91 ∨ c.toNat = 63) : sg (c :: r) = c :: sg r:=by
 unfold sg
 rw [bU,if_pos h]
 have:=kS r
 rw [List.length_cons,show r.length + 1 - (bU r).length = (r.length - (bU r).length) + 1 by omega]
 rfl
theorem nD {c : UInt8} {r : adB} (h : ¬ (c.toNat = 91 ∨ c.toNat = 63)) : sg (c :: r) = []:=by
 unfold sg;rw [gA h];simp
theorem fP {b c : adB} : aZ adA 90 [Ag [S [],S b,S c]] G (· = U8 (0 : Nat)):=by
 refine jE [(0,_)] Tryz.func90 Tryz.ntmps90 fun B hB=>?_
 repeat' (first | refine jR ?_ | (refine jo ?_;first | refine jO fun _=>?_ | refine aB F ?_) | refine ac F F ?_)
 all_goals refine jY (vs:=[_]) ?_
 all_goals rfl
theorem j8 {x : UInt8} {a b c : adB} : aZ adA 90 [Ag [S (x :: a),S b,S c]] G (· = U8 (x.toNat : Nat)):=by
 have e0:=mt x a
 refine jE [(0,_)] Tryz.func90 Tryz.ntmps90 fun B hB=>?_
 repeat' (first | refine jX ?_ | (refine jo ?_;first | refine jO fun _=>?_ | refine aB F ?_) | refine ad F F ?_)
 all_goals refine jY (vs:=[_]) ?_
 all_goals (rw [aR];(rfl))
theorem o4 {k : adB} (hk : bZ k = true) (hr : cx (bU k) = none) : bs k = [110] ∨ bs k = [116] ∨ bs k = [102]:=by
 have h:=me (du hk).1
 unfold bs
 cases hc : bU k with
 | nil=>rw [hc] at h;cases h
 | cons c r =>
  rw [hc] at h hr
  have h64 : ¬ c.toNat = 64:=by
   intro h64
   simp [cx,h64] at hr
  have h91 : ¬ (c.toNat = 91 ∨ c.toNat = 63):=nk hc
  have e : qd (c :: r) = c :: r:=by simp [qd,h64]
  rw [e]
  rw [fe,if_neg h91,if_neg h64] at h
  simp only [Bool.and_eq_true,Bool.or_eq_true,decide_eq_true_eq] at h
  obtain ⟨rfl,h⟩:=h
  have hu : ∀ n : Nat,c.toNat = n → n < 256 → c = UInt8.ofNat n:=fun n h1 h2=>by
   apply UInt8.toNat_inj.1;rw [h1,UInt8.toNat_ofNat'];omega
  rcases h with (h | h) | h
  ·exact .inl (by rw [hu _ h dC];rfl)
  ·exact .inr (.inl (by rw [hu _ h dC];rfl))
  ·exact .inr (.inr (by rw [hu _ h dC];rfl))
theorem ScI.W {b : Nat} {qs : List c6} (_ : ScI G b qs) (hw : SchW (al qs)) {q : c6} (hq : q ∈ qs) : q.2 ∈ al qs ∧ TyW q.2:=by
 have h1 : q.2 ∈ al qs:=List.mem_map_of_mem hq
 exact ⟨h1,hw.ty _ h1⟩
theorem sL {k : adB} (hs : sg k = []) (hk : bZ k = true) (hr : cx (bU k) = none) : gH k = gH (bs k):=by
 match k,hk with
 | c :: r,hk =>
  have h91 : ¬ (c.toNat = 91 ∨ c.toNat = 63):=fun h=>by rw [nE h] at hs;cases hs
  have hc:=gA (r:=r) h91
  have h64 : ¬ c.toNat = 64:=fun h64=>by rw [hc] at hr;simp [cx,h64] at hr
  unfold bs;rw [hc];simp [qd,h64]
theorem wU {b : Nat} {qs : List c6} (h : ScI G b qs) (hw : SchW (al qs)) : ∀ (n : Nat) {k : adB},n ≤ 1000 → aA (al qs) k = true → (∀ t,a8 (al qs) k = some t → cr (al qs) n t = true) →
  aZ adA 46 [Pt b 0,Ag [S (sg k),S (bs k),S (nm k)]] G (· = S (bV (al qs) (n + 1) k)):=by
 obtain ⟨u,m,g1,g2,g3⟩:=h.at'
 intro n
 induction n with
 | zero =>
  intro k hn hk he
  have hko:=dL hk
  match k,hko with
  | c :: r,hko =>
   by_cases h91 : c.toNat = 91 ∨ c.toNat = 63
   ·have cx_sign:=@j8 G c (sg r) (bs (c :: r)) (nm (c :: r))
    rw [nE h91]
    by_cases h1 : c.toNat = 91
    ·refine jE [(0,_),(1,_)] Tryz.func46 Tryz.ntmps46 fun B hB=>?_
     repeat' (first | refine jR ?_ | (refine jo ?_;first | refine jO fun _=>?_ | refine bM F ?_ | refine ae F F F cx_sign F ?_) | refine ac F (ax oM) ?_)
     all_goals refine jY (vs:=[_]) ?_
     all_goals (rw [aR];unfold bV;rw [if_pos h1])
    have h2 : c.toNat = 63:=oM
    refine jE [(0,_),(1,_)] Tryz.func46 Tryz.ntmps46 fun B hB=>?_
    repeat' (first | refine jR ?_ | (refine jo ?_;first | refine jO fun _=>?_ | refine bM F ?_ | refine ae F F F cx_sign F ?_) | refine ac F (ax oM) ?_ | refine ad F (aF oM) ?_)
    all_goals refine jY (vs:=[_]) ?_
    all_goals (rw [aR];unfold bV;rw [if_neg h1,if_pos h2])
   have hsg:=nD (r:=r) h91
   have hcs:=gA (r:=r) h91
   rw [hsg]
   cases hrf : a8 (al qs) (c :: r) with
   | some t=>have:=he t hrf;cases this
   | none =>
    have hrn : cx (bU (c :: r)) = none:=by
     cases hx : cx (bU (c :: r)) with
     | none=>rfl
     | some x =>
      obtain ⟨t,ht⟩:=m3 hk (by rw [hx];rfl)
      rw [hcs,hrf] at ht;cases ht
    have hpl:=sL hsg hko hrn
    have e3 : bV (al qs) (0 + 1) (c :: r) = gH (bs (c :: r)):=by
     rw [bV,if_neg oM,if_neg oM,hrf];exact hpl
    rw [e3]
    rcases o4 hko hrn with e | e | e
    all_goals
     rw [e]
     refine jE [(0,_),(1,_)] Tryz.func46 Tryz.ntmps46 fun B hB=>?_
     repeat' (first | refine jR ?_ | (refine jo ?_;first | refine jO fun _=>?_ | refine aB F ?_ | refine bM F ?_ | refine ae F F F fP F ?_) | refine ac F F ?_ | refine ad F F ?_)
     all_goals refine jY (vs:=[_]) ?_
     all_goals rfl
 | succ n ih =>
  intro k hn hk he
  have hko:=dL hk
  match k,hko with
  | c :: r,hko =>
   by_cases h91 : c.toNat = 91 ∨ c.toNat = 63
   ·have cx_sign:=@j8 G c (sg r) (bs (c :: r)) (nm (c :: r))
    rw [nE h91]
    by_cases h1 : c.toNat = 91
    ·refine jE [(0,_),(1,_)] Tryz.func46 Tryz.ntmps46 fun B hB=>?_
     repeat' (first | refine jR ?_ | (refine jo ?_;first | refine jO fun _=>?_ | refine bM F ?_ | refine ae F F F cx_sign F ?_) | refine ac F (ax oM) ?_)
     all_goals refine jY (vs:=[_]) ?_
     all_goals (rw [aR];unfold bV;rw [if_pos h1])
    have h2 : c.toNat = 63:=oM
    refine jE [(0,_),(1,_)] Tryz.func46 Tryz.ntmps46 fun B hB=>?_
    repeat' (first | refine jR ?_ | (refine jo ?_;first | refine jO fun _=>?_ | refine bM F ?_ | refine ae F F F cx_sign F ?_) | refine ac F (ax oM) ?_ | refine ad F (aF oM) ?_)
    all_goals refine jY (vs:=[_]) ?_
    all_goals (rw [aR];unfold bV;rw [if_neg h1,if_pos h2])
   have hsg:=nD (r:=r) h91
   have hcs:=gA (r:=r) h91
   rw [hsg]
   cases hrf : a8 (al qs) (c :: r) with
   | none =>
    have hrn : cx (bU (c :: r)) = none:=by
     cases hx : cx (bU (c :: r)) with
     | none=>rfl
     | some x =>
      obtain ⟨t,ht⟩:=m3 hk (by rw [hx];rfl)
      rw [hcs,hrf] at ht;cases ht
    have hpl:=sL hsg hko hrn
    have e3 : bV (al qs) (n + 1 + 1) (c :: r) = gH (bs (c :: r)):=by
     rw [bV,if_neg oM,if_neg oM,hrf];exact hpl
    rw [e3]
    rcases o4 hko hrn with e | e | e
    all_goals
     rw [e]
     refine jE [(0,_),(1,_)] Tryz.func46 Tryz.ntmps46 fun B hB=>?_
     repeat' (first | refine jR ?_ | (refine jo ?_;first | refine jO fun _=>?_ | refine aB F ?_ | refine bM F ?_ | refine ae F F F fP F ?_) | refine ac F F ?_ | refine ad F F ?_)
     all_goals refine jY (vs:=[_]) ?_
     all_goals rfl
   | some t =>
    have hrn : (cx (bU (c :: r))).isSome = true:=by
     rw [hcs];unfold a8 at hrf
     cases hx : cx (c :: r) with
     | none=>rw [hx] at hrf;cases hrf
     | some x=>rfl
    have hbs : bs (c :: r) = [64]:=(nM hko).2 hrn
    have hnm : cx (c :: r) = some (nm (c :: r)):=by
     unfold nm;rw [hcs] at hrn ⊢
     cases hx : cx (c :: r) with
     | none=>rw [hx] at hrn;cases hrn
     | some x=>rfl
    have hft : iw (al qs) (nm (c :: r)) = some t:=by unfold a8 at hrf;rw [hnm] at hrf;exact hrf
    have hkv:=fX qs (nm (c :: r))
    rw [← iR] at hft
    rcases hfq : fx qs (nm (c :: r)) with _ | ⟨p,t'⟩
    ·rw [hfq] at hft;cases hft
    rw [hfq] at hft hkv
    dsimp only [Option.map_some] at hft hkv
    have htt : t' = t:=Option.some.inj hft
    subst htt
    have hqm:=jk hfq
    have htm:=bj hrf
    have hW:=hw.ty t' htm
    have htg:=hw.tag0 htm
    rw [kf] at htg
    obtain ⟨fv,ln,hsg2,hfv⟩:=h.ty _ hqm
    dsimp only at hsg2 hfv
    have e3 : bV (al qs) (n + 1 + 1) (c :: r) = if t'.sort = 82 then [123,125] else if t'.sort = 69 then 35 :: be (tag0 t') else 60 :: (be (tag0 t') ++ 61 :: (bV (al qs) (n + 1) (eS t') ++ [62])):=by
     rw [bV,if_neg oM,if_neg oM,hrf]
    rw [e3,kf,jj,hbs]
    clear e3 hcs hsg hrn hnm hbs
    by_cases s1 : t'.sort = 82
    ·rw [if_pos s1]
     refine jE [(0,_),(1,_)] Tryz.func46 Tryz.ntmps46 fun B hB=>?_
     repeat' (first | refine jR ?_ | (refine jo ?_;first | refine jO fun _=>?_ | refine aB F ?_ | refine bM F ?_ | refine jV (aj F F aS F F) ?_ | refine ae F F F fP F ?_) | refine ac F (ax oM) ?_ | refine ad F F ?_ | (refine an (ao (id:=13) _ (fun _ h=>h) am ?_);refine jT 4 [0,1,2,4] (aa 8 23) ?_;(refine jG (aa 8 31) 3 F (aj F F aS F F) ?_);(refine jG (aa 8 63) 5 F (aX F F F) ?_);((refine jG (aa 8 127) 6 F (db F F (fW aS) aS F) ?_));refine jT 0 [7] (aa 8 255) ?_;refine jQ ?_))
     all_goals refine jY (vs:=[_]) ?_
     all_goals rfl
    have h0 : 0 < t'.fields.length:=List.length_pos_iff.2 (hW.ne s1)
    obtain ⟨bf,of,cf,rfl,hsf⟩:=hfv.expl h0
    have hdl:=nh (n:=(ab t'.fields 0).tag) oM
    rw [if_neg s1]
    by_cases s2 : t'.sort = 69
    ·rw [if_pos s2]
     refine jE [(0,_),(1,_)] Tryz.func46 Tryz.ntmps46 fun B hB=>?_
     repeat' (first | refine jX ?_ | (refine jo ?_;first | refine jO fun _=>?_ | refine aB F ?_ | (refine jV (b8 F F aS ?_ F F) ?_;focus omega) | refine bM F ?_ | refine jV (aj F F aS F F) ?_ | refine jV (ak F F oM) ?_ | refine ae F F F fP F ?_ | (refine ae F F F (iB ?_) F ?_;(focus ((simp;omega);done)))) | refine ac F (ax oM) ?_ | (refine ad F (by first | rfl | (refine decide_eq_false ?_;(omega))) ?_) | (refine an (ao (id:=13) _ (fun _ h=>h) am ?_);refine jT 4 [0,1,2,4] (aa 8 23) ?_;(refine jG (aa 8 31) 3 F (aj F F aS F F) ?_);(refine jG (aa 8 63) 5 F (aX F F F) ?_);((refine jG (aa 8 127) 6 F (db F F (fW aS) aS F) ?_));refine jT 0 [7] (aa 8 255) ?_;refine jQ ?_))
     all_goals refine jY (vs:=[_]) ?_
     all_goals rfl
    have hin:=dY hw htm s2 (bB h0)
    have hen : ∀ t2,a8 (al qs) (ab t'.fields 0).kind = some t2 → cr (al qs) n t2 = true:=by
     intro t2 ht2
     have:=he t' hrf
     have s3 : t'.sort = 85:=by rcases hW.sort with h | h | h <;> omega
     rw [cr,if_neg (by simp [s3]),jj,ht2] at this
     exact this
    have cx_std:=ih (k:=(ab t'.fields 0).kind) oM hin hen
    have hsl:=lH hw (n + 1) (ab t'.fields 0).kind
    rw [if_neg s2]
    refine jE [(0,_),(1,_)] Tryz.func46 Tryz.ntmps46 fun B hB=>?_
    repeat' (first | refine jR ?_ | (refine jo ?_;first | refine jO fun _=>?_ | refine aB F ?_ | refine bM F ?_ | refine jV (aj F F aS F F) ?_ | refine ae F F F fP F ?_) | (refine ad F (by first | rfl | (refine decide_eq_false ?_;(omega))) ?_) | (refine an (ao (id:=13) _ (fun _ h=>h) am ?_);refine jT 4 [0,1,2,4] (aa 8 23) ?_;(refine jG (aa 8 31) 3 F (aj F F aS F F) ?_);(refine jG (aa 8 63) 5 F (aX F F F) ?_);((refine jG (aa 8 127) 6 F (db F F (fW aS) aS F) ?_));refine jT 0 [7] (aa 8 255) ?_;refine jQ ?_) | (refine an (ao (id:=19) _ (fun _ h=>h) am ?_);refine jT 15 [0,1,2,10,11,12,13] (aa 22 15367) ?_;(refine jG (aa 22 15375) 3 F (aj F F aS F F) ?_);(refine jG (aa 22 15391) 4 F (ak F F oM) ?_);refine jT 12 [5] (aa 22 15423) ?_;((refine jG (aa 22 15487) 6 F (b8 F F aS ?_ F F) ?_;focus omega));(refine jG (aa 22 31871) 14 F (aj F F aS F F) ?_);(refine jG (aa 22 64639) 15 F (ak F F oM) ?_);refine jT 8 [16] (aa 22 130175) ?_;((refine jG (aa 22 261247) 17 F (f9 F F aS ?_ F F) ?_;focus omega));refine jA 7 F ?_;((refine ae F F F (iB ?_) F ?_;(focus ((simp;omega);done))));refine jS (aa 22 261375) ?_;refine jW 4 [8,9] (aa 22 262143) ?_;refine jA 18 F ?_;(refine ae F F F cx_std F ?_);refine jS (aa 22 524287) ?_;refine jW 0 [19,20,21] (aa 22 4194303) ?_;refine jQ ?_))
    all_goals refine jY (vs:=[_]) ?_
    all_goals (rw [aR];simp)
theorem wW {b : Nat} {qs : List c6} (h : ScI G b qs) (hw : SchW (al qs)) {k : adB} (hk : aA (al qs) k = true) : aZ adA 46 [Pt b 0,Ag [S (sg k),S (bs k),S (nm k)]] G (· = S (pj (al qs) k)) :=
 wU h hw ((al qs).length + 1) (by have:=hw.len;omega) hk (fun t ht=>qE hw t ht)
theorem uR {α : Type} [Inhabited α] {p : α → Bool} : ∀ {l : List α} {i : Nat},i < l.length → (∀ k,k < i → p (ab l k) = false) → p (ab l i) = true → l.find? p = some (ab l i)
 | [],i,hi,_,_=>by simp at hi
 | a :: l,0,_,_,h=>by
  have h : p a = true:=h
  rw [List.find?_cons,h];rfl
 | a :: l,i + 1,hi,hno,h=>by
  have h0 : p a = false:=hno 0 oM
  rw [List.find?_cons,h0]
  exact uR (l:=l) (i:=i) (by simpa using hi) (fun k hk=>hno (k + 1) oM) h
theorem zQ {α : Type} [Inhabited α] {p : α → Bool} {l : List α} (hno : ∀ k,k < l.length → p (ab l k) = false) : l.find? p = none:=by
 rw [List.find?_eq_none]
 intro x hx
 obtain ⟨i,hi,rfl⟩:=List.mem_iff_getElem.1 hx
 have:=hno i hi
 rw [aI hi] at this
 simp [this]
theorem uP {fs : List Fld} {tag : Int} {i : Nat} (hi : i < fs.length) (hno : ∀ k,k < i → (ab fs k).tag ≠ tag) (h : (ab fs i).tag = tag) : co fs tag = some (ab fs i) :=
 uR hi (fun k hk=>by simpa using hno k hk) (by simpa using h)
theorem zN {fs : List Fld} {tag : Int} (hno : ∀ k,k < fs.length → (ab fs k).tag ≠ tag) : co fs tag = none:=zQ fun k hk=>by simpa using hno k hk
theorem gw {fs : List Fld} {tag : Int} {f : Fld} (h : co fs tag = some f) : ∃ i,i < fs.length ∧ (∀ k,k < i → (ab fs k).tag ≠ tag) ∧ (ab fs i).tag = tag ∧ ab fs i = f:=by
 have hex : ∃ i,i < fs.length ∧ (ab fs i).tag = tag:=by
  have hm:=List.mem_of_find?_eq_some h
  have ht:=List.find?_some h
  obtain ⟨i,hi,rfl⟩:=List.mem_iff_getElem.1 hm
  exact ⟨i,hi,by rw [aI hi];simpa using ht⟩
 obtain ⟨i,hi,ht⟩:=hex
 induction i using Nat.strongRecOn with
 | _ i ih =>
  by_cases hc : ∃ k,k < i ∧ (ab fs k).tag = tag
  ·obtain ⟨k,hk,hkt⟩:=hc
   exact ih k hk oM hkt
  ·have hno : ∀ k,k < i → (ab fs k).tag ≠ tag:=fun k hk e=>hc ⟨k,hk,e⟩
   refine ⟨i,hi,hno,ht,?_⟩
   rw [uP hi hno ht] at h
   exact Option.some.inj h
abbrev zF : Fld:=⟨0,[],[],[]⟩
abbrev aca : TypeId:=136
abbrev adf : TypeId:=134
theorem tQ {x : cD} {tag : Int} (hf : aT G (gm x) 4 x.2.fields.length (ah hO x.2.fields)) (hl : x.2.fields.length ≤ 1000) :
  aZ adA 141 [Ag [U8 x.2.sort,S x.2.name,gm x],I tag] G (· = Tu [Ag (hO ((co x.2.fields tag).getD zF)),Bo (co x.2.fields tag).isSome]):=by
 obtain ⟨⟨a,ca⟩,t⟩:=x
 simp only [gm] at hf ⊢
 dsimp only at hl
 refine jE [(0,_),(1,_)] Tryz.func141 Tryz.ntmps141 fun B hB=>?_
 repeat' (first | refine jR ?_ | (refine jo ?_;first | refine jO fun _=>?_ | refine jL fun _=>?_))
 rename_i y z
 refine aV (ι:=Nat) (fun i=>i ≤ t.fields.length ∧ ∀ k,k < i → (ab t.fields k).tag ≠ tag) (fun i=>[(1,I tag),(2,Pt y 0),(4,Pt z 0),(6,I i)]) (fun _=>G) (fun i=>[.blk z (.cells [I 0,S [],S [],S []].toArray aca (0,0)),.blk y (.cells [U8 t.sort,S t.name,.slice a t.fields.length ca].toArray adf (0,0))]) (fun i=>t.fields.length - i) 0 ?_ tU F a7 (fun i Hi=>?_)
 ·exact ⟨Nat.zero_le _,fun k hk=>absurd hk oM⟩
 by_cases hi : i < t.fields.length
 ·obtain ⟨bf,of,cf,e,hs⟩:=hf.expl oM
  simp only [Value.slice.injEq] at e
  obtain ⟨rfl,-,rfl⟩:=e
  repeat' (first | refine jM ?_ | (refine jo ?_;first | refine aB F ?_ | (refine jV (dM F F aS ?_) ?_;focus omega) | (refine jV (b8 F F aS ?_ F F) ?_;focus omega) | refine jV (af F) ?_ | refine jV (ak F F oM) ?_ | refine jC F F F ?_) | refine ac F (ax oM) ?_ | refine eA F (fun _=>?_) (fun _=>?_))
  ·rename_i he
   refine jZ (vs:=[_,_]) F ⟨aJ F F F F,F,trivial⟩ F ⟨F,F,?_⟩
   rw [uP hi Hi.2 he];rfl
  ·rename_i he
   refine bm (i + 1) ⟨oM,fun k hk=>?_⟩ oM tU F a7
   rcases Nat.lt_or_ge k i with h3 | h3
   ·exact Hi.2 k h3
   ·have : k = i:=oM
    subst this;exact he
 ·repeat' (first | refine jR ?_ | (refine jo ?_;first | refine aB F ?_ | refine jV (af F) ?_ | refine jC F F F ?_ | refine jV (ay F F) ?_) | refine ad F (aF oM) ?_)
  refine jZ (vs:=[_,_]) F ⟨aJ F F F F,F,trivial⟩ F ⟨F,F,?_⟩
  rw [zN fun k hk=>Hi.2 k oM];rfl
theorem jm {b : Nat} {t : Ty} {fv : Value} {ln : adB} {tag : Int} (hs : bT G b 0 [U8 t.sort,S t.name,fv,S ln]) (hf : aT G fv 6 t.fields.length (ah gx t.fields)) (hl : t.fields.length ≤ 1000) (h : co t.fields tag = none) :
  aZ adA 64 [Pt b 0,I tag] G (· = .pointer none):=by
 have hno : ∀ k,k < t.fields.length → (ab t.fields k).tag ≠ tag:=fun k hk e=>by
  have h1:=List.find?_eq_none.1 h (ab t.fields k) (bB hk)
  exact h1 (by simpa using e)
 refine jE [(0,_),(1,_)] Tryz.func64 Tryz.ntmps64 fun B hB=>?_
 repeat' (first | refine jR ?_ | (refine jo ?_;first | refine jV (aj F F aS F F) ?_ | refine jV (eY F aS) ?_))
 refine aV (ι:=Nat) (fun i=>i ≤ t.fields.length) (fun i=>[(0,Pt b 0),(1,I tag),(10,I t.fields.length),(11,I i)]) (fun _=>G) (fun i=>[]) (fun i=>t.fields.length - i) 0 ?_ tU F a7 (fun i Hi=>?_)
 ·exact Nat.zero_le _
 by_cases hi : i < t.fields.length
 ·obtain ⟨bf,of,cf,rfl,hsf⟩:=hf.expl oM
  have h2:=hno i hi
  repeat' (first | refine jM ?_ | (refine jo ?_;first | (refine jV (b8 F F aS ?_ F F) ?_;focus omega) | refine jV (aj F F aS F F) ?_ | refine jV (ak F F oM) ?_) | refine ac F (ax oM) ?_ | refine ad F (aF ‹_›) ?_)
  exact bm (i + 1) oM oM tU F a7
 ·repeat' (first | refine jR ?_ | refine ad F (aF oM) ?_)
  refine jY (vs:=[_]) ?_
  rfl
theorem gE {b bf of cf j : Nat} {t : Ty} {ln : adB} {tag : Int} (hs : bT G b 0 [U8 t.sort,S t.name,.slice (some ⟨bf,of,none⟩) t.fields.length cf,S ln]) (hsf : bT G bf of (ah gx t.fields)) (hl : t.fields.length ≤ 1000) (hj : j < t.fields.length) (hno : ∀ k,k < j → (ab t.fields k).tag ≠ tag) (hat : (ab t.fields j).tag = tag) :
  aZ adA 64 [Pt b 0,I tag] G (· = Pt bf (of + j * 6)):=by
 refine jE [(0,_),(1,_)] Tryz.func64 Tryz.ntmps64 fun B hB=>?_
 repeat' (first | refine jR ?_ | (refine jo ?_;first | refine jV (aj F F aS F F) ?_ | refine jV (af F) ?_))
 refine aV (ι:=Nat) (fun i=>i ≤ j) (fun i=>[(0,Pt b 0),(1,I tag),(10,I t.fields.length),(11,I i)]) (fun _=>G) (fun i=>[]) (fun i=>t.fields.length - i) 0 ?_ tU F a7 (fun i Hi=>?_)
 ·exact Nat.zero_le _
 by_cases hij : i = j
 ·subst hij
  repeat' (first | refine jR ?_ | (refine jo ?_;first | (refine jV (b8 F F aS ?_ F F) ?_;focus omega) | refine jV (aj F F aS F F) ?_ | refine jV (ak F F oM) ?_) | (refine ac F (by refine decide_eq_true ?_;first | assumption | omega) ?_))
  all_goals refine jY (vs:=[_]) ?_
  all_goals rfl
 ·have h2:=hno i oM
  repeat' (first | refine jM ?_ | (refine jo ?_;first | (refine jV (b8 F F aS ?_ F F) ?_;focus omega) | refine jV (aj F F aS F F) ?_ | refine jV (ak F F oM) ?_) | refine ac F (ax oM) ?_ | refine ad F (aF ‹_›) ?_)
  exact bm (i + 1) oM oM tU F a7
theorem mg {u : Value} {vs : List cD} {f : Fld} (h : SchR G u vs) (hw : SchW (ag vs)) (hk : aA (ag vs) f.kind = true) :
  aZ adA 102 [u,Ag [I f.tag,S f.name,S f.kind,S f.stand]] G (· = S (bR (ag vs) f)):=by
 have cx_std:=wV h hw hk
 unfold bR
 by_cases hs : f.stand = []
 ·rw [if_pos hs,hs]
  refine jE [(0,_),(1,_)] Tryz.func102 Tryz.ntmps102 fun B hB=>?_
  repeat' (first | refine jR ?_ | (refine jo ?_;first | refine jO fun _=>?_ | refine aB F ?_ | refine ae F F F cx_std F ?_) | refine ad F F ?_)
  all_goals refine jY (vs:=[_]) ?_
  all_goals rfl
 ·rw [if_neg hs]
  refine jE [(0,_),(1,_)] Tryz.func102 Tryz.ntmps102 fun B hB=>?_
  repeat' (first | refine jR ?_ | (refine jo ?_;first | refine jO fun _=>?_ | refine aB F ?_) | refine ac F (ax ‹_›) ?_)
  all_goals refine jY (vs:=[_]) ?_
  all_goals rfl
theorem vV {b bf of j : Nat} {qs : List c6} {fs : List Fld} (h : ScI G b qs) (hw : SchW (al qs)) (hsf : bT G bf of (ah gx fs)) (hj : j < fs.length) (hk : aA (al qs) (ab fs j).kind = true) :
  aZ adA 111 [Pt b 0,Pt bf (of + j * 6)] G (· = S (bR (al qs) (ab fs j))):=by
 have cx_std:=wW h hw hk
 unfold bR
 by_cases hs : (ab fs j).stand = []
 ·rw [if_pos hs]
  have hs2 : ¬ (ab fs j).stand ≠ []:=fun h=>h hs
  refine jE [(0,_),(1,_)] Tryz.func111 Tryz.ntmps111 fun B hB=>?_
  repeat' (first | refine jR ?_ | (refine jo ?_;first | (refine jV (b8 F F aS ?_ F F) ?_;focus omega) | (refine jV (f9 F F aS ?_ F F) ?_;focus omega) | refine ae F F F cx_std F ?_) | refine ad F (aF ‹_›) ?_)
  all_goals refine jY (vs:=[_]) ?_
  all_goals rfl
 ·rw [if_neg hs]
  refine jE [(0,_),(1,_)] Tryz.func111 Tryz.ntmps111 fun B hB=>?_
  repeat' (first | refine jR ?_ | (refine jo ?_;(refine jV (b8 F F aS ?_ F F) ?_;focus omega)) | refine ac F (ax ‹_›) ?_)
  all_goals refine jY (vs:=[_]) ?_
  all_goals rfl
abbrev dc : TypeId:=61
abbrev aaD : TypeId:=9
theorem bI {w : Nat} {x : adB} {t : Int} {ks : List V} : V.tot (.nd w x t ks) = 20 + x.length + V.tots ks:=by rw [V.tot]
theorem eh : ∀ (n : Nat) {v : V} {c : VC},v.tot ≤ n → v.tot ≤ 1000000 → V.rep G v c → aZ adA 48 [Ag (bi c)] G (· = S v.out):=by
 intro n
 induction n with
 | zero=>intro v c h1 _ _;have:=iJ v;omega
 | succ n ih =>
  intro v c h1 h2 h
  obtain ⟨w,x,t,ks⟩:=v
  rw [bI] at h1 h2
  obtain ⟨a,k,cs,rfl,hw,ht,h61,hcl,hsl,hks⟩:=cS h
  have hkl:=dk ks
  have hol:=kl ks
  have hjl:=oF hks
  have hj2:=gv 44 (V.outs ks)
  rw [hol] at hj2
  simp only [bi,VC.sl]
  refine jB (Post:=fun v G' L'=>G' = G ∧ L' = [] ∧ _) [(0,_)] Tryz.func48 Tryz.ntmps48 fun B hok hB hW=>?_
  repeat' (first | refine jR ?_ | (refine jo ?_;first | refine jO fun _=>?_ | refine aB F ?_ | refine jV (af F) ?_))
  rename_i bv
  refine Nx.addNil aaD 1 ?_
  refine aV (ι:=Nat × Value) (fun q=>q.1 ≤ ks.length) (fun q=>[(1,Pt bv 0),(2,S []),(3,q.2),(8,.slice a ks.length k),(9,I ks.length),(10,I q.1)]) (fun _=>G) (fun q=>[.acc q.2 aaD 1 q.1 (ah c9 ((V.outs ks).take q.1)),.blk bv (.cells (List.toArray [U8 w,S x,I t,.slice a ks.length k]) dc (0,0))]) (fun q=>ks.length - q.1) (0,aK) ?_ tU F a7 (fun q Hq=>?_)
  ·exact Nat.zero_le _
  obtain ⟨i,pv⟩:=q
  dsimp only at Hq ⊢
  by_cases hi : i < ks.length
  ·have hti:=j4 hi
   have cx_pr:=ih oM oM (fV hks i hi)
   obtain ⟨bf,of,cf,e,hs⟩:=hsl.expl oM
   simp only [Value.slice.injEq] at e
   obtain ⟨rfl,-,rfl⟩:=e
   repeat' (first | refine jM ?_ | (refine jo ?_;first | (refine jV (dM F F aS ?_) ?_;focus omega) | refine bM F ?_ | refine jV (ak F F oM) ?_ | refine jL fun _=>?_ | refine jC F F F ?_ | refine jF fun _=>?_ | refine bC F F F F F F F F F oM fun _ _=>?_ | refine ae F F F cx_pr F ?_) | refine ac F (ax oM) ?_)
   have e2 : ah c9 ((V.outs ks).take i) ++ [S (ab ks i).out] = ah c9 ((V.outs ks).take (i + 1)):=by rw [dl oM,bW,lP hi];rfl
   rw [e2]
   exact bm (i + 1,_) (by dsimp only;omega) (by dsimp only;omega) tU rfl sB
  ·have hin : i = ks.length:=oM
   subst hin
   refine Nx.sealA .here fun G1 hG1 hsP=>?_
   rw [← hol,List.take_length] at hsP
   have cx_join:=xi (c:=44) hsP oM
   have hd:=gL ht.2
   have hE : ks.isEmpty = decide (ks.length = 0):=by cases ks <;> simp
   repeat' (first | refine jX ?_ | (refine jo ?_;first | refine aB F ?_ | refine jV (af F) ?_ | refine ae F F F cx_join F ?_ | refine ae F F F (iB oM) F ?_) | refine ad F (aF oM) ?_ | refine eA F (fun _=>?_) (fun _=>?_))
   all_goals refine Nx.base hok hB ?_
   all_goals refine jY (vs:=[_]) ?_
   all_goals (rw [aR,V.out,hE];unfold c5;simp only [decide_eq_true_eq];repeat (first | rw [if_pos oM] | rw [if_neg oM]))
   all_goals (first | rfl | (simp;done))
theorem wN {x : adB} {t : Int} {u : V} : V.deep (.nd 61 x t [u]) = u.deep:=by rw [V.deep,if_pos rfl,V.deeps,V.deeps,Nat.max_zero]
theorem pS (v : V) : ∀ (ks : List V),V.deeps (ks ++ [v]) = max (V.deeps ks) v.deep
 | []=>by simp [V.deeps]
 | u :: r=>by simp only [List.cons_append,V.deeps,pS v r];omega
mutual
theorem oQ : ∀ v : V,v.deep ≤ v.tot
 | .nd w x t ks=>by
  have:=ng ks
  rw [V.deep,V.tot];split <;> omega
theorem ng : ∀ ks : List V,V.deeps ks ≤ V.tots ks
 | []=>by simp [V.deeps]
 | v :: r=>by
  have:=oQ v
  have:=ng r
  rw [V.deeps,V.tots];omega
end
theorem xa : ∀ (n : Nat) {v : V} {c : VC},v.tot ≤ n → v.tot ≤ 1000000 → V.rep G v c → aZ adA 108 [Ag (bi c)] G (· = I (v.deep : Nat)):=by
 intro n
 induction n with
 | zero=>intro v c h1 _ _;have:=iJ v;omega
 | succ n ih =>
  intro v c h1 h2 h
  obtain ⟨w,x,t,ks⟩:=v
  rw [bI] at h1 h2
  obtain ⟨a,k,cs,rfl,hw,ht,h61,hcl,hsl,hks⟩:=cS h
  have hkl:=dk ks
  simp only [bi,VC.sl]
  by_cases hq : w = 61
  ·have hk1:=h61 hq
   have hti:=j4 (ks:=ks) (i:=0) oM
   have cx_dp:=ih oM oM (fV hks 0 oM)
   obtain ⟨bf,of,cf,e,hs⟩:=hsl.expl oM
   simp only [Value.slice.injEq] at e
   obtain ⟨rfl,-,rfl⟩:=e
   refine jE [(0,_)] Tryz.func108 Tryz.ntmps108 fun B hB=>?_
   repeat' (first | refine jR ?_ | (refine jo ?_;first | refine jO fun _=>?_ | refine aB F ?_ | (refine jV (dM F F aS ?_) ?_;focus omega) | refine jV (aQ F F oM) ?_ | refine ae F F F cx_dp F ?_) | refine ac F (ax oM) ?_)
   refine jY (vs:=[_]) ?_
   rw [aR]
   obtain ⟨u,rfl⟩:=List.length_eq_one_iff.1 hk1
   subst hq
   rw [wN];rfl
  ·rw [eg hq]
   refine jE [(0,_)] Tryz.func108 Tryz.ntmps108 fun B hB=>?_
   repeat' (first | refine jR ?_ | (refine jo ?_;first | refine jO fun _=>?_ | refine aB F ?_ | refine jV (af F) ?_) | refine ad F (aF oM) ?_)
   rename_i bv
   refine Nx.re (d:=3) (v':=I (V.deeps (ks.take 0) : Nat)) F F ?_
   refine aV (ι:=Nat) (fun i=>i ≤ ks.length) (fun i=>[(3,I (V.deeps (ks.take i) : Nat)),(15,.slice a ks.length k),(16,I ks.length),(17,I i)]) (fun _=>G) (fun i=>[]) (fun i=>ks.length - i) 0 ?_ tU F (by repeat (exact List.nil_sublist _)) (fun i Hi=>?_)
   ·exact Nat.zero_le _
   by_cases hi : i < ks.length
   ·have hti:=j4 hi
    have cx_dp:=ih oM oM (fV hks i hi)
    obtain ⟨bf,of,cf,e,hs⟩:=hsl.expl oM
    simp only [Value.slice.injEq] at e
    obtain ⟨rfl,-,rfl⟩:=e
    repeat' (first | refine jM ?_ | (refine jo ?_;first | (refine jV (dM F F aS ?_) ?_;focus omega) | refine bM F ?_ | refine jV (ak F F oM) ?_ | refine jL fun _=>?_ | refine jC F F F ?_ | refine jV (acu F F) ?_ | refine ae F F F cx_dp F ?_) | refine ac F (ax oM) ?_)
    refine Nx.re (d:=3) (v':=I (V.deeps (ks.take (i + 1)) : Nat)) F (congrArg (Value.int .i64) (by rw [dl hi,pS];omega)) ?_
    exact bm (i + 1) oM oM tU F (by repeat (exact List.nil_sublist _))
   ·have hin : i = ks.length:=oM
    subst hin
    rw [List.take_length]
    have hdt:=ng ks
    repeat' (first | refine jM ?_ | refine ad F (aF oM) ?_)
    refine jY (vs:=[_]) ?_
    rw [aR];congr 1
abbrev adh : TypeId:=170
theorem t3 {s p : adB} (hs : s.length ≤ 1000000 ∧ p.length ≤ 1000000) : aZ adA 184 [S s,S p] G (· = Tu [S (if p.isPrefixOf s = true then s.drop p.length else s),Bo (p.isPrefixOf s)]):=by
 have cx_hp : aZ adA 122 [S s,S p] G (· = Bo (p.isPrefixOf s)):=iE
 cases hp : p.isPrefixOf s with
 | false =>
  rw [hp] at cx_hp
  refine jE [(0,_),(1,_)] Tryz.func184 Tryz.ntmps184 fun B hB=>?_
  repeat' (first | refine jR ?_ | (refine jo ?_;refine ae F F F iE F ?_) | (refine ac F ?_ ?_;(focus ((simp [*];done);done))))
  refine jY (vs:=[_,_]) ?_
  rfl
 | true =>
  rw [hp] at cx_hp
  have hl : p.length ≤ s.length:=by
   have:=List.isPrefixOf_iff_prefix.1 hp
   exact this.length_le
  refine jE [(0,_),(1,_)] Tryz.func184 Tryz.ntmps184 fun B hB=>?_
  repeat' (first | refine jM ?_ | (refine jo ?_;refine ae F F F iE F ?_) | (refine ad F ?_ ?_;(focus ((simp [*];done);done))))
  refine jY (vs:=[_,_]) ?_
  rfl
theorem um {s p : adB} (hs : s.length ≤ 1000000 ∧ p.length ≤ 1000000) : aZ adA 170 [S s,S p] G (· = Tu [S (if p.isPrefixOf s = true then s.drop p.length else s),Bo (p.isPrefixOf s)]):=by
 have cx_cp:=t3 (G:=G) hs
 refine jE [(0,_),(1,_)] Tryz.func170 Tryz.ntmps170 fun B hB=>?_
 repeat' (first | refine jR ?_ | (refine jo ?_;refine ae F F F cx_cp F ?_))
 refine jY (vs:=[_,_]) ?_
 rfl
def df (l s : adB) (b : Bool) : Bool:=!b && l.isPrefixOf s
def eE (l s : adB) (b : Bool) : adB:=if df l s b = true then s.drop l.length else s
abbrev eH (r sc : Nat) (s : adB) (b : Bool) : Own:=.blk r (.cells (List.toArray [Pt sc 0,S s,Bo b]) adh (0,0))
theorem iA {r sc : Nat} {s l : adB} {b : Bool} (hs : s.length ≤ 1000000 ∧ l.length ≤ 1000000) : dO adA 145 [Pt r 0,S l] G [eH r sc s b] (fun v L'=>v = Bo (df l s b) ∧ L' = [eH r sc (eE l s b) b]):=by
 have cx_cp:=um (G:=G) hs
 unfold eE df
 cases hp : l.isPrefixOf s with
 | false =>
  rw [hp] at cx_cp
  refine jH [(0,_),(1,_)] Tryz.func145 Tryz.ntmps145 fun B hB hW=>?_
  repeat' (first | refine jR ?_ | (refine jo ?_;first | refine aB F ?_ | refine aE F ?_ | refine ae F F F cx_cp F ?_) | refine aw F F F ?_ | refine ad F F ?_)
  exact aW (vs:=[_]) F ⟨F,trivial⟩ F (List.Sublist.refl _) ⟨F,by cases b <;> rfl,by cases b <;> rfl⟩
 | true =>
  rw [hp] at cx_cp
  cases b with
  | true =>
   refine jH [(0,_),(1,_)] Tryz.func145 Tryz.ntmps145 fun B hB hW=>?_
   repeat' (first | refine jR ?_ | (refine jo ?_;first | refine aB F ?_ | refine aP F ?_ | refine ae F F F cx_cp F ?_) | refine aG F F F ?_ | refine ad F F ?_)
   exact aW (vs:=[_]) F ⟨F,trivial⟩ F (List.Sublist.refl _) ⟨F,F,F⟩
  | false =>
   refine jH [(0,_),(1,_)] Tryz.func145 Tryz.ntmps145 fun B hB hW=>?_
   repeat' (first | refine jR ?_ | (refine jo ?_;first | refine aB F ?_ | refine aP F ?_ | refine jD F F F ?_ | refine ae F F F cx_cp F ?_) | refine aG F F F ?_ | refine ac F F ?_)
   exact aW (vs:=[_]) F ⟨F,trivial⟩ F (List.Sublist.refl _) ⟨F,F,F⟩
theorem d4 {r sc : Nat} {s l : adB} {b : Bool} (hs : s.length ≤ 1000000 ∧ l.length ≤ 1000000) : dO adA 146 [Pt r 0,S l] G [eH r sc s b] (fun v L'=>L' = [eH r sc (eE l s b) (!df l s b)]):=by
 have cx_tk:=iA (G:=G) (r:=r) (sc:=sc) (b:=b) hs
 cases ht : df l s b with
 | false =>
  rw [ht] at cx_tk
  refine jH [(0,_),(1,_)] Tryz.func146 Tryz.ntmps146 fun B hB hW=>?_
  repeat' (first | refine jR ?_ | (refine jo ?_;first | refine jD F F F ?_ | (refine aL F F F cx_tk F ?_;rintro _ _ ⟨rfl,rfl⟩;dsimp only [zA,fA])) | refine ac F F ?_)
  exact ku (vs:=[]) F trivial F (List.Sublist.refl _) ⟨F,F⟩
 | true =>
  have hb : b = false:=by unfold df at ht;cases b <;> simp_all
  subst hb
  rw [ht] at cx_tk
  refine jH [(0,_),(1,_)] Tryz.func146 Tryz.ntmps146 fun B hB hW=>?_
  repeat' (first | refine jR ?_ | (refine jo ?_;(refine aL F F F cx_tk F ?_;rintro _ _ ⟨rfl,rfl⟩;dsimp only [zA,fA])) | refine ad F F ?_)
  exact ku (vs:=[]) F trivial F (List.Sublist.refl _) ⟨F,F⟩
theorem lB {p : Nat → Bool} {q : UInt8 → Bool} (h : ∀ c : UInt8,p c.toNat = q c) : ∀ s : adB,dQ p s = s.dropWhile q
 | []=>rfl
 | c :: r=>by
  rw [dQ,h c,List.dropWhile_cons]
  cases q c with
  | true=>simp only [if_true];exact lB h r
  | false=>simp
theorem abu : ∀ c : UInt8,fR [48,49,50,51,52,53,54,55,56,57] c.toNat = br c:=by
 intro c
 have : ∀ n : Nat,n < 256 → fR [48,49,50,51,52,53,54,55,56,57] n = decide (48 ≤ n ∧ n ≤ 57):=by decide +kernel
 exact this _ c.toNat_lt
def txB : adB:=[97,98,99,100,101,102,103,104,105,106,107,108,109,110,111,112,113,114,115,116,117,118,119,120,121,122,48,49,50,51,52,53,54,55,56,57,32]
def dn (c : UInt8) : Bool:=decide (jt c.toNat)
theorem aaB : ∀ c : UInt8,fR txB c.toNat = dn c:=by
 intro c
 have : ∀ n : Nat,n < 256 → fR txB n = decide (jt n):=by decide +kernel
 exact this _ c.toNat_lt
theorem kE (q : UInt8 → Bool) (s : adB) : s.take (s.length - (s.dropWhile q).length) = s.takeWhile q:=by
 have h:=List.takeWhile_append_dropWhile (p:=q) (l:=s)
 have hl : (s.takeWhile q).length + (s.dropWhile q).length = s.length:=by
  have:=congrArg List.length h
  rwa [List.length_append] at this
 have e : s.length - (s.dropWhile q).length = (s.takeWhile q).length:=oM
 rw [e]
 have h2 : (s.takeWhile q ++ s.dropWhile q).take (s.takeWhile q).length = s.takeWhile q:=List.take_left
 rwa [h] at h2
theorem eD (q : UInt8 → Bool) (s : adB) : (s.takeWhile q).length + (s.dropWhile q).length = s.length:=by
 have h:=List.takeWhile_append_dropWhile (p:=q) (l:=s)
 have:=congrArg List.length h
 rwa [List.length_append] at this
theorem qo (x : adB) : d6 (39 :: (x ++ [39])) = true ↔ x.length ≤ 12 ∧ ∀ c ∈ x,dn c = true:=by
 unfold d6
 rw [decide_eq_true_eq]
 unfold TxP
 have e0 : bt (39 :: (x ++ [39])) 0 = 39:=bD _ _
 have e1 : (39 :: (x ++ [39]) : adB).length = x.length + 2:=by simp
 have e2 : bt (39 :: (x ++ [39])) (x.length + 1) = 39:=by
  rw [eJ];simp [bt]
 have e3 : ∀ i,i < x.length → bt (39 :: (x ++ [39])) (i + 1) = bt x i:=fun i hi=>by
  rw [eJ];simp [bt,List.getD,List.getElem?_append_left hi]
 rw [e1,show x.length + 2 - 1 = x.length + 1 by omega]
 constructor
 ·rintro ⟨⟨_,h1⟩,_,_,h2⟩
  refine ⟨oM,fun c hc=>?_⟩
  obtain ⟨i,hi,rfl⟩:=List.mem_iff_getElem.1 hc
  have:=h2 (i + 1) oM
  rw [e3 i hi] at this
  have h3 : bt x i = (x[i]).toNat:=by simp [bt,List.getD,List.getElem?_eq_getElem hi]
  rw [h3] at this
  unfold dn
  rw [decide_eq_true_eq]
  rcases this with h | h
  ·omega
  ·exact h
 ·rintro ⟨h1,h2⟩
  refine ⟨⟨oM,oM⟩,e0,e2,fun i hi=>?_⟩
  cases i with
  | zero=>exact .inl F
  | succ i =>
   have hi' : i < x.length:=oM
   rw [e3 i hi']
   have h3 : bt x i = (x[i]).toNat:=by simp [bt,List.getD,List.getElem?_eq_getElem hi']
   rw [h3]
   have:=h2 _ (List.getElem_mem hi')
   unfold dn at this
   rw [decide_eq_true_eq] at this
   exact .inr this
theorem aaW {c : UInt8} (h : c.toNat = 39) : dn c = false:=by
 have : c = 39:=UInt8.toNat_inj.1 h
 subst this;decide
theorem wt (s : adB) : dP s = match s with
  | []=>none
  | c :: r=>if c.toNat = 39 then (match r.dropWhile dn with
   | []=>none
   | d :: t=>if d.toNat = 39 ∧ (r.takeWhile dn).length ≤ 12 then some (.nd 116 (r.takeWhile dn) 0 [],t) else none) else none:=by
 cases s with
 | nil=>rfl
 | cons c r =>
  unfold dP
  dsimp only
  by_cases hc : c.toNat = 39
  ·rw [if_pos hc,if_pos hc]
   have hcut : ∀ r : adB,aH 39 r = match r.dropWhile dn with
    | []=>(r,[],false)
    | d :: t=>if d.toNat = 39 then (r.takeWhile dn,t,true) else (r.takeWhile dn ++ (aH 39 (d :: t)).1,(aH 39 (d :: t)).2):=by
    intro r
    induction r with
    | nil=>rfl
    | cons x r ih =>
     rw [List.dropWhile_cons,List.takeWhile_cons]
     by_cases hx : dn x = true
     ·rw [if_pos hx,if_pos hx]
      have h39 : ¬ x.toNat = 39:=fun h=>by rw [aaW h] at hx;cases hx
      rw [aH,if_neg h39,ih]
      cases hd : r.dropWhile dn with
      | nil=>rfl
      | cons d t =>
       dsimp only
       split
       ·rfl
       ·rfl
     ·rw [if_neg hx,if_neg hx]
      dsimp only
      split
      ·rename_i h39;rw [aH,if_pos h39]
      ·simp
   rw [hcut]
   cases hd : r.dropWhile dn with
   | nil=>rfl
   | cons d t =>
    dsimp only
    by_cases h39 : d.toNat = 39
    ·rw [if_pos h39]
     dsimp only
     by_cases h12 : (r.takeWhile dn).length ≤ 12
     ·rw [if_pos ((qo _).2 ⟨h12,fun c hc=>List.all_eq_true.1 (List.all_takeWhile (l:=r) (p:=dn)) c hc⟩),if_pos ⟨h39,h12⟩]
     ·rw [if_neg (fun h=>h12 ((qo _).1 h).1),if_neg (fun h=>h12 h.2)]
    ·rw [if_neg h39,if_neg (fun h=>h39 h.1)]
     cases hcc : aH 39 (d :: t) with
     | mk a b =>
      obtain ⟨b,f⟩:=b
      cases f with
      | false=>rfl
      | true =>
       dsimp only
       rw [if_neg]
       intro h
       have hall:=((qo _).1 h).2
       have hdx : dn d = false:=by
        have:=List.head_dropWhile_not (p:=dn) (l:=r) (by rw [hd];simp)
        simpa [hd] using this
       have ha : d ∈ a:=by
        rw [aH,if_neg h39] at hcc
        simp only [Prod.mk.injEq] at hcc
        rw [← hcc.1];simp
       have:=hall d (List.mem_append_right _ ha)
       rw [hdx] at this;cases this
  ·rw [if_neg hc,if_neg hc]
theorem ml {r sc : Nat} {s : adB} {b : Bool} {top : Int} (hs : s.length ≤ 1000000) : dO adA 147 [Pt r 0,I top] G [eH r sc s b]
  (fun v L'=>∃ n,v = I n ∧ (0 ≤ n ∧ n ≤ 999999) ∧ (∀ m,aN (s.takeWhile br) top = some m → n = m) ∧ L' = [eH r sc (s.dropWhile br) (b || (aN (s.takeWhile br) top).isNone)]):=by
 have hwl:=eD br s
 have cx_tl : aZ adA 133 [S s,S [48,49,50,51,52,53,54,55,56,57]] G (· = S (s.dropWhile br)):=by
  rw [← lB abu]
  exact mq F kR F
 have e1 : s.take (((s.length : Nat) : Int) - (((s.dropWhile br).length : Nat) : Int)).toNat = s.takeWhile br:=by
  rw [← kE];congr 1;omega
 have cx_pnB:=lq (G:=G) (s:=s.takeWhile br) (top:=top) oM
 rw [← e1] at cx_pnB
 cases hnum2 : (aN (s.takeWhile br) top) with
 | none =>
  rw [← e1] at hnum2
  have hno : (!(aN (s.take (((s.length : Nat) : Int) - (((s.dropWhile br).length : Nat) : Int)).toNat) top).isSome) = true:=by rw [hnum2];rfl
  refine jH [(0,_),(1,_)] Tryz.func147 Tryz.ntmps147 fun B hB hW=>?_
  repeat' (first | refine jR ?_ | (refine jo ?_;first | refine aB F ?_ | refine jD F F F ?_ | refine ae F F F cx_tl F ?_) | refine ac F ‹_› ?_ | (refine an (ao (id:=2) _ (fun _ h=>h) am ?_);refine jT 11 [0,1,2,4,5,6,9,10,13] (aa 20 9847) ?_;(refine jG (aa 20 9855) 3 F (aX F F F) ?_);(refine jG (aa 20 9983) 7 F (aX F F F) ?_);refine jW 6 [8,11,12] (aa 20 16383) ?_;refine jA 14 F ?_;(refine ep F F F cx_pnB F ?_;rintro _ ⟨n,rfl,hnum,hn0,hn1⟩);refine jS (aa 20 32767) ?_;refine jT 0 [15,16,17,18,19] (aa 20 1048575) ?_;refine jQ ?_))
  exact aW (vs:=[_]) F ⟨F,trivial⟩ F (List.Sublist.refl _) ⟨F,_,F,⟨hn0,hn1⟩,fun m hm=>(by cases hm),by simp⟩
 | some m =>
  rw [← e1] at hnum2
  have hno : (!(aN (s.take (((s.length : Nat) : Int) - (((s.dropWhile br).length : Nat) : Int)).toNat) top).isSome) = false:=by rw [hnum2];rfl
  refine jH [(0,_),(1,_)] Tryz.func147 Tryz.ntmps147 fun B hB hW=>?_
  repeat' (first | refine jR ?_ | (refine jo ?_;first | refine aB F ?_ | refine jD F F F ?_ | refine ae F F F cx_tl F ?_) | refine ad F ‹_› ?_ | (refine an (ao (id:=2) _ (fun _ h=>h) am ?_);refine jT 11 [0,1,2,4,5,6,9,10,13] (aa 20 9847) ?_;(refine jG (aa 20 9855) 3 F (aX F F F) ?_);(refine jG (aa 20 9983) 7 F (aX F F F) ?_);refine jW 6 [8,11,12] (aa 20 16383) ?_;refine jA 14 F ?_;(refine ep F F F cx_pnB F ?_;rintro _ ⟨n,rfl,hnum,hn0,hn1⟩);refine jS (aa 20 32767) ?_;refine jT 0 [15,16,17,18,19] (aa 20 1048575) ?_;refine jQ ?_))
  exact aW (vs:=[_]) F ⟨F,trivial⟩ F (List.Sublist.refl _) ⟨F,_,F,⟨hn0,hn1⟩,fun m' hm=>hnum m' (by rw [hnum2];exact hm),by simp⟩
theorem ke {l s : adB} {b : Bool} : (eE l s b).length ≤ s.length:=by unfold eE;split <;> simp
theorem f7 {c : UInt8} {s : adB} : df [c] s false = true ↔ ∃ r,s = c :: r:=by
 cases s with
 | nil =>
  constructor
  ·intro h;simp [df,List.isPrefixOf] at h
  ·rintro ⟨r,h⟩;cases h
 | cons d r =>
  constructor
  ·intro h
   have : c = d:=by simpa [df,List.isPrefixOf] using h
   exact ⟨r,by rw [this]⟩
  ·rintro ⟨r',h⟩
   simp only [List.cons.injEq] at h
   simp [df,List.isPrefixOf,h.1]
theorem gO {c : UInt8} {r : adB} : eE [c] (c :: r) false = r:=by unfold eE;rw [if_pos (f7.2 ⟨r,rfl⟩)];rfl
theorem hZ {l s : adB} : df l s true = false:=by simp [df]
theorem jq {l s : adB} : eE l s true = s:=by simp [eE,hZ]
theorem gY {l s : adB} {b : Bool} (h : df l s b = false) : eE l s b = s:=by simp [eE,h]
def QuP (s : adB) (b : Bool) (x s' : adB) (b' : Bool) : Prop :=
 x.length + s'.length ≤ s.length ∧ (b' = false → b = false ∧ dP s = some (.nd 116 x 0 [],s')) ∧ (b' = true → b = true ∨ dP s = none)
theorem aaS (s : adB) (b : Bool) : QuP s b ((eE [39] s b).takeWhile dn) (eE [39] ((eE [39] s b).dropWhile dn) (!df [39] s b)) (!df [39] ((eE [39] s b).dropWhile dn) (!df [39] s b) || decide (12 < ((eE [39] s b).takeWhile dn).length)):=by
 have hl : ((eE [39] s b).takeWhile dn).length + (eE [39] ((eE [39] s b).dropWhile dn) (!df [39] s b)).length ≤ s.length:=by
  have h1:=ke (l:=[39]) (s:=s) (b:=b)
  have h2:=eD dn (eE [39] s b)
  have h3:=ke (l:=[39]) (s:=(eE [39] s b).dropWhile dn) (b:=!df [39] s b)
  omega
 refine ⟨hl,?_⟩
 rw [wt]
 cases b with
 | true=>rw [jq,hZ];simp [hZ]
 | false =>
  cases ht : df [39] s false with
  | false =>
   simp only [Bool.not_false,hZ,Bool.true_or]
   refine ⟨fun h=>(by cases h),fun _=>.inr ?_⟩
   cases s with
   | nil=>rfl
   | cons c r =>
    dsimp only
    rw [if_neg]
    intro hc
    have : df [39] (c :: r) false = true:=f7.2 ⟨r,by rw [show c = 39 from UInt8.toNat_inj.1 hc]⟩
    rw [this] at ht;cases ht
  | true =>
   obtain ⟨r,rfl⟩:=f7.1 ht
   rw [gO]
   dsimp only
   rw [if_pos (show (39 : UInt8).toNat = 39 from rfl),Bool.not_true]
   cases ht2 : df [39] (r.dropWhile dn) false with
   | false =>
    simp only [Bool.not_false,Bool.true_or]
    refine ⟨fun h=>(by cases h),fun _=>.inr ?_⟩
    cases hd : r.dropWhile dn with
    | nil=>rfl
    | cons d t =>
     dsimp only
     rw [if_neg]
     rintro ⟨hc,_⟩
     have : df [39] (r.dropWhile dn) false = true:=f7.2 ⟨t,by rw [hd,show d = 39 from UInt8.toNat_inj.1 hc]⟩
     rw [this] at ht2;cases ht2
   | true =>
    obtain ⟨t,hd⟩:=f7.1 ht2
    rw [hd,gO]
    dsimp only
    by_cases h12 : 12 < (r.takeWhile dn).length
    ·rw [decide_eq_true h12,if_neg (fun h=>by omega)]
     exact ⟨fun h=>(by cases h),fun _=>.inr F⟩
    ·rw [decide_eq_false h12,if_pos ⟨rfl,oM⟩]
     exact ⟨fun _=>⟨F,F⟩,fun h=>(by cases h)⟩
theorem aac {r sc : Nat} {s : adB} {b : Bool} (hs : s.length ≤ 1000000) : dO adA 148 [Pt r 0] G [eH r sc s b]
  (fun v L'=>∃ x s' b',v = S x ∧ QuP s b x s' b' ∧ L' = [eH r sc s' b']):=by
 have hq:=aaS s b
 have h1:=ke (l:=[39]) (s:=s) (b:=b)
 have h2:=eD dn (eE [39] s b)
 have h3:=ke (l:=[39]) (s:=(eE [39] s b).dropWhile dn) (b:=!df [39] s b)
 have cx_wa:=d4 (G:=G) (r:=r) (sc:=sc) (s:=s) (l:=[39]) (b:=b) ⟨hs,by simp⟩
 have cx_wb:=d4 (G:=G) (r:=r) (sc:=sc) (s:=(eE [39] s b).dropWhile dn) (l:=[39]) (b:=!df [39] s b) ⟨oM,by simp⟩
 have cx_tl : aZ adA 133 [S (eE [39] s b),S [97,98,99,100,101,102,103,104,105,106,107,108,109,110,111,112,113,114,115,116,117,118,119,120,121,122,48,49,50,51,52,53,54,55,56,57,32]] G (· = S ((eE [39] s b).dropWhile dn)):=by
  rw [← lB aaB]
  exact mq F kR F
 have e1 : (eE [39] s b).take ((((eE [39] s b).length : Nat) : Int) - ((((eE [39] s b).dropWhile dn).length : Nat) : Int)).toNat = (eE [39] s b).takeWhile dn:=by
  rw [← kE];congr 1;omega
 by_cases h12 : 12 < ((eE [39] s b).takeWhile dn).length
 ·rw [decide_eq_true h12,Bool.or_true] at hq
  rw [← e1] at h12
  refine jH [(0,_)] Tryz.func148 Tryz.ntmps148 fun B hB hW=>?_
  repeat' (first | refine jR ?_ | (refine jo ?_;first | refine aB F ?_ | refine jD F F F ?_ | (refine aL F F F cx_wa F ?_;rintro _ _ rfl;dsimp only [zA,fA]) | (refine aL F F F cx_wb F ?_;rintro _ _ rfl;dsimp only [zA,fA]) | refine ae F F F cx_tl F ?_) | refine ac F (ax oM) ?_ | (refine an (ao (id:=3) _ (fun _ h=>h) am ?_);refine jT 6 [0,1,2,4,5,6,9,10] (aa 14 1655) ?_;(refine jG (aa 14 1663) 3 F (aX F F F) ?_);(refine jG (aa 14 1791) 7 F (aX F F F) ?_);refine jW 0 [8,11,12,13] (aa 14 16383) ?_;refine jQ ?_))
  all_goals exact aW (vs:=[_]) F ⟨F,trivial⟩ F (List.Sublist.refl _) ⟨F,_,_,_,F,by rw [e1];exact hq,F⟩
 ·rw [decide_eq_false h12,Bool.or_false] at hq
  rw [← e1] at h12
  refine jH [(0,_)] Tryz.func148 Tryz.ntmps148 fun B hB hW=>?_
  repeat' (first | refine jR ?_ | (refine jo ?_;first | refine aB F ?_ | refine jD F F F ?_ | (refine aL F F F cx_wa F ?_;rintro _ _ rfl;dsimp only [zA,fA]) | (refine aL F F F cx_wb F ?_;rintro _ _ rfl;dsimp only [zA,fA]) | refine ae F F F cx_tl F ?_) | refine ad F (aF oM) ?_ | (refine an (ao (id:=3) _ (fun _ h=>h) am ?_);refine jT 6 [0,1,2,4,5,6,9,10] (aa 14 1655) ?_;(refine jG (aa 14 1663) 3 F (aX F F F) ?_);(refine jG (aa 14 1791) 7 F (aX F F F) ?_);refine jW 0 [8,11,12,13] (aa 14 16383) ?_;refine jQ ?_))
  all_goals exact aW (vs:=[_]) F ⟨F,trivial⟩ F (List.Sublist.refl _) ⟨F,_,_,_,F,by rw [e1];exact hq,F⟩
def RdP (f : adB → Option (V × adB)) (s : adB) (b : Bool) (u : V) (s' : adB) (b' : Bool) : Prop :=
 s'.length ≤ s.length ∧ (b' = false → b = false ∧ f s = some (u,s')) ∧ (b' = true → (b = true ∨ f s = none) ∧ u.tot + 100 * s'.length ≤ 100 * s.length + 100)
def iW (f : adB → Option (V × adB)) (r sc : Nat) (s : adB) (b : Bool) (v : Value) (G' : Gh) (L' : List Own) : Prop :=
 ∃ u c s' b',v = Ag (bi c) ∧ V.rep G' u c ∧ L' = [eH r sc s' b'] ∧ RdP f s b u s' b'
def ny (n sc : Nat) (qs : List c6) : Prop:=∀ (G : Gh) (r : Nat) (k s : adB) (b : Bool),ScI G sc qs → aA (al qs) k = true → s.length < n → s.length ≤ 1000 →
 ff adA 107 [Pt r 0,Ag (cR k)] G [eH r sc s b] (iW (rd (al qs) n k) r sc s b)
def fM (f : adB → Option (V × adB)) : adB → Option (V × adB)
 | []=>none
 | d :: s'=>if d.toNat = 91 then (match s' with
   | []=>none
   | e :: r=>if e.toNat = 93 then some (.nd 91 [] 0 [],r) else (bJ f 20 s' []).map fun x=>(.nd 91 [] 0 x.1,x.2)) else none
theorem mO {f : adB → Option (V × adB)} (hf : ∀ s x,f s = some x → x.2.length < s.length) : ∀ (m M : Nat) (s : adB) (acc : List V),s.length < M →
  bJ f m s acc = match bJ f M s acc with
   | none=>none
   | some x=>if x.1.length ≤ acc.length + m then some x else none
 | 0,M,s,acc,hM=>by
  cases hr : bJ f M s acc with
  | none=>rfl
  | some x =>
   have : acc.length + 1 ≤ x.1.length:=by
    clear hM
    induction M generalizing s acc with
    | zero=>cases hr
    | succ M ih =>
     unfold bJ at hr
     cases hfs : f s with
     | none=>rw [hfs] at hr;cases hr
     | some y =>
      rw [hfs] at hr
      obtain ⟨v,r⟩:=y
      cases r with
      | nil=>cases hr
      | cons c r =>
       dsimp only at hr
       split at hr
       ·have:=ih _ _ hr;simp at this;omega
       ·split at hr
        ·simp only [Option.some.injEq] at hr;subst hr;simp
        ·cases hr
   dsimp only
   rw [if_neg oM];rfl
 | m + 1,0,s,acc,hM=>by omega
 | m + 1,M + 1,s,acc,hM=>by
  rw [bJ,bJ]
  cases hfs : f s with
  | none=>rfl
  | some y =>
   have hlt:=hf _ _ hfs
   obtain ⟨v,r⟩:=y
   cases r with
   | nil=>rfl
   | cons c r =>
    simp only [List.length_cons] at hlt
    dsimp only
    split
    ·rw [mO hf m M r (acc ++ [v]) oM]
     cases bJ f M r (acc ++ [v]) with
     | none=>rfl
     | some x=>dsimp only;simp only [List.length_append,List.length_singleton];congr 1;simp;omega
    ·split
     ·dsimp only;rw [if_pos (by simp)]
     ·rfl
theorem jP {f : adB → Option (V × adB)} {t : adB} {vs : List V} : ∀ {m : Nat},(f t = none ∨ ∃ u,f t = some (u,[])) → bJ f m t vs = none
 | 0,_=>rfl
 | m + 1,h=>by
  rw [bJ]
  rcases h with h | ⟨u,h⟩ <;> rw [h]
theorem jJ {f : adB → Option (V × adB)} {t t2 : adB} {c : UInt8} {u : V} {vs : List V} {m : Nat} (h : f t = some (u,c :: t2)) (hm : 0 < m) :
  bJ f m t vs = if c.toNat = 44 then bJ f (m - 1) t2 (vs ++ [u]) else if c.toNat = 93 then some (vs ++ [u],t2) else none:=by
 obtain ⟨m,rfl⟩ : ∃ k,m = k + 1:=⟨m - 1,oM⟩
 rw [bJ,h];rfl
theorem iM {ts : List Ty} {n : Nat} {k s : adB} {x : V × adB} (h : rd ts n k s = some x) : x.2.length < s.length:=by
 have:=gr n k s x h
 have:=iJ x.1
 omega
abbrev fF : TypeId:=58
abbrev rn (b : Nat) (cs : List Value) : Own:=.blk b (.cells cs.toArray dc (0,0))
theorem abO {n r sc : Nat} {qs : List c6} {k s : adB} {b : Bool} (hV : ny n sc qs) (hS : ScI G sc qs) (hk : aA (al qs) k = true) (hs : s.length ≤ n ∧ s.length ≤ 1000) :
  ff adA 144 [Pt r 0,Ag (cR k)] G [eH r sc s b] (iW (fM (rd (al qs) n k)) r sc s b):=by
 have cx_wa:=d4 (G:=G) (r:=r) (sc:=sc) (s:=s) (l:=[91]) (b:=b) ⟨oM,by simp⟩
 have cx_tk:=iA (G:=G) (r:=r) (sc:=sc) (s:=eE [91] s b) (l:=[93]) (b:=!df [91] s b) ⟨by have:=ke (l:=[91]) (s:=s) (b:=b);omega,by simp⟩
 simp only [cR]
 cases ht : df [91] s b with
 | false =>
  rw [ht,gY ht] at cx_wa cx_tk
  rw [Bool.not_false,hZ,jq] at cx_tk
  have cx_wb:=d4 (G:=G) (r:=r) (sc:=sc) (s:=s) (l:=[93]) (b:=true) ⟨oM,by simp⟩
  rw [hZ,jq] at cx_wb
  refine bK [(0,_),(1,_)] Tryz.func144 kR Tryz.ntmps144 F F tU fun B hB hW=>?_
  repeat' (first | refine jR ?_ | (refine jo ?_;first | refine jO fun _=>?_ | refine jL fun _=>?_ | refine jV (ay F F) ?_ | refine jC F F F ?_ | (refine aL F F F cx_wa F ?_;rintro _ _ rfl;dsimp only [zA,fA]) | (refine aL F F F cx_tk F ?_;rintro _ _ ⟨rfl,rfl⟩;dsimp only [zA,fA])) | refine ad F F ?_)
  rename_i x3 x4 x5 _
  refine aV (ι:=Unit) (fun i=>True) (fun i=>[(0,Pt r 0),(4,Pt x4 0),(5,Pt x5 0)]) (fun _=>G) (fun i=>[eH r sc s true,rn x5 [U8 91,S [],I 0,aK],rn x4 [U8 0,S [],I 0,aK]]) (fun i=>0) () ?_ tU F sB (fun i Hi=>?_)
  ·trivial
  repeat' (first | refine jR ?_ | (refine jo ?_;first | refine jC F F F ?_ | refine aB F ?_ | refine bM F ?_ | refine jV (af F) ?_ | (refine aL F F F cx_wb F ?_;rintro _ _ rfl;dsimp only [zA,fA])) | refine ad F F ?_)
  refine aW (vs:=[_]) F ⟨aJ F F F F,trivial⟩ F sB ⟨Gh.le.refl _,.nd 91 [] 0 [],⟨91,[],0,none,0,0⟩,s,true,F,c7 dC dC,F,Nat.le_refl _,fun h=>(by cases h),fun _=>⟨?_,by simp only [V.tot,V.tots,List.length_nil];omega⟩⟩
  cases b with
  | true=>exact .inl F
  | false =>
   right
   cases s with
   | nil=>rfl
   | cons d r' =>
    unfold fM
    dsimp only
    rw [if_neg]
    intro h91
    have : df [91] (d :: r') false = true:=f7.2 ⟨r',by rw [show d = 91 from UInt8.toNat_inj.1 h91]⟩
    rw [this] at ht;cases ht
 | true =>
  have hb : b = false:=by cases b with | true=>rw [hZ] at ht;cases ht | false=>rfl
  subst hb
  obtain ⟨s1,rfl⟩:=f7.1 ht
  rw [ht,gO] at cx_wa cx_tk
  rw [Bool.not_true] at cx_wa cx_tk
  simp only [List.length_cons] at hs
  cases ht2 : df [93] s1 false with
  | true =>
   obtain ⟨s2,rfl⟩:=f7.1 ht2
   rw [ht2,gO] at cx_tk
   refine bK [(0,_),(1,_)] Tryz.func144 kR Tryz.ntmps144 F F tU fun B hB hW=>?_
   repeat' (first | refine jR ?_ | (refine jo ?_;first | refine jO fun _=>?_ | refine jL fun _=>?_ | refine jV (ay F F) ?_ | refine jC F F F ?_ | refine bM F ?_ | (refine aL F F F cx_wa F ?_;rintro _ _ rfl;dsimp only [zA,fA]) | (refine aL F F F cx_tk F ?_;rintro _ _ ⟨rfl,rfl⟩;dsimp only [zA,fA])) | refine ac F F ?_)
   refine aW (vs:=[_]) F ⟨aJ F F F F,trivial⟩ F sB ⟨Gh.le.refl _,.nd 91 [] 0 [],⟨91,[],0,none,0,0⟩,s2,false,F,c7 dC dC,F,by simp only [List.length_cons];omega,fun _=>⟨rfl,rfl⟩,fun h=>(by cases h)⟩
  | false =>
   rw [ht2,gY ht2] at cx_tk
   have hR : fM (rd (al qs) n k) (91 :: s1) = (bJ (rd (al qs) n k) 20 s1 []).map fun x=>(.nd 91 [] 0 x.1,x.2):=by
    unfold fM
    dsimp only
    rw [if_pos (show (91 : UInt8).toNat = 91 from rfl)]
    cases s1 with
    | nil =>
     have : rd (al qs) n k [] = none:=by
      cases h : rd (al qs) n k [] with
      | none=>rfl
      | some x=>have:=iM h;simp at this
     simp [bJ,this]
    | cons e r' =>
     dsimp only
     rw [if_neg]
     intro h93
     have : df [93] (e :: r') false = true:=f7.2 ⟨r',by rw [show e = 93 from UInt8.toNat_inj.1 h93]⟩
     rw [this] at ht2;cases ht2
   have hmore:=mO (f:=rd (al qs) n k) (fun s x h=>iM h) 20 (s1.length + 1) s1 [] oM
   refine bK [(0,_),(1,_)] Tryz.func144 kR Tryz.ntmps144 F F tU fun B hB hW=>?_
   repeat' (first | refine jR ?_ | (refine jo ?_;first | refine jO fun _=>?_ | refine jL fun _=>?_ | refine jV (ay F F) ?_ | refine jC F F F ?_ | (refine aL F F F cx_wa F ?_;rintro _ _ rfl;dsimp only [zA,fA]) | (refine aL F F F cx_tk F ?_;rintro _ _ ⟨rfl,rfl⟩;dsimp only [zA,fA])) | refine ad F F ?_)
   rename_i x3 x4 x5 _
   refine Nx.addNil dc 4 (Nx.perm (List.Perm.swap _ _ _) ?_)
   refine aV (ι:=List V × List VC × Option Addr × Nat × adB × Nat × Gh) (fun q=>(V.reps q.2.2.2.2.2.2 q.1 q.2.1 ∧ Gh.le G q.2.2.2.2.2.2) ∧ (bJ (rd (al qs) n k) (s1.length + 1) s1 [] = bJ (rd (al qs) n k) q.2.2.2.2.2.1 q.2.2.2.2.1 q.1 ∧ q.2.2.2.2.1.length < q.2.2.2.2.2.1) ∧ (V.tots q.1 + 100 * q.2.2.2.2.1.length + 100 ≤ 100 * (s1.length + 1) ∧ q.2.2.2.2.1.length ≤ s1.length)) (fun q=>[(0,Pt r 0),(3,Pt x3 0),(4,Pt x4 0),(5,Pt x5 0)]) (fun q=>q.2.2.2.2.2.2) (fun q=>[eH r sc q.2.2.2.2.1 false,.acc (.slice q.2.2.1 q.1.length q.2.2.2.1) dc 4 q.1.length (ah bi q.2.1),rn x5 [U8 91,S [],I 0,.slice q.2.2.1 q.1.length q.2.2.2.1],rn x4 [U8 0,S [],I 0,aK],.blk x3 (.cells (List.toArray [S (sg k),S (bs k),S (nm k)]) fF (0,0))]) (fun q=>q.2.2.2.2.1.length) ([],[],none,0,s1,s1.length + 1,G) ?_ tU F a7 (fun q Hq=>?_)
   ·exact ⟨⟨F,Gh.le.refl _⟩,⟨F,by dsimp only;omega⟩,by dsimp only;simp only [V.tots];omega,Nat.le_refl _⟩
   obtain ⟨vs,cs,a,cap,t,m,Gq⟩:=q
   dsimp only at Hq ⊢
   obtain ⟨⟨hreps,hgq⟩,⟨hit,htm⟩,hT,htl⟩:=Hq
   have hcl:=gn hreps
   have hkl:=dk vs
   have cx_vl:=hV Gq r k t false (hS.mono hgq) hk oM oM
   repeat' (first | refine jR ?_ | (refine jo ?_;refine aB F ?_) | refine ac F F ?_)
   (refine an (ao (id:=6) [.blk x3 (.cells (List.toArray [S (sg k),S (bs k),S (nm k)]) fF (0,0))] (by intro y hy;simp only [List.mem_cons,List.not_mem_nil,or_false] at hy ⊢;simp [hy]) am ?_);refine jW 7 [0,2] (aa 9 5) ?_;(refine jG (aa 9 13) 3 F (bP F F F F) ?_);refine b7 [1,4] kR dC ⟨?_,?_,trivial⟩;(focus (refine aM F F ?_;(refine aB F ?_);refine jK (aa 9 15) ?_;refine jA 4 F ?_;(refine eI F F F cx_vl F ?_;rintro _ G1 _ hle ⟨u1,c1,t1,b1,rfl,hrep,rfl,hP⟩;dsimp only [zA,fA];skip);refine jK (aa 9 31) ?_;refine jA 5 F ?_;(refine jF fun _=>?_);refine jK (aa 9 63) ?_;refine jA 6 F ?_;((refine bC F F F F F F F F F ?_ fun _ _=>?_;focus omega));refine jK (aa 9 127) ?_;refine jW 1 [7] (aa 9 255) ?_;refine jA 8 F ?_;(refine jD F F F ?_);refine jK (aa 9 511) ?_;refine jQ ?_));rotate_left 1;(focus (refine aM F F ?_;(refine eI F F F cx_vl F ?_;rintro _ G1 _ hle ⟨u1,c1,t1,b1,rfl,hrep,rfl,hP⟩;dsimp only [zA,fA];skip);refine jK (aa 9 29) ?_;refine b7 [1,5] kR dC ⟨?_,?_,trivial⟩;(focus (refine aM F F ?_;(refine aB F ?_);refine jK (aa 9 31) ?_;refine jA 5 F ?_;(refine jF fun _=>?_);refine jK (aa 9 63) ?_;refine jA 6 F ?_;((refine bC F F F F F F F F F ?_ fun _ _=>?_;focus omega));refine jK (aa 9 127) ?_;refine jW 1 [7] (aa 9 255) ?_;refine jA 8 F ?_;(refine jD F F F ?_);refine jK (aa 9 511) ?_;refine jQ ?_));rotate_left 1;(focus (refine aM F F ?_;(refine jF fun _=>?_);refine jK (aa 9 61) ?_;refine jA 1 F ?_;(refine aB F ?_);refine jK (aa 9 63) ?_;refine jA 6 F ?_;((refine bC F F F F F F F F F ?_ fun _ _=>?_;focus omega));refine jK (aa 9 127) ?_;refine jW 1 [7] (aa 9 255) ?_;refine jA 8 F ?_;(refine jD F F F ?_);refine jK (aa 9 511) ?_;refine jQ ?_));rotate_left 1));rotate_left 2)
   all_goals
    rename_i y1 yc
    have hrow : ah bi cs ++ [U8 (c1.what : Nat),S c1.text,I c1.tag,c1.sl] = ah bi (cs ++ [c1]):=(bW bi cs c1).symm
    have hr2 : V.reps G1 (vs ++ [u1]) (cs ++ [c1]):=ib hrep (cL hle hreps)
    have hvl : (vs ++ [u1]).length = vs.length + 1:=by simp
    have htu : V.tots (vs ++ [u1]) = V.tots vs + u1.tot:=by simp [fE,V.tots]
    have hgl:=hgq.trans hle
    obtain ⟨hPl,hP0,hP1⟩:=hP
    rw [hrow]
    cases b1 with
    | true =>
     obtain ⟨hno,hto⟩:=hP1 rfl
     have hno : rd (al qs) n k t = none:=by
      rcases hno with h | h
      ·cases h
      ·exact h
     have hit2 : bJ (rd (al qs) n k) m t vs = none:=jP (.inl hno)
     have cx_tm:=iA (G:=G1) (r:=r) (sc:=sc) (s:=t1) (l:=[44]) (b:=true) ⟨oM,by simp⟩
     have cx_wb:=d4 (G:=G1) (r:=r) (sc:=sc) (s:=t1) (l:=[93]) (b:=true) ⟨oM,by simp⟩
     rw [hZ,jq] at cx_tm cx_wb
     repeat' (first | refine jR ?_ | (refine jo ?_;first | refine jD F F F ?_ | refine jC F F F ?_ | refine aB F ?_ | refine bM F ?_ | refine jV (af F) ?_ | (refine aL F F F cx_wb F ?_;rintro _ _ rfl;dsimp only [zA,fA]) | (refine aL F F F cx_tm F ?_;rintro _ _ ⟨rfl,rfl⟩;dsimp only [zA,fA])) | refine ac F F ?_ | refine eA F (fun _=>?_) (fun _=>?_))
     all_goals (refine Nx.sealS (v:=.slice (some ⟨y1,0,none⟩) (vs.length + 1) yc) fun G2 hG2 hsl=>?_)
     all_goals refine aW (vs:=[_]) F ⟨aJ F F F F,trivial⟩ F sB ⟨hgl.trans hG2,.nd 91 [] 0 (vs ++ [u1]),⟨91,[],0,some ⟨y1,0,none⟩,vs.length + 1,yc⟩,t1,true,F,dV dC dC (fun h=>absurd h dC) hvl.symm (by rw [List.length_append,List.length_singleton,hcl];exact hsl) (cL hG2 hr2),F,by simp only [List.length_cons];omega,fun h=>(by cases h),fun _=>⟨.inr (by rw [hR,hmore,hit,hit2];rfl),by rw [bI,htu];simp only [List.length_cons,List.length_nil];omega⟩⟩
    | false =>
     obtain ⟨_,hfs⟩:=hP0 rfl
     have htot:=gr n k t _ hfs
     dsimp only at htot
     have hup:=iJ u1
     have cx_tm:=iA (G:=G1) (r:=r) (sc:=sc) (s:=t1) (l:=[44]) (b:=false) ⟨oM,by simp⟩
     cases ht3 : df [44] t1 false with
     | true =>
      obtain ⟨t2,rfl⟩:=f7.1 ht3
      rw [ht3,gO] at cx_tm
      have hit2:=jJ (m:=m) (vs:=vs) hfs oM
      rw [if_pos (show (44 : UInt8).toNat = 44 from rfl)] at hit2
      simp only [List.length_cons] at htot hPl
      have hlt : t2.length < m - 1:=oM
      repeat' (first | refine jR ?_ | (refine jo ?_;(refine aL F F F cx_tm F ?_;rintro _ _ ⟨rfl,rfl⟩;dsimp only [zA,fA])) | refine ad F F ?_)
      exact bm (vs ++ [u1],cs ++ [c1],some ⟨y1,0,none⟩,yc,t2,m - 1,G1) ⟨⟨hr2,hgl⟩,⟨by rw [hit,hit2],hlt⟩,by dsimp only;omega,by dsimp only;omega⟩ (by dsimp only;omega) tU rfl (by rw [hvl];repeat (first | exact List.Sublist.refl _ | apply List.Sublist.cons_cons | apply List.Sublist.cons))
     | false =>
      rw [ht3,gY ht3] at cx_tm
      have cx_wb:=d4 (G:=G1) (r:=r) (sc:=sc) (s:=t1) (l:=[93]) (b:=false) ⟨oM,by simp⟩
      cases ht4 : df [93] t1 false with
      | true =>
       obtain ⟨t2,rfl⟩:=f7.1 ht4
       rw [ht4,gO,Bool.not_true] at cx_wb
       have hit2:=jJ (m:=m) (vs:=vs) hfs oM
       rw [if_neg (show ¬ (93 : UInt8).toNat = 44 by decide),if_pos (show (93 : UInt8).toNat = 93 from rfl)] at hit2
       simp only [List.length_cons] at htot hPl
       by_cases h20 : vs.length + 1 ≤ 20
       ·repeat' (first | refine jR ?_ | (refine jo ?_;first | refine jC F F F ?_ | refine aB F ?_ | refine bM F ?_ | refine jV (af F) ?_ | (refine aL F F F cx_wb F ?_;rintro _ _ rfl;dsimp only [zA,fA]) | (refine aL F F F cx_tm F ?_;rintro _ _ ⟨rfl,rfl⟩;dsimp only [zA,fA])) | refine ac F F ?_ | refine ad F (aF oM) ?_)
        refine Nx.sealS (v:=.slice (some ⟨y1,0,none⟩) (vs.length + 1) yc) fun G2 hG2 hsl=>?_
        refine aW (vs:=[_]) F ⟨aJ F F F F,trivial⟩ F sB ⟨hgl.trans hG2,.nd 91 [] 0 (vs ++ [u1]),⟨91,[],0,some ⟨y1,0,none⟩,vs.length + 1,yc⟩,t2,false,F,dV dC dC (fun h=>absurd h dC) hvl.symm (by rw [List.length_append,List.length_singleton,hcl];exact hsl) (cL hG2 hr2),F,by simp only [List.length_cons];omega,fun _=>⟨rfl,by rw [hR,hmore,hit,hit2];dsimp only;rw [if_pos (by simp;omega)];rfl⟩,fun h=>(by cases h)⟩
       ·repeat' (first | refine jR ?_ | (refine jo ?_;first | refine jD F F F ?_ | refine jC F F F ?_ | refine aB F ?_ | refine bM F ?_ | refine jV (af F) ?_ | (refine aL F F F cx_wb F ?_;rintro _ _ rfl;dsimp only [zA,fA]) | (refine aL F F F cx_tm F ?_;rintro _ _ ⟨rfl,rfl⟩;dsimp only [zA,fA])) | (refine ac F (by first | rfl | (refine decide_eq_true ?_;(omega))) ?_))
        refine Nx.sealS (v:=.slice (some ⟨y1,0,none⟩) (vs.length + 1) yc) fun G2 hG2 hsl=>?_
        refine aW (vs:=[_]) F ⟨aJ F F F F,trivial⟩ F sB ⟨hgl.trans hG2,.nd 91 [] 0 (vs ++ [u1]),⟨91,[],0,some ⟨y1,0,none⟩,vs.length + 1,yc⟩,t2,true,F,dV dC dC (fun h=>absurd h dC) hvl.symm (by rw [List.length_append,List.length_singleton,hcl];exact hsl) (cL hG2 hr2),F,by simp only [List.length_cons];omega,fun h=>(by cases h),fun _=>⟨.inr (by rw [hR,hmore,hit,hit2];dsimp only;rw [if_neg (by simp;omega)];rfl),by rw [bI,htu];simp only [List.length_cons,List.length_nil];omega⟩⟩
      | false =>
       rw [ht4,gY ht4,Bool.not_false] at cx_wb
       have hit2 : bJ (rd (al qs) n k) m t vs = none:=by
        cases t1 with
        | nil=>exact jP (.inr ⟨u1,hfs⟩)
        | cons d t2 =>
         rw [jJ hfs oM,if_neg,if_neg]
         ·intro h93
          have : df [93] (d :: t2) false = true:=f7.2 ⟨t2,by rw [show d = 93 from UInt8.toNat_inj.1 h93]⟩
          rw [this] at ht4;cases ht4
         ·intro h44
          have : df [44] (d :: t2) false = true:=f7.2 ⟨t2,by rw [show d = 44 from UInt8.toNat_inj.1 h44]⟩
          rw [this] at ht3;cases ht3
       repeat' (first | refine jR ?_ | (refine jo ?_;first | refine jD F F F ?_ | refine jC F F F ?_ | refine aB F ?_ | refine bM F ?_ | refine jV (af F) ?_ | (refine aL F F F cx_wb F ?_;rintro _ _ rfl;dsimp only [zA,fA]) | (refine aL F F F cx_tm F ?_;rintro _ _ ⟨rfl,rfl⟩;dsimp only [zA,fA])) | refine ac F F ?_ | refine eA F (fun _=>?_) (fun _=>?_))
       all_goals (refine Nx.sealS (v:=.slice (some ⟨y1,0,none⟩) (vs.length + 1) yc) fun G2 hG2 hsl=>?_)
       all_goals refine aW (vs:=[_]) F ⟨aJ F F F F,trivial⟩ F sB ⟨hgl.trans hG2,.nd 91 [] 0 (vs ++ [u1]),⟨91,[],0,some ⟨y1,0,none⟩,vs.length + 1,yc⟩,t1,true,F,dV dC dC (fun h=>absurd h dC) hvl.symm (by rw [List.length_append,List.length_singleton,hcl];exact hsl) (cL hG2 hr2),F,by simp only [List.length_cons];omega,fun h=>(by cases h),fun _=>⟨.inr (by rw [hR,hmore,hit,hit2];rfl),by rw [bI,htu];simp only [List.length_cons,List.length_nil];omega⟩⟩
def zVC : VC:=⟨0,[],0,none,0,0⟩
def ab4 (t : Ty) (bf of : Nat) (f : adB → adB → Option (V × adB)) (r sc : Nat) (s : adB) (b : Bool) (v : Value) (G' : Gh) (L' : List Own) : Prop :=
  ∃ s' b',L' = [eH r sc s' b'] ∧ s'.length ≤ s.length ∧
    ((v = Tu [Ag (bi zVC),.pointer none] ∧ b' = true ∧ (b = true ∨ aY f t s = none)) ∨
     (∃ j u c,j < t.fields.length ∧ v = Tu [Ag (bi c),Pt bf (of + j * 6)] ∧ V.rep G' (.nd 61 [] (ab t.fields j).tag [u]) c ∧ b = false ∧ u.tot + 100 * s'.length + 100 ≤ 100 * s.length ∧
       (b' = false → aY f t s = some ((ab t.fields j,u),s')) ∧ (b' = true → aY f t s = none)))
abbrev zP : Value:=Ag [U8 0,S [],I 0,aK]
theorem fY {f : adB → adB → Option (V × adB)} {t : Ty} {s : adB} (h : aN (s.takeWhile br) 200 = none ∨ ∃ m,aN (s.takeWhile br) 200 = some m ∧ co t.fields m = none) : aY f t s = none:=by
 unfold aY cM
 rcases h with h | ⟨m,h,h2⟩
 ·rw [h];rfl
 ·rw [h];dsimp only [Option.map_some];rw [h2]
theorem ix {f : adB → adB → Option (V × adB)} {t : Ty} {s : adB} {m : Int} (h : aN (s.takeWhile br) 200 = some m) (h2 : ∀ s2,s.dropWhile br ≠ 61 :: s2) : aY f t s = none:=by
 unfold aY cM
 rw [h];dsimp only [Option.map_some]
 cases co t.fields m with
 | none=>rfl
 | some d =>
  dsimp only
  cases hd : s.dropWhile br with
  | nil=>rfl
  | cons c r =>
   dsimp only
   rw [if_neg]
   intro hc
   exact h2 r (by rw [hd,show c = 61 from UInt8.toNat_inj.1 hc])
theorem l6 {f : adB → adB → Option (V × adB)} {t : Ty} {s s2 : adB} {m : Int} {d : Fld} (h : aN (s.takeWhile br) 200 = some m) (hd : co t.fields m = some d) (h2 : s.dropWhile br = 61 :: s2) : aY f t s = (f d.kind s2).map fun x=>((d,x.1),x.2):=by
 unfold aY cM
 rw [h];dsimp only [Option.map_some];rw [hd,h2];dsimp only;rw [if_pos (show (61 : UInt8).toNat = 61 from rfl)]
theorem oZ {n r sc bt bf of cf : Nat} {qs : List c6} {t : Ty} {ln s : adB} {b : Bool} {fv : Value} (hV : ny n sc qs) (hS : ScI G sc qs) (hw : TyW t) (hkf : ∀ d ∈ t.fields,aA (al qs) d.kind = true)
  (h1 : bT G bt 0 [U8 t.sort,S t.name,fv,S ln]) (h2 : aT G fv 6 t.fields.length (ah gx t.fields)) (hfv : t.fields ≠ [] → fv = .slice (some ⟨bf,of,none⟩) t.fields.length cf ∧ bT G bf of (ah gx t.fields)) (hs : s.length ≤ n ∧ s.length ≤ 1000) :
  ff adA 171 [Pt r 0,Pt bt 0] G [eH r sc s b] (ab4 t bf of (rd (al qs) n) r sc s b):=by
 have hwl:=eD br s
 have hfl:=hw.len
 have cx_nu:=ml (G:=G) (r:=r) (sc:=sc) (s:=s) (b:=b) (top:=200) oM
 have cx_wa:=d4 (G:=G) (r:=r) (sc:=sc) (s:=s.dropWhile br) (l:=[61]) (b:=(b || (aN (s.takeWhile br) 200).isNone)) ⟨oM,by simp⟩
 have htl:=ke (l:=[61]) (s:=s.dropWhile br) (b:=(b || (aN (s.takeWhile br) 200).isNone))
 have hleft : ∀ (s' : adB),s'.length ≤ s.length → (b = true ∨ aY (rd (al qs) n) t s = none) → ∀ G',ab4 t bf of (rd (al qs) n) r sc s b (Tu [Ag (bi zVC),.pointer none]) G' [eH r sc s' true]:=fun s' h3 h4 G'=>⟨s',true,rfl,h3,.inl ⟨rfl,rfl,h4⟩⟩
 refine bK [(0,_),(1,_)] Tryz.func171 kR Tryz.ntmps171 F F tU fun B hB hW=>?_
 repeat' (first | refine jR ?_ | (refine jo ?_;first | refine jL fun _=>?_ | (refine aL F F F cx_nu F ?_;rintro _ _ ⟨n1,rfl,⟨hn0,hn1⟩,hnum,rfl⟩;dsimp only [zA,fA])))
 rename_i x4
 cases hft : co t.fields n1 with
 | none =>
  have hno : aY (rd (al qs) n) t s = none:=by
   cases hm : aN (s.takeWhile br) 200 with
   | none=>exact fY (.inl hm)
   | some m=>exact fY (.inr ⟨m,hm,by rw [← hnum m hm];exact hft⟩)
  have cx_fld:=jm h1 h2 oM hft
  repeat' (first | refine jR ?_ | (refine jo ?_;first | refine jV (dh F F) ?_ | refine aP F ?_ | refine jD F F F ?_ | refine jC F F F ?_ | refine jV (ay F F) ?_ | refine ae F F F cx_fld F ?_ | (refine aL F F F cx_wa F ?_;rintro _ _ rfl;dsimp only [zA,fA])) | refine aG F F F ?_ | refine ac F F ?_)
  refine aW (vs:=[_,_]) F ⟨aJ F F F F,F,trivial⟩ F sB ⟨Gh.le.refl _,hleft _ oM (.inr hno) _⟩
 | some d =>
  obtain ⟨j,hj,hjn,hjt,hjd⟩:=gw hft
  subst hjd
  obtain ⟨rfl,hsf⟩:=hfv (fun h=>by rw [h] at hj;simp at hj)
  have cx_fld:=gE h1 hsf oM hj hjn hjt
  cases ht : df [61] (s.dropWhile br) (b || (aN (s.takeWhile br) 200).isNone) with
  | false =>
   rw [ht,Bool.not_false] at cx_wa
   have hno : b = true ∨ aY (rd (al qs) n) t s = none:=by
    cases b with
    | true=>exact .inl F
    | false =>
     right
     cases hm : aN (s.takeWhile br) 200 with
     | none=>exact fY (.inl hm)
     | some m =>
      refine ix hm (fun s2 h=>?_)
      rw [hm,h] at ht
      have : df [61] (61 :: s2) false = true:=f7.2 ⟨s2,rfl⟩
      rw [show (false || (some m).isNone) = false from rfl,this] at ht;cases ht
   repeat' (first | refine jR ?_ | (refine jo ?_;first | refine jV (dh F F) ?_ | refine aB F ?_ | refine aE F ?_ | refine jD F F F ?_ | refine jC F F F ?_ | refine jV (ay F F) ?_ | refine ae F F F cx_fld F ?_ | (refine aL F F F cx_wa F ?_;rintro _ _ rfl;dsimp only [zA,fA])) | refine aw F F F ?_ | refine ac F F ?_)
   refine aW (vs:=[_,_]) F ⟨aJ F F F F,F,trivial⟩ F sB ⟨Gh.le.refl _,hleft _ oM hno _⟩
  | true =>
   have hb0 : (b || (aN (s.takeWhile br) 200).isNone) = false:=by
    cases hb : (b || (aN (s.takeWhile br) 200).isNone) with
    | false=>rfl
    | true=>rw [hb,hZ] at ht;cases ht
   rw [hb0] at ht cx_wa htl
   rw [hb0]
   simp only [Bool.or_eq_false_iff] at hb0
   obtain ⟨hb,hnn⟩:=hb0
   obtain ⟨m,hm⟩ : ∃ m,aN (s.takeWhile br) 200 = some m:=by
    cases hm : aN (s.takeWhile br) 200 with
    | none=>rw [hm] at hnn;cases hnn
    | some m=>exact ⟨m,F⟩
   obtain ⟨s2,hs2⟩:=f7.1 ht
   rw [ht,hs2,gO,Bool.not_true] at cx_wa
   have hdig : 1 ≤ (s.takeWhile br).length:=by
    have h3:=(ed hm).2.1
    rw [h3];exact gy m
   rw [hs2,List.length_cons] at hwl
   have hfd : ∀ x,aY (rd (al qs) n) t s = some x ↔ (rd (al qs) n (ab t.fields j).kind s2).map (fun x=>((ab t.fields j,x.1),x.2)) = some x:=fun x=>by
    rw [l6 hm (d:=ab t.fields j) (by rw [← hnum m hm,hft]) hs2]
   have hkd:=hkf (ab t.fields j) (bB hj)
   have cx_vl:=hV G r (ab t.fields j).kind s2 false hS hkd oM oM
   rw [hs2]
   repeat' (first | refine jR ?_ | (refine jo ?_;first | refine jL fun _=>?_ | refine jV (dh F F) ?_ | refine aB F ?_ | (refine jV (f9 F F aS ?_ F F) ?_;focus omega) | refine aE F ?_ | refine jC F F F ?_ | refine ae F F F cx_fld F ?_ | (refine aL F F F cx_wa F ?_;rintro _ _ rfl;dsimp only [zA,fA]) | (refine eI F F F cx_vl F ?_;rintro _ G1 _ hle ⟨u1,c1,t1,b1,rfl,hrep,rfl,hP⟩;dsimp only [zA,fA];skip)) | refine aw F F F ?_ | refine ad F F ?_)
   have hsf1:=hsf.mono hle
   have htag:=(hw.fld _ (bB hj)).tag
   repeat' (first | refine jR ?_ | (refine an (ec (id:=7) (tt:=4) F am ?_);refine jW 6 [0,1,2,7] (aa 10 135) ?_;((refine jG (aa 10 143) 3 F (b8 F F aS ?_ F F) ?_;focus omega));(refine jG (aa 10 159) 4 F (bP F F F F) ?_);refine jA 5 F ?_;(refine jF fun _=>?_);refine jK (aa 10 191) ?_;(refine jG (aa 10 255) 6 F (ay F F) ?_);refine jA 8 F ?_;(refine jC F F F ?_);refine jK (aa 10 511) ?_;refine jW 0 [9] (aa 10 1023) ?_;refine jQ ?_))
   rename_i y
   refine Nx.sealC (b:=y) fun G2 hG2 hsy=>?_
   have hsl : aT G2 (.slice (some ⟨y,0,none⟩) 1 1) 4 ([c1] : List VC).length (ah bi [c1]):=⟨rfl,.inr ⟨y,0,1,rfl,Nat.le_refl _,hsy⟩⟩
   have hrp : V.rep G2 (.nd 61 [] (ab t.fields j).tag [u1]) ⟨61,[],(ab t.fields j).tag,some ⟨y,0,none⟩,1,1⟩:=dV dC oM (fun _=>rfl) rfl hsl ⟨c1,[],rfl,aD hG2 hrep,rfl⟩
   obtain ⟨hPl,hP0,hP1⟩:=hP
   have hf2:=fun x=>hfd x
   cases b1 with
   | false =>
    obtain ⟨_,hgood⟩:=hP0 rfl
    have htot:=gr n _ _ _ hgood
    dsimp only at htot
    refine aW (vs:=[_,_]) F ⟨aJ F F F F,F,trivial⟩ F sB ⟨hle.trans hG2,t1,false,F,oM,.inr ⟨j,u1,⟨61,[],(ab t.fields j).tag,some ⟨y,0,none⟩,1,1⟩,hj,F,hrp,hb,oM,fun _=>(hfd _).2 (by rw [hgood];rfl),fun h=>(by cases h)⟩⟩
   | true =>
    obtain ⟨hbad,hto⟩:=hP1 rfl
    have hbad2 : rd (al qs) n (ab t.fields j).kind s2 = none:=by
     rcases hbad with h | h
     ·cases h
     ·exact h
    have hno : aY (rd (al qs) n) t s = none:=by
     cases hx : aY (rd (al qs) n) t s with
     | none=>rfl
     | some x=>have:=(hfd x).1 hx;rw [hbad2] at this;cases this
    refine aW (vs:=[_,_]) F ⟨aJ F F F F,F,trivial⟩ F sB ⟨hle.trans hG2,t1,true,F,oM,.inr ⟨j,u1,⟨61,[],(ab t.fields j).tag,some ⟨y,0,none⟩,1,1⟩,hj,F,hrp,hb,oM,fun h=>(by cases h),fun _=>hno⟩⟩
theorem jv {c : UInt8} {s : adB} (h : df [c] s false = false) : ∀ s2,s ≠ c :: s2:=fun s2 e=>by
 have : df [c] s false = true:=f7.2 ⟨s2,e⟩
 rw [this] at h;cases h
theorem oo {ts : List Ty} {f : adB → adB → Option (V × adB)} {t : Ty} {s : adB} {c : UInt8} (hc : t.sort = 82 ∧ c = 123 ∨ t.sort = 69 ∧ c = 35 ∨ (t.sort ≠ 82 ∧ t.sort ≠ 69) ∧ c = 60) (h : ∀ s2,s ≠ c :: s2) : bA ts f t s = none:=by
 cases s with
 | nil=>rfl
 | cons d r =>
  have hd : d ≠ c:=fun e=>h r (by rw [e])
  unfold bA
  dsimp only
  have hn : ∀ k : Nat,k < 256 → c = UInt8.ofNat k → ¬ d.toNat = k:=fun k hk e h2=>hd (by rw [e,bX h2 hk])
  rcases hc with ⟨h1,h2⟩ | ⟨h1,h2⟩ | ⟨⟨h1,h1'⟩,h2⟩
  ·rw [if_pos h1,if_neg (hn 123 dC h2)]
  ·rw [if_neg oM,if_pos h1,if_neg (hn 35 dC h2)]
  ·rw [if_neg h1,if_neg h1',if_neg (hn 60 dC h2)]
theorem acG {n r sc bt : Nat} {qs : List c6} {t : Ty} {s : adB} {b : Bool} (hT : oh G bt t) (hw : TyW t) (hso : t.sort = 69) (hs : s.length ≤ n ∧ s.length ≤ 1000) :
  ff adA 149 [Pt r 0,Pt bt 0] G [eH r sc s b] (iW (bA (al qs) (rd (al qs) n) t) r sc s b):=by
 obtain ⟨fv,ln,h1,h2⟩:=hT
 have hfl:=hw.len
 have hso' : (t.sort : Int) = 69:=oM
 have cx_wa:=d4 (G:=G) (r:=r) (sc:=sc) (s:=s) (l:=[35]) (b:=b) ⟨oM,by simp⟩
 cases ht : df [35] s b with
 | false =>
  rw [ht,gY ht,Bool.not_false] at cx_wa
  have hno : b = true ∨ bA (al qs) (rd (al qs) n) t s = none:=by
   cases b with
   | true=>exact .inl F
   | false=>exact .inr (oo (.inr (.inl ⟨hso,F⟩)) (jv ht))
  have cx_nu:=ml (G:=G) (r:=r) (sc:=sc) (s:=s) (b:=true) (top:=200) oM
  rw [Bool.true_or] at cx_nu
  have hwl:=eD br s
  refine bK [(0,_),(1,_)] Tryz.func149 kR Tryz.ntmps149 F F tU fun B hB hW=>?_
  repeat' (first | refine jR ?_ | (refine jo ?_;first | refine jL fun _=>?_ | refine aB F ?_ | refine jV (aj F F aS F F) ?_ | refine jV (ay F F) ?_ | refine jD F F F ?_ | refine jC F F F ?_ | (refine aL F F F cx_wa F ?_;rintro _ _ rfl;dsimp only [zA,fA]) | (refine aL F F F cx_nu F ?_;rintro _ _ ⟨n1,rfl,⟨hn0,hn1⟩,hnum,rfl⟩;dsimp only [zA,fA])) | refine ac F (ax ‹_›) ?_)
  cases hft : co t.fields n1 with
  | none =>
   have cx_fld:=jm h1 h2 oM hft
   repeat' (first | refine jR ?_ | (refine jo ?_;first | refine bM F ?_ | refine jD F F F ?_ | refine jC F F F ?_ | refine jV (dh F F) ?_ | refine ae F F F cx_fld F ?_) | refine ac F F ?_)
   refine aW (vs:=[_]) F ⟨aJ F F F F,trivial⟩ F sB ⟨Gh.le.refl _,.nd 69 [] n1 [],⟨69,[],n1,none,0,0⟩,s.dropWhile br,true,by rw [hso];rfl,c7 dC ⟨hn0,hn1⟩,rfl,oM,fun h=>(by cases h),fun _=>⟨hno,by simp only [V.tot,V.tots,List.length_nil];omega⟩⟩
  | some d =>
   obtain ⟨j,hj,hjn,hjt,hjd⟩:=gw hft
   obtain ⟨bf,of,cf,rfl,hsf⟩:=h2.expl oM
   have cx_fld:=gE h1 hsf oM hj hjn hjt
   repeat' (first | refine jR ?_ | (refine jo ?_;first | refine bM F ?_ | refine jC F F F ?_ | refine jV (dh F F) ?_ | refine ae F F F cx_fld F ?_) | refine ad F F ?_)
   refine aW (vs:=[_]) F ⟨aJ F F F F,trivial⟩ F sB ⟨Gh.le.refl _,.nd 69 [] n1 [],⟨69,[],n1,none,0,0⟩,s.dropWhile br,true,by rw [hso];rfl,c7 dC ⟨hn0,hn1⟩,rfl,oM,fun h=>(by cases h),fun _=>⟨hno,by simp only [V.tot,V.tots,List.length_nil];omega⟩⟩
 | true =>
  have hb : b = false:=by cases b with | true=>rw [hZ] at ht;cases ht | false=>rfl
  subst hb
  obtain ⟨s1,rfl⟩:=f7.1 ht
  rw [ht,gO,Bool.not_true] at cx_wa
  simp only [List.length_cons] at hs
  have cx_nu:=ml (G:=G) (r:=r) (sc:=sc) (s:=s1) (b:=false) (top:=200) oM
  rw [Bool.false_or] at cx_nu
  have hwl:=eD br s1
  have hRT : bA (al qs) (rd (al qs) n) t (35 :: s1) = match cM 200 s1 with
    | none=>none
    | some (n,r)=>if (co t.fields n).isSome = true then some (.nd 69 [] n [],r) else none:=by
   unfold bA
   dsimp only
   rw [if_neg oM,if_pos hso,if_pos (show (35 : UInt8).toNat = 35 from rfl)]
   cases cM 200 s1 <;> rfl
  cases hnu : aN (s1.takeWhile br) 200 with
  | none =>
   have hno : bA (al qs) (rd (al qs) n) t (35 :: s1) = none:=by rw [hRT];unfold cM;rw [hnu];rfl
   rw [hnu] at cx_nu
   refine bK [(0,_),(1,_)] Tryz.func149 kR Tryz.ntmps149 F F tU fun B hB hW=>?_
   repeat' (first | refine jR ?_ | (refine jo ?_;first | refine jL fun _=>?_ | refine aB F ?_ | refine jV (aj F F aS F F) ?_ | refine jV (ay F F) ?_ | refine jD F F F ?_ | refine jC F F F ?_ | (refine aL F F F cx_wa F ?_;rintro _ _ rfl;dsimp only [zA,fA]) | (refine aL F F F cx_nu F ?_;rintro _ _ ⟨n1,rfl,⟨hn0,hn1⟩,hnum,rfl⟩;dsimp only [zA,fA])) | refine ac F (ax ‹_›) ?_)
   cases hft : co t.fields n1 with
   | none =>
    have cx_fld:=jm h1 h2 oM hft
    repeat' (first | refine jR ?_ | (refine jo ?_;first | refine bM F ?_ | refine jD F F F ?_ | refine jC F F F ?_ | refine jV (dh F F) ?_ | refine ae F F F cx_fld F ?_) | refine ac F F ?_)
    refine aW (vs:=[_]) F ⟨aJ F F F F,trivial⟩ F sB ⟨Gh.le.refl _,.nd 69 [] n1 [],⟨69,[],n1,none,0,0⟩,s1.dropWhile br,true,by rw [hso];rfl,c7 dC ⟨hn0,hn1⟩,rfl,by simp only [List.length_cons];omega,fun h=>(by cases h),fun _=>⟨.inr hno,by simp only [V.tot,V.tots,List.length_nil,List.length_cons];omega⟩⟩
   | some d =>
    obtain ⟨j,hj,hjn,hjt,hjd⟩:=gw hft
    obtain ⟨bf,of,cf,rfl,hsf⟩:=h2.expl oM
    have cx_fld:=gE h1 hsf oM hj hjn hjt
    repeat' (first | refine jR ?_ | (refine jo ?_;first | refine bM F ?_ | refine jC F F F ?_ | refine jV (dh F F) ?_ | refine ae F F F cx_fld F ?_) | refine ad F F ?_)
    refine aW (vs:=[_]) F ⟨aJ F F F F,trivial⟩ F sB ⟨Gh.le.refl _,.nd 69 [] n1 [],⟨69,[],n1,none,0,0⟩,s1.dropWhile br,true,by rw [hso];rfl,c7 dC ⟨hn0,hn1⟩,rfl,by simp only [List.length_cons];omega,fun h=>(by cases h),fun _=>⟨.inr hno,by simp only [V.tot,V.tots,List.length_nil,List.length_cons];omega⟩⟩
  | some m =>
   rw [hnu] at cx_nu
   have hRT2 : bA (al qs) (rd (al qs) n) t (35 :: s1) = if (co t.fields m).isSome = true then some (.nd 69 [] m [],s1.dropWhile br) else none:=by rw [hRT];unfold cM;rw [hnu];rfl
   refine bK [(0,_),(1,_)] Tryz.func149 kR Tryz.ntmps149 F F tU fun B hB hW=>?_
   repeat' (first | refine jR ?_ | (refine jo ?_;first | refine jL fun _=>?_ | refine aB F ?_ | refine jV (aj F F aS F F) ?_ | refine jV (ay F F) ?_ | refine jD F F F ?_ | refine jC F F F ?_ | (refine aL F F F cx_wa F ?_;rintro _ _ rfl;dsimp only [zA,fA]) | (refine aL F F F cx_nu F ?_;rintro _ _ ⟨n1,rfl,⟨hn0,hn1⟩,hnum,rfl⟩;dsimp only [zA,fA])) | refine ac F (ax ‹_›) ?_)
   obtain rfl : n1 = m:=hnum m rfl
   cases hft : co t.fields n1 with
   | none =>
    rw [hft] at hRT2
    have cx_fld:=jm h1 h2 oM hft
    repeat' (first | refine jR ?_ | (refine jo ?_;first | refine bM F ?_ | refine jD F F F ?_ | refine jC F F F ?_ | refine jV (dh F F) ?_ | refine ae F F F cx_fld F ?_) | refine ac F F ?_)
    refine aW (vs:=[_]) F ⟨aJ F F F F,trivial⟩ F sB ⟨Gh.le.refl _,.nd 69 [] n1 [],⟨69,[],n1,none,0,0⟩,s1.dropWhile br,true,by rw [hso];rfl,c7 dC ⟨hn0,hn1⟩,rfl,by simp only [List.length_cons];omega,fun h=>(by cases h),fun _=>⟨.inr hRT2,by simp only [V.tot,V.tots,List.length_nil,List.length_cons];omega⟩⟩
   | some d =>
    rw [hft] at hRT2
    obtain ⟨j,hj,hjn,hjt,hjd⟩:=gw hft
    obtain ⟨bf,of,cf,rfl,hsf⟩:=h2.expl oM
    have cx_fld:=gE h1 hsf oM hj hjn hjt
    repeat' (first | refine jR ?_ | (refine jo ?_;first | refine bM F ?_ | refine jC F F F ?_ | refine jV (dh F F) ?_ | refine ae F F F cx_fld F ?_) | refine ad F F ?_)
    refine aW (vs:=[_]) F ⟨aJ F F F F,trivial⟩ F sB ⟨Gh.le.refl _,.nd 69 [] n1 [],⟨69,[],n1,none,0,0⟩,s1.dropWhile br,false,by rw [hso];rfl,c7 dC ⟨hn0,hn1⟩,rfl,by simp only [List.length_cons];omega,fun _=>⟨rfl,hRT2⟩,fun h=>(by cases h)⟩
theorem uy {G : Gh} {t : Int} {u : V} {c : VC} (h : V.rep G (.nd 61 [] t [u]) c) : ∃ (b o k : Nat) (d : VC),c = ⟨61,[],t,some ⟨b,o,none⟩,1,k⟩ ∧ (0 ≤ t ∧ t ≤ 999999) ∧ bT G b o (ah bi [d]) ∧ V.rep G u d ∧ V.rep G (.nd 85 [] t [u]) ⟨85,[],t,some ⟨b,o,none⟩,1,k⟩:=by
 obtain ⟨a,k,cs,rfl,_,ht,_,hcl,hsl,hks⟩:=cS h
 rw [V.reps] at hks
 obtain ⟨d,cs',rfl,hd,hcs⟩:=hks
 rw [V.reps] at hcs
 subst hcs
 obtain ⟨b,o,cap,e,hs⟩:=hsl.expl (by simp)
 simp only [Value.slice.injEq] at e
 obtain ⟨rfl,-,rfl⟩:=e
 exact ⟨b,o,k,d,F,ht,hs,hd,dV dC ht (fun h=>absurd h dC) F hsl ⟨d,[],F,hd,F⟩⟩
theorem acE {n r sc bt : Nat} {qs : List c6} {t : Ty} {s : adB} {b : Bool} (hV : ny n sc qs) (hS : ScI G sc qs) (hkf : ∀ d ∈ t.fields,aA (al qs) d.kind = true) (hT : oh G bt t) (hw : TyW t) (hso : t.sort = 85) (hs : s.length ≤ n ∧ s.length ≤ 1000) :
  ff adA 149 [Pt r 0,Pt bt 0] G [eH r sc s b] (iW (bA (al qs) (rd (al qs) n) t) r sc s b):=by
 obtain ⟨fv,ln,h1,h2⟩:=hT
 have hfl:=hw.len
 have hso' : (t.sort : Int) = 85:=oM
 have hne : 0 < t.fields.length:=List.length_pos_iff.2 (hw.ne oM)
 obtain ⟨bf,of,cf,rfl,hsf⟩:=h2.expl hne
 have cx_wa:=d4 (G:=G) (r:=r) (sc:=sc) (s:=s) (l:=[60]) (b:=b) ⟨oM,by simp⟩
 cases ht : df [60] s b with
 | false =>
  rw [ht,gY ht,Bool.not_false] at cx_wa
  have hno : b = true ∨ bA (al qs) (rd (al qs) n) t s = none:=by
   cases b with
   | true=>exact .inl F
   | false=>exact .inr (oo (.inr (.inr ⟨oM,F⟩)) (jv ht))
  have cx_fd:=oZ (s:=s) (b:=true) (r:=r) hV hS hw hkf h1 h2 (fun _=>⟨rfl,hsf⟩) hs
  refine bK [(0,_),(1,_)] Tryz.func149 kR Tryz.ntmps149 F F tU fun B hB hW=>?_
  repeat' (first | refine jR ?_ | (refine jo ?_;first | refine jL fun _=>?_ | refine jV (aj F F aS F F) ?_ | refine jV (ay F F) ?_ | refine jC F F F ?_ | (refine aL F F F cx_wa F ?_;rintro _ _ rfl;dsimp only [zA,fA]) | (refine eI F F F cx_fd F ?_;rintro _ G1 _ hle ⟨t1,b1,rfl,htl,⟨rfl,rfl,hF⟩ | ⟨j,u1,c1,hj,rfl,hrep,hb0,hto,hg,hbd⟩⟩ <;> (dsimp only [zA,fA];skip))) | refine ac F (ax ‹_›) ?_ | refine ad F (aF oM) ?_)
  ·have cx_wb:=d4 (G:=G1) (r:=r) (sc:=sc) (s:=t1) (l:=[62]) (b:=true) ⟨oM,by simp⟩
   rw [hZ,jq,Bool.not_false] at cx_wb
   repeat' (first | refine jR ?_ | (refine jo ?_;first | refine bM F ?_ | refine jC F F F ?_ | refine jV (iv F F) ?_ | (refine aL F F F cx_wb F ?_;rintro _ _ rfl;dsimp only [zA,fA])) | refine ad F F ?_)
   refine aW (vs:=[_]) F ⟨aJ F F F F,trivial⟩ F sB ⟨hle,.nd 85 [] 0 [],⟨85,[],0,none,0,0⟩,t1,true,by rw [hso];rfl,c7 dC dC,rfl,oM,fun h=>(by cases h),fun _=>⟨hno,by simp only [V.tot,V.tots,List.length_nil];omega⟩⟩
  ·cases hb0
 | true =>
  have hb : b = false:=by cases b with | true=>rw [hZ] at ht;cases ht | false=>rfl
  subst hb
  obtain ⟨s1,rfl⟩:=f7.1 ht
  rw [ht,gO,Bool.not_true] at cx_wa
  simp only [List.length_cons] at hs
  have hRT : bA (al qs) (rd (al qs) n) t (60 :: s1) = match aY (rd (al qs) n) t s1 with
    | none=>none
    | some ((d,v),r)=>match r with
     | []=>none
     | c' :: r'=>if c'.toNat = 62 then some (.nd 85 [] d.tag [v],r') else none:=by
   unfold bA
   dsimp only
   rw [if_neg oM,if_neg oM,if_pos (show (60 : UInt8).toNat = 60 from rfl)]
   cases aY (rd (al qs) n) t s1 <;> rfl
  have cx_fd:=oZ (s:=s1) (b:=false) (r:=r) hV hS hw hkf h1 h2 (fun _=>⟨rfl,hsf⟩) ⟨oM,oM⟩
  refine bK [(0,_),(1,_)] Tryz.func149 kR Tryz.ntmps149 F F tU fun B hB hW=>?_
  repeat' (first | refine jR ?_ | (refine jo ?_;first | refine jL fun _=>?_ | refine jV (aj F F aS F F) ?_ | refine jV (ay F F) ?_ | refine jC F F F ?_ | (refine aL F F F cx_wa F ?_;rintro _ _ rfl;dsimp only [zA,fA]) | (refine eI F F F cx_fd F ?_;rintro _ G1 _ hle ⟨t1,b1,rfl,htl,⟨rfl,rfl,hF⟩ | ⟨j,u1,c1,hj,rfl,hrep,hb0,hto,hg,hbd⟩⟩ <;> (dsimp only [zA,fA];skip))) | refine ac F (ax ‹_›) ?_ | refine ad F (aF oM) ?_)
  ·have hno : bA (al qs) (rd (al qs) n) t (60 :: s1) = none:=by
    rcases hF with h | h
    ·cases h
    ·rw [hRT,h]
   have cx_wb:=d4 (G:=G1) (r:=r) (sc:=sc) (s:=t1) (l:=[62]) (b:=true) ⟨oM,by simp⟩
   rw [hZ,jq,Bool.not_false] at cx_wb
   repeat' (first | refine jR ?_ | (refine jo ?_;first | refine bM F ?_ | refine jC F F F ?_ | refine jV (iv F F) ?_ | (refine aL F F F cx_wb F ?_;rintro _ _ rfl;dsimp only [zA,fA])) | refine ad F F ?_)
   refine aW (vs:=[_]) F ⟨aJ F F F F,trivial⟩ F sB ⟨hle,.nd 85 [] 0 [],⟨85,[],0,none,0,0⟩,t1,true,by rw [hso];rfl,c7 dC dC,rfl,by simp only [List.length_cons];omega,fun h=>(by cases h),fun _=>⟨.inr hno,by simp only [V.tot,V.tots,List.length_nil,List.length_cons];omega⟩⟩
  ·obtain ⟨kb,ko,kc,d,rfl,htg,hsd,hrd,hru⟩:=uy hrep
   have hsf1:=hsf.mono hle
   cases b1 with
   | true =>
    have hno : bA (al qs) (rd (al qs) n) t (60 :: s1) = none:=by rw [hRT,hbd rfl]
    have cx_wb:=d4 (G:=G1) (r:=r) (sc:=sc) (s:=t1) (l:=[62]) (b:=true) ⟨oM,by simp⟩
    rw [hZ,jq,Bool.not_false] at cx_wb
    repeat' (first | refine jR ?_ | (refine jo ?_;first | refine jV (iv F F) ?_ | (refine aL F F F cx_wb F ?_;rintro _ _ rfl;dsimp only [zA,fA])) | refine ac F F ?_)
    rename_i x4 x5 _ x6 _
    dsimp only [VC.sl]
    (refine an (ao (id:=25) [.blk x6 (.cells (List.toArray [U8 ((61 : Nat) : Int),S [],I (ab t.fields j).tag,.slice (some ⟨kb,ko,none⟩) 1 kc]) dc (0,0))] (by intro y hy;simp only [List.mem_cons,List.not_mem_nil,or_false] at hy ⊢;simp [hy]) am ?_);refine jW 6 [0,1,2,4] (aa 10 23) ?_;((refine jG (aa 10 31) 3 F (b8 F F aS ?_ F F) ?_;focus omega));refine jW 4 [6] (aa 10 95) ?_;(refine jG (aa 10 127) 5 F (aX F F F) ?_);refine jA 7 F ?_;(refine jD F F F ?_);refine jK (aa 10 255) ?_;refine jW 1 [8] (aa 10 511) ?_;refine jA 9 F ?_;(refine jD F F F ?_);refine jK (aa 10 1023) ?_;refine jQ ?_)
    all_goals repeat' (first | refine jR ?_ | (refine jo ?_;first | refine bM F ?_ | refine jC F F F ?_))
    all_goals refine aW (vs:=[_]) F ⟨aJ F F F F,trivial⟩ F sB ⟨hle,.nd 85 [] (ab t.fields j).tag [u1],⟨85,[],(ab t.fields j).tag,some ⟨kb,ko,none⟩,1,kc⟩,t1,true,by rw [hso];rfl,hru,rfl,by simp only [List.length_cons] at *;omega,fun h=>(by cases h),fun _=>⟨.inr hno,by simp only [V.tot,V.tots,List.length_nil,List.length_cons] at *;omega⟩⟩
   | false =>
    have hgd:=hg rfl
    have cx_wb:=d4 (G:=G1) (r:=r) (sc:=sc) (s:=t1) (l:=[62]) (b:=false) ⟨oM,by simp⟩
    cases ht2 : df [62] t1 false with
    | true =>
     obtain ⟨t2,rfl⟩:=f7.1 ht2
     rw [ht2,gO,Bool.not_true] at cx_wb
     have hgood : bA (al qs) (rd (al qs) n) t (60 :: s1) = some (.nd 85 [] (ab t.fields j).tag [u1],t2):=by
      rw [hRT,hgd];dsimp only;rw [if_pos (show (62 : UInt8).toNat = 62 from rfl)]
     repeat' (first | refine jR ?_ | (refine jo ?_;first | refine jV (iv F F) ?_ | (refine aL F F F cx_wb F ?_;rintro _ _ rfl;dsimp only [zA,fA])) | refine ac F F ?_)
     rename_i x4 x5 _ x6 _
     dsimp only [VC.sl]
     (refine an (ao (id:=25) [.blk x6 (.cells (List.toArray [U8 ((61 : Nat) : Int),S [],I (ab t.fields j).tag,.slice (some ⟨kb,ko,none⟩) 1 kc]) dc (0,0))] (by intro y hy;simp only [List.mem_cons,List.not_mem_nil,or_false] at hy ⊢;simp [hy]) am ?_);refine jW 6 [0,1,2,4] (aa 10 23) ?_;((refine jG (aa 10 31) 3 F (b8 F F aS ?_ F F) ?_;focus omega));refine jW 4 [6] (aa 10 95) ?_;(refine jG (aa 10 127) 5 F (aX F F F) ?_);refine jA 7 F ?_;(refine jD F F F ?_);refine jK (aa 10 255) ?_;refine jW 1 [8] (aa 10 511) ?_;refine jA 9 F ?_;(refine jD F F F ?_);refine jK (aa 10 1023) ?_;refine jQ ?_)
     all_goals repeat' (first | refine jR ?_ | (refine jo ?_;first | refine bM F ?_ | refine jC F F F ?_))
     all_goals refine aW (vs:=[_]) F ⟨aJ F F F F,trivial⟩ F sB ⟨hle,.nd 85 [] (ab t.fields j).tag [u1],⟨85,[],(ab t.fields j).tag,some ⟨kb,ko,none⟩,1,kc⟩,t2,false,by rw [hso];rfl,hru,rfl,by simp only [List.length_cons] at *;omega,fun _=>⟨rfl,hgood⟩,fun h=>(by cases h)⟩
    | false =>
     rw [ht2,gY ht2,Bool.not_false] at cx_wb
     have hno : bA (al qs) (rd (al qs) n) t (60 :: s1) = none:=by
      rw [hRT,hgd]
      dsimp only
      cases t1 with
      | nil=>rfl
      | cons e t2 =>
       dsimp only
       rw [if_neg]
       intro h62
       exact jv ht2 t2 (by rw [show e = 62 from UInt8.toNat_inj.1 h62])
     repeat' (first | refine jR ?_ | (refine jo ?_;first | refine jV (iv F F) ?_ | (refine aL F F F cx_wb F ?_;rintro _ _ rfl;dsimp only [zA,fA])) | refine ac F F ?_)
     rename_i x4 x5 _ x6 _
     dsimp only [VC.sl]
     (refine an (ao (id:=25) [.blk x6 (.cells (List.toArray [U8 ((61 : Nat) : Int),S [],I (ab t.fields j).tag,.slice (some ⟨kb,ko,none⟩) 1 kc]) dc (0,0))] (by intro y hy;simp only [List.mem_cons,List.not_mem_nil,or_false] at hy ⊢;simp [hy]) am ?_);refine jW 6 [0,1,2,4] (aa 10 23) ?_;((refine jG (aa 10 31) 3 F (b8 F F aS ?_ F F) ?_;focus omega));refine jW 4 [6] (aa 10 95) ?_;(refine jG (aa 10 127) 5 F (aX F F F) ?_);refine jA 7 F ?_;(refine jD F F F ?_);refine jK (aa 10 255) ?_;refine jW 1 [8] (aa 10 511) ?_;refine jA 9 F ?_;(refine jD F F F ?_);refine jK (aa 10 1023) ?_;refine jQ ?_)
     all_goals repeat' (first | refine jR ?_ | (refine jo ?_;first | refine bM F ?_ | refine jC F F F ?_))
     all_goals refine aW (vs:=[_]) F ⟨aJ F F F F,trivial⟩ F sB ⟨hle,.nd 85 [] (ab t.fields j).tag [u1],⟨85,[],(ab t.fields j).tag,some ⟨kb,ko,none⟩,1,kc⟩,t1,true,by rw [hso];rfl,hru,rfl,by simp only [List.length_cons] at *;omega,fun h=>(by cases h),fun _=>⟨.inr hno,by simp only [V.tot,V.tots,List.length_nil,List.length_cons] at *;omega⟩⟩
theorem eF {ts : List Ty} {f : adB → adB → Option (V × adB)} {t : Ty} {s : adB} {vs : List V} {last : Int} : ∀ {m : Nat},aY f t s = none → ck ts f t m last s vs = none
 | 0,_=>rfl
 | m + 1,h=>by rw [ck,h]
theorem kP {ts : List Ty} {f : adB → adB → Option (V × adB)} {t : Ty} {s r : adB} {vs : List V} {last : Int} {d : Fld} {v : V} {m : Nat} (h : aY f t s = some ((d,v),r)) (hm : 0 < m) :
  ck ts f t m last s vs = if d.tag ≤ last ∨ v.out = bR ts d then none else match r with
   | []=>none
   | c :: r'=>if c.toNat = 44 then ck ts f t (m - 1) d.tag r' (vs ++ [.nd 61 [] d.tag [v]]) else if c.toNat = 125 then some (vs ++ [.nd 61 [] d.tag [v]],r') else none:=by
 obtain ⟨m,rfl⟩ : ∃ k,m = k + 1:=⟨m - 1,oM⟩
 rw [ck,h];rfl
theorem k3 {f : adB → adB → Option (V × adB)} {t : Ty} : aY f t [] = none:=by
 unfold aY cM
 have : aN (([] : adB).takeWhile br) 200 = none:=by
  cases h : aN (([] : adB).takeWhile br) 200 with
  | none=>rfl
  | some m =>
   have:=(ed h).2.1
   have h2:=gy m
   rw [← this] at h2;simp at h2
 rw [this];rfl
theorem acF {n r sc bt : Nat} {qs : List c6} {t : Ty} {s : adB} {b : Bool} (hV : ny n sc qs) (hS : ScI G sc qs) (hW0 : SchW (al qs)) (hkf : ∀ d ∈ t.fields,aA (al qs) d.kind = true) (hT : oh G bt t) (hw : TyW t) (hso : t.sort = 82) (hs : s.length ≤ n ∧ s.length ≤ 1000) :
  ff adA 149 [Pt r 0,Pt bt 0] G [eH r sc s b] (iW (bA (al qs) (rd (al qs) n) t) r sc s b):=by
 obtain ⟨fv,ln,h1,h2⟩:=hT
 have hfl:=hw.len
 have hso' : (t.sort : Int) = 82:=oM
 have cx_wa:=d4 (G:=G) (r:=r) (sc:=sc) (s:=s) (l:=[123]) (b:=b) ⟨oM,by simp⟩
 have cx_tk:=iA (G:=G) (r:=r) (sc:=sc) (s:=eE [123] s b) (l:=[125]) (b:=!df [123] s b) ⟨by have:=ke (l:=[123]) (s:=s) (b:=b);omega,by simp⟩
 cases ht : df [123] s b with
 | false =>
  rw [ht,gY ht] at cx_wa cx_tk
  rw [Bool.not_false,hZ,jq] at cx_tk
  have cx_wb:=d4 (G:=G) (r:=r) (sc:=sc) (s:=s) (l:=[125]) (b:=true) ⟨oM,by simp⟩
  rw [hZ,jq] at cx_wb
  have hno : b = true ∨ bA (al qs) (rd (al qs) n) t s = none:=by
   cases b with
   | true=>exact .inl F
   | false=>exact .inr (oo (.inl ⟨hso,F⟩) (jv ht))
  refine bK [(0,_),(1,_)] Tryz.func149 kR Tryz.ntmps149 F F tU fun B hB hW=>?_
  repeat' (first | refine jR ?_ | (refine jo ?_;first | refine jL fun _=>?_ | refine jV (aj F F aS F F) ?_ | refine jV (ay F F) ?_ | refine jC F F F ?_ | (refine aL F F F cx_wa F ?_;rintro _ _ rfl;dsimp only [zA,fA]) | (refine aL F F F cx_tk F ?_;rintro _ _ ⟨rfl,rfl⟩;dsimp only [zA,fA])) | (refine ad F (by first | rfl | (refine decide_eq_false ?_;(omega))) ?_))
  rename_i x4 x5 _
  refine aV (ι:=Unit) (fun i=>True) (fun i=>[(0,Pt r 0),(1,Pt bt 0),(4,Pt x4 0),(5,Pt x5 0),(8,I 0)]) (fun _=>G) (fun i=>[eH r sc s true,rn x5 [U8 t.sort,S [],I 0,aK],rn x4 [U8 0,S [],I 0,aK]]) (fun i=>0) () ?_ tU F a7 (fun i Hi=>?_)
  ·trivial
  repeat' (first | refine jR ?_ | (refine jo ?_;first | refine aB F ?_ | refine bM F ?_ | refine jC F F F ?_ | (refine aL F F F cx_wb F ?_;rintro _ _ rfl;dsimp only [zA,fA])) | refine ad F F ?_)
  refine aW (vs:=[_]) F ⟨aJ F F F F,trivial⟩ F sB ⟨Gh.le.refl _,.nd 82 [] 0 [],⟨82,[],0,none,0,0⟩,s,true,by rw [hso];rfl,c7 dC dC,rfl,Nat.le_refl _,fun h=>(by cases h),fun _=>⟨hno,by simp only [V.tot,V.tots,List.length_nil];omega⟩⟩
 | true =>
  have hb : b = false:=by cases b with | true=>rw [hZ] at ht;cases ht | false=>rfl
  subst hb
  obtain ⟨s1,rfl⟩:=f7.1 ht
  rw [ht,gO] at cx_wa cx_tk
  rw [Bool.not_true] at cx_wa cx_tk
  simp only [List.length_cons] at hs
  cases ht2 : df [125] s1 false with
  | true =>
   obtain ⟨s2,rfl⟩:=f7.1 ht2
   rw [ht2,gO] at cx_tk
   have hgood : bA (al qs) (rd (al qs) n) t (123 :: 125 :: s2) = some (.nd 82 [] 0 [],s2):=by
    unfold bA
    dsimp only
    rw [if_pos hso,if_pos (show (123 : UInt8).toNat = 123 from rfl),if_pos (show (125 : UInt8).toNat = 125 from rfl)]
   refine bK [(0,_),(1,_)] Tryz.func149 kR Tryz.ntmps149 F F tU fun B hB hW=>?_
   repeat' (first | refine jR ?_ | (refine jo ?_;first | refine jL fun _=>?_ | refine bM F ?_ | refine jV (aj F F aS F F) ?_ | refine jV (ay F F) ?_ | refine jC F F F ?_ | (refine aL F F F cx_wa F ?_;rintro _ _ rfl;dsimp only [zA,fA]) | (refine aL F F F cx_tk F ?_;rintro _ _ ⟨rfl,rfl⟩;dsimp only [zA,fA])) | refine ac F F ?_ | refine ad F (aF oM) ?_)
   refine aW (vs:=[_]) F ⟨aJ F F F F,trivial⟩ F sB ⟨Gh.le.refl _,.nd 82 [] 0 [],⟨82,[],0,none,0,0⟩,s2,false,by rw [hso];rfl,c7 dC dC,rfl,by simp only [List.length_cons];omega,fun _=>⟨rfl,hgood⟩,fun h=>(by cases h)⟩
  | false =>
   rw [ht2,gY ht2] at cx_tk
   have hR : bA (al qs) (rd (al qs) n) t (123 :: s1) = (ck (al qs) (rd (al qs) n) t (s1.length + 1) 0 s1 []).map fun x=>(.nd 82 [] 0 x.1,x.2):=by
    unfold bA
    dsimp only
    rw [if_pos hso,if_pos (show (123 : UInt8).toNat = 123 from rfl)]
    cases s1 with
    | nil=>rw [eF k3];rfl
    | cons e r' =>
     dsimp only
     rw [if_neg]
     intro h93
     exact jv ht2 r' (by rw [show e = 125 from UInt8.toNat_inj.1 h93])
   refine bK [(0,_),(1,_)] Tryz.func149 kR Tryz.ntmps149 F F tU fun B hB hW=>?_
   repeat' (first | refine jR ?_ | (refine jo ?_;first | refine jL fun _=>?_ | refine jV (aj F F aS F F) ?_ | refine jV (ay F F) ?_ | refine jC F F F ?_ | (refine aL F F F cx_wa F ?_;rintro _ _ rfl;dsimp only [zA,fA]) | (refine aL F F F cx_tk F ?_;rintro _ _ ⟨rfl,rfl⟩;dsimp only [zA,fA])) | (refine ad F (by first | rfl | (refine decide_eq_false ?_;(omega))) ?_))
   rename_i x4 x5 _
   refine Nx.addNil dc 4 (Nx.perm (List.Perm.swap _ _ _) ?_)
   refine aV (ι:=List V × List VC × Option Addr × Nat × adB × Nat × Int × Gh) (fun q=>(V.reps q.2.2.2.2.2.2.2 q.1 q.2.1 ∧ Gh.le G q.2.2.2.2.2.2.2) ∧ (ck (al qs) (rd (al qs) n) t (s1.length + 1) 0 s1 [] = ck (al qs) (rd (al qs) n) t q.2.2.2.2.2.1 q.2.2.2.2.2.2.1 q.2.2.2.2.1 q.1 ∧ q.2.2.2.2.1.length < q.2.2.2.2.2.1) ∧ (V.tots q.1 + 100 * q.2.2.2.2.1.length + 100 ≤ 100 * (s1.length + 1) ∧ q.2.2.2.2.1.length ≤ s1.length)) (fun q=>[(0,Pt r 0),(1,Pt bt 0),(4,Pt x4 0),(5,Pt x5 0),(8,I q.2.2.2.2.2.2.1)]) (fun q=>q.2.2.2.2.2.2.2) (fun q=>[eH r sc q.2.2.2.2.1 false,.acc (.slice q.2.2.1 q.1.length q.2.2.2.1) dc 4 q.1.length (ah bi q.2.1),rn x5 [U8 t.sort,S [],I 0,.slice q.2.2.1 q.1.length q.2.2.2.1],rn x4 [U8 0,S [],I 0,aK]]) (fun q=>q.2.2.2.2.1.length) ([],[],none,0,s1,s1.length + 1,0,G) ?_ tU F a7 (fun q Hq=>?_)
   ·exact ⟨⟨F,Gh.le.refl _⟩,⟨F,by dsimp only;omega⟩,by dsimp only;simp only [V.tots];omega,Nat.le_refl _⟩
   obtain ⟨vs,cs,a,cap,t',m,last,Gq⟩:=q
   dsimp only at Hq ⊢
   obtain ⟨⟨hreps,hgq⟩,⟨hit,htm⟩,hT,htl'⟩:=Hq
   have hcl:=gn hreps
   have hkl:=dk vs
   have hfv : t.fields ≠ [] → ∃ bf of cf,fv = .slice (some ⟨bf,of,none⟩) t.fields.length cf ∧ bT G bf of (ah gx t.fields):=fun h=>by
    obtain ⟨bf,of,cf,e,hs⟩:=h2.expl (List.length_pos_iff.2 h)
    exact ⟨bf,of,cf,e,hs⟩
   obtain ⟨bf,of,cf,hfv⟩ : ∃ bf of cf,t.fields ≠ [] → fv = .slice (some ⟨bf,of,none⟩) t.fields.length cf ∧ bT G bf of (ah gx t.fields):=by
    by_cases h : t.fields = []
    ·exact ⟨0,0,0,fun h'=>absurd h h'⟩
    ·obtain ⟨bf,of,cf,h⟩:=hfv h
     exact ⟨bf,of,cf,fun _=>h⟩
   have cx_fd:=oZ (s:=t') (b:=false) (r:=r) hV (hS.mono hgq) hw hkf (h1.mono hgq) (h2.mono hgq) (fun h=>⟨(hfv h).1,(hfv h).2.mono hgq⟩) ⟨oM,oM⟩
   repeat' (first | refine jR ?_ | (refine jo ?_;first | refine jL fun _=>?_ | refine aB F ?_ | refine jD F F F ?_ | refine jC F F F ?_ | (refine eI F F F cx_fd F ?_;rintro _ G1 _ hle ⟨t1,b1,rfl,htl,⟨rfl,rfl,hF⟩ | ⟨j,u1,c1,hj,rfl,hrep,hb0,hto,hg,hbd⟩⟩ <;> (dsimp only [zA,fA];skip))) | refine ac F F ?_ | (refine an (ao (id:=9) _ (fun _ h=>h) am ?_);refine jT 23 [0] (aa 24 1) ?_;(refine jG (aa 24 3) 1 F (dh F F) ?_);refine jT 21 [2] (aa 24 7) ?_;(try (first | refine Nx.re (d:=38) (v':=Bo true) F (congrArg Value.bool F) ?_ | refine Nx.re (d:=38) (v':=Bo false) F (congrArg Value.bool F) ?_));refine jT 17 [3,4,5,7] (aa 24 191) ?_;(refine jN (aa 24 255) 6 F ?_);refine jT 15 [8] (aa 24 511) ?_;(refine jG (aa 24 1023) 9 F (bO F F F) ?_);refine jT 13 [10] (aa 24 2047) ?_;(try (refine Nx.re (d:=46) (v':=Bo true) F (congrArg Value.bool F) ?_));refine jT 8 [11,16,17,18,20] (aa 24 1511423) ?_;(refine jN (aa 24 1515519) 12 F ?_);(refine jN (aa 24 1523711) 13 F ?_);(refine jN (aa 24 1540095) 14 F ?_);(refine jN (aa 24 2064383) 19 F ?_);(refine jN (aa 24 2097151) 15 F ?_);(refine jN (aa 24 4194303) 21 F ?_);refine jT 1 [22] (aa 24 8388607) ?_;(refine jG (aa 24 16777215) 23 F (bO F F F) ?_);refine jQ ?_))
   ·have hgl:=hgq.trans hle
    have hno : aY (rd (al qs) n) t t' = none:=by
     rcases hF with h | h
     ·cases h
     ·exact h
    have hit2 : ck (al qs) (rd (al qs) n) t m last t' vs = none:=eF hno
    have cx_wb:=d4 (G:=G1) (r:=r) (sc:=sc) (s:=t1) (l:=[125]) (b:=true) ⟨oM,by simp⟩
    rw [hZ,jq,Bool.not_false] at cx_wb
    repeat' (first | refine jR ?_ | (refine jo ?_;first | refine bM F ?_ | refine jC F F F ?_ | (refine aL F F F cx_wb F ?_;rintro _ _ rfl;dsimp only [zA,fA])))
    refine Nx.sealS (v:=.slice a vs.length cap) fun G2 hG2 hsl=>?_
    refine aW (vs:=[_]) F ⟨aJ F F F F,trivial⟩ F sB ⟨hgl.trans hG2,.nd 82 [] 0 vs,⟨82,[],0,a,vs.length,cap⟩,t1,true,by rw [hso];rfl,dV dC dC (fun h=>absurd h dC) rfl (by rw [hcl];exact hsl) (cL (hle.trans hG2) hreps),F,by simp only [List.length_cons];omega,fun h=>(by cases h),fun _=>⟨.inr (by rw [hR,hit,hit2];rfl),by rw [bI];simp only [List.length_cons,List.length_nil];omega⟩⟩
   ·have hgl:=hgq.trans hle
    obtain ⟨kb,ko,kc,d,rfl,htg,hsd,hrd,hru⟩:=uy hrep
    dsimp only [bi,VC.sl]
    have hsf1:=(hfv (fun h=>by rw [h] at hj;simp at hj)).2.mono hgl
    have hS1:=hS.mono hgl
    have cx_pr:=eh (G:=G1) u1.tot (Nat.le_refl _) oM hrd
    have hotl:=uI hrd
    have cx_of:=vV hS1 hW0 hsf1 hj (hkf _ (bB hj))
    have cx_wb:=d4 (G:=G1) (r:=r) (sc:=sc) (s:=t1) (l:=[125]) (b:=true) ⟨oM,by simp⟩
    rw [hZ,jq,Bool.not_false] at cx_wb
    by_cases hbrk : (ab t.fields j).tag ≤ last ∨ u1.out = bR (al qs) (ab t.fields j)
    ·have hit2 : ck (al qs) (rd (al qs) n) t m last t' vs = none:=by
      cases b1 with
      | true=>exact eF (hbd F)
      | false=>rw [kP (hg rfl) oM,if_pos hbrk]
     by_cases hlast : (ab t.fields j).tag ≤ last
     ·repeat' (first | refine jR ?_ | (refine jo ?_;first | refine bM F ?_ | refine jD F F F ?_ | refine jC F F F ?_ | (refine aL F F F cx_wb F ?_;rintro _ _ rfl;dsimp only [zA,fA])) | refine ac F F ?_ | (refine an (ao (id:=9) _ (fun _ h=>h) am ?_);refine jT 23 [0] (aa 24 1) ?_;(refine jG (aa 24 3) 1 F (dh F F) ?_);refine jT 21 [2] (aa 24 7) ?_;(try (refine Nx.re (d:=38) (v':=Bo false) F (congrArg Value.bool F) ?_));refine jT 17 [3,4,5,7] (aa 24 191) ?_;((refine jG (aa 24 255) 6 F (b8 F F aS ?_ F F) ?_;focus omega));refine jT 15 [8] (aa 24 511) ?_;(refine jG (aa 24 1023) 9 F (bn F F F) ?_);refine jT 13 [10] (aa 24 2047) ?_;(try (refine Nx.re (d:=46) (v':=Bo true) F (congrArg Value.bool (ax ‹_›)) ?_));refine jT 8 [11,16,17,18,20] (aa 24 1511423) ?_;(refine jN (aa 24 1515519) 12 F ?_);(refine jN (aa 24 1523711) 13 F ?_);(refine jN (aa 24 1540095) 14 F ?_);(refine jN (aa 24 2064383) 19 F ?_);(refine jN (aa 24 2097151) 15 F ?_);(refine jN (aa 24 4194303) 21 F ?_);refine jT 1 [22] (aa 24 8388607) ?_;(refine jG (aa 24 16777215) 23 F (bO F F F) ?_);refine jQ ?_))
      refine Nx.sealS (v:=.slice a vs.length cap) fun G2 hG2 hsl=>?_
      refine aW (vs:=[_]) F ⟨aJ F F F F,trivial⟩ F sB ⟨hgl.trans hG2,.nd 82 [] 0 vs,⟨82,[],0,a,vs.length,cap⟩,t1,true,by rw [hso];rfl,dV dC dC (fun h=>absurd h dC) rfl (by rw [hcl];exact hsl) (cL (hle.trans hG2) hreps),F,by simp only [List.length_cons];omega,fun h=>(by cases h),fun _=>⟨.inr (by rw [hR,hit,hit2];rfl),by rw [bI];simp only [List.length_cons,List.length_nil];omega⟩⟩
     ·have heq : u1.out = bR (al qs) (ab t.fields j):=by
       rcases hbrk with h | h
       ·exact absurd h hlast
       ·exact h
      repeat' (first | refine jR ?_ | (refine jo ?_;first | refine bM F ?_ | refine jD F F F ?_ | refine jC F F F ?_ | (refine aL F F F cx_wb F ?_;rintro _ _ rfl;dsimp only [zA,fA])) | refine ac F (ax ‹_›) ?_ | (refine an (ao (id:=9) _ (fun _ h=>h) am ?_);refine jT 23 [0] (aa 24 1) ?_;(refine jG (aa 24 3) 1 F (dh F F) ?_);refine jT 21 [2] (aa 24 7) ?_;(try (refine Nx.re (d:=38) (v':=Bo false) F (congrArg Value.bool F) ?_));refine jT 17 [3,4,5,7] (aa 24 191) ?_;((refine jG (aa 24 255) 6 F (b8 F F aS ?_ F F) ?_;focus omega));refine jT 15 [8] (aa 24 511) ?_;(refine jG (aa 24 1023) 9 F (bn F F F) ?_);refine jT 13 [10] (aa 24 2047) ?_;(try (refine Nx.re (d:=46) (v':=Bo false) F (congrArg Value.bool (aF ‹_›)) ?_));refine jT 8 [11,16,17,18,20] (aa 24 1511423) ?_;(refine jG (aa 24 1515519) 12 F (aX F F F) ?_);(refine jG (aa 24 1523711) 13 F (aQ F F oM) ?_);((refine jG (aa 24 1540095) 14 F (dM F F aS ?_) ?_;(focus ((simp only [List.length_append,List.length_cons,List.length_nil,List.length_take];omega);done))));(refine jG (aa 24 2064383) 19 F (aX F F F) ?_);(refine jA 15 F ?_;(refine ae F F F cx_pr F ?_);refine jS (aa 24 2097151) ?_);(refine jA 21 F ?_;(refine ae F F F cx_of F ?_);refine jS (aa 24 4194303) ?_);refine jT 1 [22] (aa 24 8388607) ?_;(refine jG (aa 24 16777215) 23 F (bn F F F) ?_);refine jQ ?_))
      refine Nx.sealS (v:=.slice a vs.length cap) fun G2 hG2 hsl=>?_
      refine aW (vs:=[_]) F ⟨aJ F F F F,trivial⟩ F sB ⟨hgl.trans hG2,.nd 82 [] 0 vs,⟨82,[],0,a,vs.length,cap⟩,t1,true,by rw [hso];rfl,dV dC dC (fun h=>absurd h dC) rfl (by rw [hcl];exact hsl) (cL (hle.trans hG2) hreps),F,by simp only [List.length_cons];omega,fun h=>(by cases h),fun _=>⟨.inr (by rw [hR,hit,hit2];rfl),by rw [bI];simp only [List.length_cons,List.length_nil];omega⟩⟩
    ·have hlast : ¬ (ab t.fields j).tag ≤ last:=fun h=>hbrk (.inl h)
     have heq : ¬ u1.out = bR (al qs) (ab t.fields j):=fun h=>hbrk (.inr h)
     have hrow : ah bi cs ++ [U8 ((61 : Nat) : Int),S [],I (ab t.fields j).tag,.slice (some ⟨kb,ko,none⟩) 1 kc] = ah bi (cs ++ [⟨61,[],(ab t.fields j).tag,some ⟨kb,ko,none⟩,1,kc⟩]):=(bW bi cs (⟨61,[],(ab t.fields j).tag,some ⟨kb,ko,none⟩,1,kc⟩ : VC)).symm
     have hr2 : V.reps G1 (vs ++ [.nd 61 [] (ab t.fields j).tag [u1]]) (cs ++ [⟨61,[],(ab t.fields j).tag,some ⟨kb,ko,none⟩,1,kc⟩]):=ib hrep (cL hle hreps)
     have hvl : (vs ++ [V.nd 61 [] (ab t.fields j).tag [u1]]).length = vs.length + 1:=by simp
     have htu : V.tots (vs ++ [V.nd 61 [] (ab t.fields j).tag [u1]]) = V.tots vs + (20 + u1.tot):=by simp [fE,V.tots,V.tot]
     cases b1 with
     | true =>
      have hit2 : ck (al qs) (rd (al qs) n) t m last t' vs = none:=eF (hbd rfl)
      have cx_tm:=iA (G:=G1) (r:=r) (sc:=sc) (s:=t1) (l:=[44]) (b:=true) ⟨oM,by simp⟩
      rw [hZ,jq] at cx_tm
      repeat' (first | refine jR ?_ | (refine jo ?_;first | refine aB F ?_ | (refine jV (b8 F F aS ?_ F F) ?_;focus omega) | refine bM F ?_ | refine jD F F F ?_ | refine jC F F F ?_ | refine jF fun _=>?_ | refine bC F F F F F F F F F oM fun _ _=>?_ | (refine aL F F F cx_wb F ?_;rintro _ _ rfl;dsimp only [zA,fA]) | (refine aL F F F cx_tm F ?_;rintro _ _ ⟨rfl,rfl⟩;dsimp only [zA,fA])) | refine ac F F ?_ | refine ad F (aF ‹_›) ?_ | (refine an (ao (id:=9) _ (fun _ h=>h) am ?_);refine jT 23 [0] (aa 24 1) ?_;(refine jG (aa 24 3) 1 F (dh F F) ?_);refine jT 21 [2] (aa 24 7) ?_;(try (refine Nx.re (d:=38) (v':=Bo false) F (congrArg Value.bool F) ?_));refine jT 17 [3,4,5,7] (aa 24 191) ?_;((refine jG (aa 24 255) 6 F (b8 F F aS ?_ F F) ?_;focus omega));refine jT 15 [8] (aa 24 511) ?_;(refine jG (aa 24 1023) 9 F (bn F F F) ?_);refine jT 13 [10] (aa 24 2047) ?_;(try (refine Nx.re (d:=46) (v':=Bo false) F (congrArg Value.bool (aF ‹_›)) ?_));refine jT 8 [11,16,17,18,20] (aa 24 1511423) ?_;(refine jG (aa 24 1515519) 12 F (aX F F F) ?_);(refine jG (aa 24 1523711) 13 F (aQ F F oM) ?_);((refine jG (aa 24 1540095) 14 F (dM F F aS ?_) ?_;(focus ((simp only [List.length_append,List.length_cons,List.length_nil,List.length_take];omega);done))));(refine jG (aa 24 2064383) 19 F (aX F F F) ?_);(refine jA 15 F ?_;(refine ae F F F cx_pr F ?_);refine jS (aa 24 2097151) ?_);(refine jA 21 F ?_;(refine ae F F F cx_of F ?_);refine jS (aa 24 4194303) ?_);refine jT 1 [22] (aa 24 8388607) ?_;(refine jG (aa 24 16777215) 23 F (bn F F F) ?_);refine jQ ?_))
      rename_i _ y1 yc _
      rw [hrow]
      refine Nx.sealS (v:=.slice (some ⟨y1,0,none⟩) (vs.length + 1) yc) fun G2 hG2 hsl=>?_
      refine aW (vs:=[_]) F ⟨aJ F F F F,trivial⟩ F sB ⟨hgl.trans hG2,.nd 82 [] 0 (vs ++ [.nd 61 [] (ab t.fields j).tag [u1]]),⟨82,[],0,some ⟨y1,0,none⟩,vs.length + 1,yc⟩,t1,true,by rw [hso];rfl,dV dC dC (fun h=>absurd h dC) hvl.symm (by rw [List.length_append,List.length_singleton,hcl];exact hsl) (cL hG2 hr2),F,by simp only [List.length_cons];omega,fun h=>(by cases h),fun _=>⟨.inr (by rw [hR,hit,hit2];rfl),by rw [bI,htu];simp only [List.length_cons,List.length_nil];omega⟩⟩
     | false =>
      have hst:=kP (ts:=al qs) (vs:=vs) (last:=last) (m:=m) (hg rfl) oM
      rw [if_neg hbrk] at hst
      have cx_tm:=iA (G:=G1) (r:=r) (sc:=sc) (s:=t1) (l:=[44]) (b:=false) ⟨oM,by simp⟩
      clear cx_wb
      have cx_wb:=d4 (G:=G1) (r:=r) (sc:=sc) (s:=t1) (l:=[125]) (b:=false) ⟨oM,by simp⟩
      cases ht3 : df [44] t1 false with
      | true =>
       obtain ⟨t2,rfl⟩:=f7.1 ht3
       rw [ht3,gO] at cx_tm
       simp only [List.length_cons] at htl hto
       dsimp only at hst
       rw [if_pos (show (44 : UInt8).toNat = 44 from rfl)] at hst
       have hlt : t2.length < m - 1:=oM
       repeat' (first | refine jR ?_ | (refine jo ?_;first | refine aB F ?_ | (refine jV (b8 F F aS ?_ F F) ?_;focus omega) | refine bM F ?_ | refine jD F F F ?_ | refine jF fun _=>?_ | refine bC F F F F F F F F F oM fun _ _=>?_ | (refine aL F F F cx_tm F ?_;rintro _ _ ⟨rfl,rfl⟩;dsimp only [zA,fA])) | (refine ad F (by first | rfl | (refine decide_eq_false ?_;(assumption))) ?_) | (refine an (ao (id:=9) _ (fun _ h=>h) am ?_);refine jT 23 [0] (aa 24 1) ?_;(refine jG (aa 24 3) 1 F (dh F F) ?_);refine jT 21 [2] (aa 24 7) ?_;(try (refine Nx.re (d:=38) (v':=Bo false) F (congrArg Value.bool F) ?_));refine jT 17 [3,4,5,7] (aa 24 191) ?_;((refine jG (aa 24 255) 6 F (b8 F F aS ?_ F F) ?_;focus omega));refine jT 15 [8] (aa 24 511) ?_;(refine jG (aa 24 1023) 9 F (bn F F F) ?_);refine jT 13 [10] (aa 24 2047) ?_;(try (refine Nx.re (d:=46) (v':=Bo false) F (congrArg Value.bool (aF ‹_›)) ?_));refine jT 8 [11,16,17,18,20] (aa 24 1511423) ?_;(refine jG (aa 24 1515519) 12 F (aX F F F) ?_);(refine jG (aa 24 1523711) 13 F (aQ F F oM) ?_);((refine jG (aa 24 1540095) 14 F (dM F F aS ?_) ?_;(focus ((simp only [List.length_append,List.length_cons,List.length_nil,List.length_take];omega);done))));(refine jG (aa 24 2064383) 19 F (aX F F F) ?_);(refine jA 15 F ?_;(refine ae F F F cx_pr F ?_);refine jS (aa 24 2097151) ?_);(refine jA 21 F ?_;(refine ae F F F cx_of F ?_);refine jS (aa 24 4194303) ?_);refine jT 1 [22] (aa 24 8388607) ?_;(refine jG (aa 24 16777215) 23 F (bn F F F) ?_);refine jQ ?_))
       rename_i _ y1 yc
       rw [hrow]
       exact bm (vs ++ [.nd 61 [] (ab t.fields j).tag [u1]],cs ++ [⟨61,[],(ab t.fields j).tag,some ⟨kb,ko,none⟩,1,kc⟩],some ⟨y1,0,none⟩,yc,t2,m - 1,(ab t.fields j).tag,G1) ⟨⟨hr2,hgl⟩,⟨by rw [hit,hst],hlt⟩,by dsimp only;omega,by dsimp only;omega⟩ (by dsimp only;omega) tU rfl (by rw [hvl];repeat (first | exact List.Sublist.refl _ | apply List.Sublist.cons_cons | apply List.Sublist.cons))
      | false =>
       rw [ht3,gY ht3] at cx_tm
       cases ht4 : df [125] t1 false with
       | true =>
        obtain ⟨t2,rfl⟩:=f7.1 ht4
        rw [ht4,gO,Bool.not_true] at cx_wb
        simp only [List.length_cons] at htl hto
        dsimp only at hst
        rw [if_neg (show ¬ (125 : UInt8).toNat = 44 by decide),if_pos (show (125 : UInt8).toNat = 125 from rfl)] at hst
        have hit2:=hst
        repeat' (first | refine jR ?_ | (refine jo ?_;first | refine aB F ?_ | (refine jV (b8 F F aS ?_ F F) ?_;focus omega) | refine bM F ?_ | refine jD F F F ?_ | refine jC F F F ?_ | refine jF fun _=>?_ | refine bC F F F F F F F F F oM fun _ _=>?_ | (refine aL F F F cx_wb F ?_;rintro _ _ rfl;dsimp only [zA,fA]) | (refine aL F F F cx_tm F ?_;rintro _ _ ⟨rfl,rfl⟩;dsimp only [zA,fA])) | refine ac F F ?_ | refine ad F (aF ‹_›) ?_ | (refine an (ao (id:=9) _ (fun _ h=>h) am ?_);refine jT 23 [0] (aa 24 1) ?_;(refine jG (aa 24 3) 1 F (dh F F) ?_);refine jT 21 [2] (aa 24 7) ?_;(try (refine Nx.re (d:=38) (v':=Bo false) F (congrArg Value.bool F) ?_));refine jT 17 [3,4,5,7] (aa 24 191) ?_;((refine jG (aa 24 255) 6 F (b8 F F aS ?_ F F) ?_;focus omega));refine jT 15 [8] (aa 24 511) ?_;(refine jG (aa 24 1023) 9 F (bn F F F) ?_);refine jT 13 [10] (aa 24 2047) ?_;(try (refine Nx.re (d:=46) (v':=Bo false) F (congrArg Value.bool (aF ‹_›)) ?_));refine jT 8 [11,16,17,18,20] (aa 24 1511423) ?_;(refine jG (aa 24 1515519) 12 F (aX F F F) ?_);(refine jG (aa 24 1523711) 13 F (aQ F F oM) ?_);((refine jG (aa 24 1540095) 14 F (dM F F aS ?_) ?_;(focus ((simp only [List.length_append,List.length_cons,List.length_nil,List.length_take];omega);done))));(refine jG (aa 24 2064383) 19 F (aX F F F) ?_);(refine jA 15 F ?_;(refine ae F F F cx_pr F ?_);refine jS (aa 24 2097151) ?_);(refine jA 21 F ?_;(refine ae F F F cx_of F ?_);refine jS (aa 24 4194303) ?_);refine jT 1 [22] (aa 24 8388607) ?_;(refine jG (aa 24 16777215) 23 F (bn F F F) ?_);refine jQ ?_))
        rename_i _ y1 yc _
        rw [hrow]
        refine Nx.sealS (v:=.slice (some ⟨y1,0,none⟩) (vs.length + 1) yc) fun G2 hG2 hsl=>?_
        refine aW (vs:=[_]) F ⟨aJ F F F F,trivial⟩ F sB ⟨hgl.trans hG2,.nd 82 [] 0 (vs ++ [.nd 61 [] (ab t.fields j).tag [u1]]),⟨82,[],0,some ⟨y1,0,none⟩,vs.length + 1,yc⟩,t2,false,by rw [hso];rfl,dV dC dC (fun h=>absurd h dC) hvl.symm (by rw [List.length_append,List.length_singleton,hcl];exact hsl) (cL hG2 hr2),F,by simp only [List.length_cons];omega,fun _=>⟨rfl,by rw [hR,hit,hit2];rfl⟩,fun h=>(by cases h)⟩
       | false =>
        rw [ht4,gY ht4,Bool.not_false] at cx_wb
        have hit2 : ck (al qs) (rd (al qs) n) t m last t' vs = none:=by
         rw [hst]
         cases t1 with
         | nil=>rfl
         | cons e t2 =>
          dsimp only
          rw [if_neg,if_neg]
          ·intro h
           exact jv ht4 t2 (by rw [show e = 125 from UInt8.toNat_inj.1 h])
          ·intro h
           exact jv ht3 t2 (by rw [show e = 44 from UInt8.toNat_inj.1 h])
        repeat' (first | refine jR ?_ | (refine jo ?_;first | refine aB F ?_ | (refine jV (b8 F F aS ?_ F F) ?_;focus omega) | refine bM F ?_ | refine jD F F F ?_ | refine jC F F F ?_ | refine jF fun _=>?_ | refine bC F F F F F F F F F oM fun _ _=>?_ | (refine aL F F F cx_wb F ?_;rintro _ _ rfl;dsimp only [zA,fA]) | (refine aL F F F cx_tm F ?_;rintro _ _ ⟨rfl,rfl⟩;dsimp only [zA,fA])) | refine ac F F ?_ | refine ad F (aF ‹_›) ?_ | (refine an (ao (id:=9) _ (fun _ h=>h) am ?_);refine jT 23 [0] (aa 24 1) ?_;(refine jG (aa 24 3) 1 F (dh F F) ?_);refine jT 21 [2] (aa 24 7) ?_;(try (refine Nx.re (d:=38) (v':=Bo false) F (congrArg Value.bool F) ?_));refine jT 17 [3,4,5,7] (aa 24 191) ?_;((refine jG (aa 24 255) 6 F (b8 F F aS ?_ F F) ?_;focus omega));refine jT 15 [8] (aa 24 511) ?_;(refine jG (aa 24 1023) 9 F (bn F F F) ?_);refine jT 13 [10] (aa 24 2047) ?_;(try (refine Nx.re (d:=46) (v':=Bo false) F (congrArg Value.bool (aF ‹_›)) ?_));refine jT 8 [11,16,17,18,20] (aa 24 1511423) ?_;(refine jG (aa 24 1515519) 12 F (aX F F F) ?_);(refine jG (aa 24 1523711) 13 F (aQ F F oM) ?_);((refine jG (aa 24 1540095) 14 F (dM F F aS ?_) ?_;(focus ((simp only [List.length_append,List.length_cons,List.length_nil,List.length_take];omega);done))));(refine jG (aa 24 2064383) 19 F (aX F F F) ?_);(refine jA 15 F ?_;(refine ae F F F cx_pr F ?_);refine jS (aa 24 2097151) ?_);(refine jA 21 F ?_;(refine ae F F F cx_of F ?_);refine jS (aa 24 4194303) ?_);refine jT 1 [22] (aa 24 8388607) ?_;(refine jG (aa 24 16777215) 23 F (bn F F F) ?_);refine jQ ?_))
        rename_i _ y1 yc _
        rw [hrow]
        refine Nx.sealS (v:=.slice (some ⟨y1,0,none⟩) (vs.length + 1) yc) fun G2 hG2 hsl=>?_
        refine aW (vs:=[_]) F ⟨aJ F F F F,trivial⟩ F sB ⟨hgl.trans hG2,.nd 82 [] 0 (vs ++ [.nd 61 [] (ab t.fields j).tag [u1]]),⟨82,[],0,some ⟨y1,0,none⟩,vs.length + 1,yc⟩,t1,true,by rw [hso];rfl,dV dC dC (fun h=>absurd h dC) hvl.symm (by rw [List.length_append,List.length_singleton,hcl];exact hsl) (cL hG2 hr2),F,by simp only [List.length_cons];omega,fun h=>(by cases h),fun _=>⟨.inr (by rw [hR,hit,hit2];rfl),by rw [bI,htu];simp only [List.length_cons,List.length_nil];omega⟩⟩
theorem lr {c : UInt8} {a b d : adB} : aZ adA 63 [Ag [S (c :: a),S b,S d]] G (· = Ag [S a,S b,S d]):=by
 refine jE [(0,_)] Tryz.func63 Tryz.ntmps63 fun B hB=>?_
 repeat' (first | refine jX ?_ | (refine jo ?_;first | refine jO fun _=>?_ | refine jL fun _=>?_ | refine aB F ?_ | refine bM F ?_ | refine jD F F F ?_ | refine jC F F F ?_))
 refine jZ (vs:=[_]) F ⟨aJ F F F F,trivial⟩ F ⟨F,F,?_⟩
 rfl
theorem hJ {c : UInt8} {k : adB} (h : c.toNat = 91 ∨ c.toNat = 63) : sg (c :: k) = c :: sg k ∧ bs (c :: k) = bs k ∧ nm (c :: k) = nm k ∧ bU (c :: k) = bU k:=by
 have hc : bU (c :: k) = bU k:=by rw [bU,if_pos h]
 exact ⟨nE h,by unfold bs;rw [hc],by unfold nm;rw [hc],hc⟩
theorem fI {ts : List Ty} {c : UInt8} {k : adB} (hc : c.toNat = 91 ∨ c.toNat = 63) (h : aA ts (c :: k) = true) : aA ts k = true:=by
 unfold aA at h ⊢
 simp only [Bool.and_eq_true] at h ⊢
 obtain ⟨h1,h2⟩:=h
 refine ⟨?_,?_⟩
 ·unfold bZ at h1 ⊢
  simp only [Bool.and_eq_true,decide_eq_true_eq,List.length_cons] at h1 ⊢
  refine ⟨oM,?_⟩
  have:=h1.2
  rw [fe,if_pos hc] at this
  exact this
 ·unfold fh at h2 ⊢
  rw [(hJ hc).2.2.2] at h2
  exact h2
theorem sw {ts : List Ty} {f : adB → adB → Option (V × adB)} {c : UInt8} {k s : adB} (hc : c.toNat = 91) : fJ ts f (c :: k) s = fM (f k) s:=by
 unfold fJ fM
 dsimp only
 rw [if_pos hc]
 cases s <;> rfl
theorem tF {r sc : Nat} {k s : adB} : dO adA 107 [Pt r 0,Ag [S (sg k),S (bs k),S (nm k)]] G [eH r sc s true] (fun v L'=>v = zP ∧ L' = [eH r sc s true]):=by
 refine jH [(0,_),(1,_)] Tryz.func107 Tryz.ntmps107 fun B hB hW=>?_
 repeat' (first | refine jR ?_ | (refine jo ?_;first | refine jO fun _=>?_ | refine jL fun _=>?_ | refine aB F ?_ | refine jV (ay F F) ?_ | refine jC F F F ?_) | refine ac F F ?_)
 refine aW (vs:=[_]) F ⟨aJ F F F F,trivial⟩ F sB ⟨F,F,F⟩
theorem dO.toM {P : Program} {f : FuncId} {args : List Value} {L : List Own} {R : Value → List Own → Prop} {R' : Value → Gh → List Own → Prop} (h : dO P f args G L R) (hr : ∀ v L',R v L' → R' v G L') : ff P f args G L R' :=
 Fn.mono h fun v G' L' h2=>⟨h2.1 ▸ Gh.le.refl _,h2.1 ▸ hr v L' h2.2⟩
theorem su : V.rep G (.nd 0 [] 0 []) ⟨0,[],0,none,0,0⟩:=c7 dC dC
theorem aby {n r sc : Nat} {qs : List c6} {c : UInt8} {k s : adB} (hc : c = 63) (hV : ny n sc qs) (hS : ScI G sc qs) (hk : aA (al qs) (c :: k) = true) (hs : s.length < n + 1 ∧ s.length ≤ 1000) :
  ff adA 107 [Pt r 0,Ag (cR (c :: k))] G [eH r sc s false] (iW (rd (al qs) (n + 1) (c :: k)) r sc s false):=by
 subst hc
 have hk2:=fI (.inr rfl) hk
 obtain ⟨e1,e2,e3,_⟩:=hJ (c:=63) (k:=k) (.inr rfl)
 have hrd : rd (al qs) (n + 1) (63 :: k) s = match s with
   | []=>none
   | d :: s'=>if d.toNat = 45 then some (.nd 63 [] 0 [],s') else if d.toNat = 43 then (rd (al qs) n k s').map fun x=>(.nd 63 [] 0 [x.1],x.2) else none:=by
  rw [rd];unfold fJ
  dsimp only
  rw [if_neg (show ¬ (63 : UInt8).toNat = 91 by decide),if_pos (show (63 : UInt8).toNat = 63 from rfl)]
  cases s <;> rfl
 unfold cR
 rw [e1,e2,e3]
 have cx_sign:=@j8 G 63 (sg k) (bs k) (nm k)
 have cx_pt:=@lr G 63 (sg k) (bs k) (nm k)
 have cx_tk:=iA (G:=G) (r:=r) (sc:=sc) (s:=s) (l:=[45]) (b:=false) ⟨oM,by simp⟩
 have cx_wa:=d4 (G:=G) (r:=r) (sc:=sc) (s:=s) (l:=[43]) (b:=false) ⟨oM,by simp⟩
 cases ht : df [45] s false with
 | true =>
  obtain ⟨s1,rfl⟩:=f7.1 ht
  rw [ht,gO] at cx_tk
  dsimp only at hrd
  rw [if_pos (show (45 : UInt8).toNat = 45 from rfl)] at hrd
  refine bK [(0,_),(1,_)] Tryz.func107 kR Tryz.ntmps107 F F tU fun B hB hW=>?_
  repeat' (first | refine jR ?_ | (refine jo ?_;first | refine jO fun _=>?_ | refine jL fun _=>?_ | refine aB F ?_ | refine bM F ?_ | refine jV (ay F F) ?_ | refine jC F F F ?_ | refine ae F F F cx_sign F ?_ | (refine aL F F F cx_tk F ?_;rintro _ _ ⟨rfl,rfl⟩;dsimp only [zA,fA])) | refine ac F F ?_ | refine ad F F ?_)
  refine aW (vs:=[_]) F ⟨aJ F F F F,trivial⟩ F sB ⟨Gh.le.refl _,.nd 63 [] 0 [],⟨63,[],0,none,0,0⟩,s1,false,F,c7 dC dC,F,by simp only [List.length_cons];omega,fun _=>⟨rfl,hrd⟩,fun h=>(by cases h)⟩
 | false =>
  rw [ht,gY ht] at cx_tk
  cases ht2 : df [43] s false with
  | false =>
   rw [ht2,gY ht2,Bool.not_false] at cx_wa
   have hno : rd (al qs) (n + 1) (63 :: k) s = none:=by
    rw [hrd]
    cases s with
    | nil=>rfl
    | cons d s' =>
     dsimp only
     rw [if_neg,if_neg]
     ·intro h;exact jv ht2 s' (by rw [show d = 43 from UInt8.toNat_inj.1 h])
     ·intro h;exact jv ht s' (by rw [show d = 45 from UInt8.toNat_inj.1 h])
   refine bK [(0,_),(1,_)] Tryz.func107 kR Tryz.ntmps107 F F tU fun B hB hW=>?_
   repeat' (first | refine jR ?_ | (refine jo ?_;first | refine jO fun _=>?_ | refine jL fun _=>?_ | refine aB F ?_ | refine bM F ?_ | refine ae F F F cx_sign F ?_ | refine ae F F F cx_pt F ?_ | (refine aL F F F cx_tk F ?_;rintro _ _ ⟨rfl,rfl⟩;dsimp only [zA,fA]) | (refine aL F F F cx_wa F ?_;rintro _ _ rfl;dsimp only [zA,fA])) | refine ac F F ?_ | refine ad F F ?_)
   refine jo ?_
   refine aL F F F tF F ?_
   rintro _ _ ⟨rfl,rfl⟩
   dsimp only [zA,fA]
   repeat' (first | refine jR ?_ | (refine jo ?_;first | refine jV (ay F F) ?_ | refine jC F F F ?_ | refine jF fun _=>?_))
   rename_i y
   refine Nx.sealC (b:=y) fun G2 hG2 hsy=>?_
   have hsl : aT G2 (.slice (some ⟨y,0,none⟩) 1 1) 4 ([⟨0,[],0,none,0,0⟩] : List VC).length (ah bi [⟨0,[],0,none,0,0⟩]):=⟨rfl,.inr ⟨y,0,1,rfl,Nat.le_refl _,hsy⟩⟩
   refine aW (vs:=[_]) F ⟨aJ F F F F,trivial⟩ F sB ⟨hG2,.nd 63 [] 0 [.nd 0 [] 0 []],⟨63,[],0,some ⟨y,0,none⟩,1,1⟩,s,true,F,dV dC dC (fun h=>absurd h dC) F hsl ⟨_,[],F,su,F⟩,F,Nat.le_refl _,fun h=>(by cases h),fun _=>⟨.inr hno,by simp only [V.tot,V.tots,List.length_nil];omega⟩⟩
  | true =>
   obtain ⟨s1,rfl⟩:=f7.1 ht2
   rw [ht2,gO,Bool.not_true] at cx_wa
   simp only [List.length_cons] at hs
   dsimp only at hrd
   rw [if_neg (show ¬ (43 : UInt8).toNat = 45 by decide),if_pos (show (43 : UInt8).toNat = 43 from rfl)] at hrd
   have cx_vl:=hV G r k s1 false hS hk2 oM oM
   refine bK [(0,_),(1,_)] Tryz.func107 kR Tryz.ntmps107 F F tU fun B hB hW=>?_
   repeat' (first | refine jR ?_ | (refine jo ?_;first | refine jO fun _=>?_ | refine jL fun _=>?_ | refine aB F ?_ | refine bM F ?_ | refine jV (ay F F) ?_ | refine jC F F F ?_ | refine jF fun _=>?_ | refine ae F F F cx_sign F ?_ | refine ae F F F cx_pt F ?_ | (refine aL F F F cx_tk F ?_;rintro _ _ ⟨rfl,rfl⟩;dsimp only [zA,fA]) | (refine aL F F F cx_wa F ?_;rintro _ _ rfl;dsimp only [zA,fA]) | (refine eI F F F cx_vl F ?_;rintro _ G1 _ hle ⟨u1,c1,t1,b1,rfl,hrep,rfl,hP⟩;dsimp only [zA,fA];skip)) | refine ac F F ?_ | refine ad F F ?_)
   rename_i y
   refine Nx.sealC (b:=y) fun G2 hG2 hsy=>?_
   have hsl : aT G2 (.slice (some ⟨y,0,none⟩) 1 1) 4 ([c1] : List VC).length (ah bi [c1]):=⟨rfl,.inr ⟨y,0,1,rfl,Nat.le_refl _,hsy⟩⟩
   obtain ⟨hPl,hP0,hP1⟩:=hP
   cases b1 with
   | false =>
    refine aW (vs:=[_]) F ⟨aJ F F F F,trivial⟩ F sB ⟨hle.trans hG2,.nd 63 [] 0 [u1],⟨63,[],0,some ⟨y,0,none⟩,1,1⟩,t1,false,F,dV dC dC (fun h=>absurd h dC) F hsl ⟨_,[],F,aD hG2 hrep,F⟩,F,by simp only [List.length_cons];omega,fun _=>⟨rfl,by rw [hrd,(hP0 rfl).2];rfl⟩,fun h=>(by cases h)⟩
   | true =>
    obtain ⟨hno,hto⟩:=hP1 rfl
    have hno2 : rd (al qs) n k s1 = none:=by
     rcases hno with h | h
     ·cases h
     ·exact h
    refine aW (vs:=[_]) F ⟨aJ F F F F,trivial⟩ F sB ⟨hle.trans hG2,.nd 63 [] 0 [u1],⟨63,[],0,some ⟨y,0,none⟩,1,1⟩,t1,true,F,dV dC dC (fun h=>absurd h dC) F hsl ⟨_,[],F,aD hG2 hrep,F⟩,F,by simp only [List.length_cons];omega,fun h=>(by cases h),fun _=>⟨.inr (by rw [hrd,hno2];rfl),by simp only [V.tot,V.tots,List.length_nil,List.length_cons];omega⟩⟩
theorem abA {n r sc : Nat} {qs : List c6} {k s : adB} (hV : ny n sc qs) (hS : ScI G sc qs) (hk : aA (al qs) (91 :: k) = true) (hs : s.length < n + 1 ∧ s.length ≤ 1000) :
  ff adA 107 [Pt r 0,Ag (cR (91 :: k))] G [eH r sc s false] (iW (rd (al qs) (n + 1) (91 :: k)) r sc s false):=by
 have hk2:=fI (.inl rfl) hk
 obtain ⟨e1,e2,e3,_⟩:=hJ (c:=91) (k:=k) (.inl rfl)
 have hrd : rd (al qs) (n + 1) (91 :: k) s = fM (rd (al qs) n k) s:=by rw [rd];exact sw F
 unfold cR
 rw [e1,e2,e3]
 have cx_sign:=@j8 G 91 (sg k) (bs k) (nm k)
 have cx_pt:=@lr G 91 (sg k) (bs k) (nm k)
 have cx_li:=abO (G:=G) (r:=r) (b:=false) hV hS hk2 (s:=s) ⟨oM,oM⟩
 refine bK [(0,_),(1,_)] Tryz.func107 kR Tryz.ntmps107 F F tU fun B hB hW=>?_
 repeat' (first | refine jR ?_ | (refine jo ?_;first | refine jO fun _=>?_ | refine jL fun _=>?_ | refine aB F ?_ | refine bM F ?_ | refine jC F F F ?_ | refine ae F F F cx_sign F ?_ | refine ae F F F cx_pt F ?_ | (refine eI F F F cx_li F ?_;rintro _ G1 _ hle ⟨u1,c1,t1,b1,rfl,hrep,rfl,hP⟩;dsimp only [zA,fA];skip)) | refine ac F F ?_ | refine ad F F ?_)
 obtain ⟨hPl,hP0,hP1⟩:=hP
 refine aW (vs:=[_]) F ⟨aJ F F F F,trivial⟩ F sB ⟨hle,u1,c1,t1,b1,F,hrep,F,hPl,fun h=>⟨F,by rw [hrd];exact (hP0 h).2⟩,fun h=>by rw [hrd];exact hP1 h⟩
theorem d7 {ts : List Ty} {c : UInt8} {k : adB} (hk : aA ts (c :: k) = true) (h91 : ¬ (c.toNat = 91 ∨ c.toNat = 63)) (hr : a8 ts (c :: k) = none) : c :: k = [110] ∨ c :: k = [116] ∨ c :: k = [102]:=by
 have hko:=dL hk
 have hcs:=gA (r:=k) h91
 have hrn : cx (bU (c :: k)) = none:=by
  cases hx : cx (bU (c :: k)) with
  | none=>rfl
  | some x =>
   obtain ⟨t,ht⟩:=m3 hk (by rw [hx];rfl)
   rw [hcs,hr] at ht;cases ht
 have h:=o4 hko hrn
 have h64 : ¬ c.toNat = 64:=by
  intro h64
  rw [hcs] at hrn
  simp [cx,h64] at hrn
 have e : bs (c :: k) = c :: k:=by unfold bs;rw [hcs];simp [qd,h64]
 rwa [e] at h
theorem lL {ts : List Ty} {n : Nat} {s : adB} {c : UInt8} (hc : c = 110 ∨ c = 116 ∨ c = 102) (hr : a8 ts [c] = none) : rd ts (n + 1) [c] s = if c = 110 then (cM 999999 s).map fun x=>(.nd 110 (be x.1) 0 [],x.2) else if c = 116 then dP s else eO s:=by
 rw [rd];unfold fJ
 dsimp only
 rcases hc with rfl | rfl | rfl <;> simp [hr]
theorem abz {n r sc : Nat} {qs : List c6} {s : adB} (hr : a8 (al qs) [110] = none) (hs : s.length ≤ 1000) :
  ff adA 107 [Pt r 0,Ag (cR [110])] G [eH r sc s false] (iW (rd (al qs) (n + 1) [110]) r sc s false):=by
 have hrd:=lL (ts:=al qs) (n:=n) (s:=s) (c:=110) (.inl rfl) hr
 rw [if_pos rfl] at hrd
 have cx_sign:=@fP G [110] []
 have cx_nu:=ml (G:=G) (r:=r) (sc:=sc) (s:=s) (b:=false) (top:=999999) oM
 have hwl:=eD br s
 show ff adA 107 [Pt r 0,Ag [S [],S [110],S []]] G [eH r sc s false] _
 refine bK [(0,_),(1,_)] Tryz.func107 kR Tryz.ntmps107 F F tU fun B hB hW=>?_
 repeat' (first | refine jR ?_ | (refine jo ?_;first | refine jO fun _=>?_ | refine jL fun _=>?_ | refine aB F ?_ | refine bM F ?_ | refine jV (ay F F) ?_ | refine jC F F F ?_ | refine ae F F F cx_sign F ?_ | (refine aL F F F cx_nu F ?_;rintro _ _ ⟨n1,rfl,⟨hn0,hn1⟩,hnum,rfl⟩;dsimp only [zA,fA]) | refine ae F F F (iB oM) F ?_) | refine ac F F ?_ | refine ad F F ?_)
 have hdl:=gL hn1
 cases hm : aN (s.takeWhile br) 999999 with
 | none =>
  refine aW (vs:=[_]) F ⟨aJ F F F F,trivial⟩ F sB ⟨Gh.le.refl _,.nd 110 (be n1) 0 [],⟨110,be n1,0,none,0,0⟩,s.dropWhile br,true,F,c7 dC dC,F,oM,fun h=>(by cases h),fun _=>⟨.inr (by rw [hrd];unfold cM;rw [hm];rfl),by simp only [V.tot,V.tots];omega⟩⟩
 | some m =>
  obtain rfl : n1 = m:=hnum m hm
  refine aW (vs:=[_]) F ⟨aJ F F F F,trivial⟩ F sB ⟨Gh.le.refl _,.nd 110 (be n1) 0 [],⟨110,be n1,0,none,0,0⟩,s.dropWhile br,false,F,c7 dC dC,F,oM,fun _=>⟨F,by rw [hrd];unfold cM;rw [hm];rfl⟩,fun h=>(by cases h)⟩
theorem abx {n r sc : Nat} {qs : List c6} {s : adB} (hr : a8 (al qs) [116] = none) (hs : s.length ≤ 1000) :
  ff adA 107 [Pt r 0,Ag (cR [116])] G [eH r sc s false] (iW (rd (al qs) (n + 1) [116]) r sc s false):=by
 have hrd:=lL (ts:=al qs) (n:=n) (s:=s) (c:=116) (.inr (.inl rfl)) hr
 rw [if_neg dC,if_pos rfl] at hrd
 have cx_sign:=@fP G [116] []
 have cx_qu:=aac (G:=G) (r:=r) (sc:=sc) (s:=s) (b:=false) oM
 show ff adA 107 [Pt r 0,Ag [S [],S [116],S []]] G [eH r sc s false] _
 refine bK [(0,_),(1,_)] Tryz.func107 kR Tryz.ntmps107 F F tU fun B hB hW=>?_
 repeat' (first | refine jR ?_ | (refine jo ?_;first | refine jO fun _=>?_ | refine jL fun _=>?_ | refine aB F ?_ | refine bM F ?_ | refine jV (ay F F) ?_ | refine jC F F F ?_ | refine ae F F F cx_sign F ?_ | (refine aL F F F cx_qu F ?_;rintro _ _ ⟨x1,t1,b1,rfl,hQ,rfl⟩;dsimp only [zA,fA])) | refine ac F F ?_ | refine ad F F ?_)
 obtain ⟨hQl,hQ0,hQ1⟩:=hQ
 refine aW (vs:=[_]) F ⟨aJ F F F F,trivial⟩ F sB ⟨Gh.le.refl _,.nd 116 x1 0 [],⟨116,x1,0,none,0,0⟩,t1,b1,F,c7 dC dC,F,oM,fun h=>⟨F,by rw [hrd];exact (hQ0 h).2⟩,fun h=>⟨.inr (by rw [hrd];rcases hQ1 h with h | h;cases h;exact h),by simp only [V.tot,V.tots];omega⟩⟩
theorem abB {n r sc : Nat} {qs : List c6} {s : adB} (hr : a8 (al qs) [102] = none) (hs : s.length ≤ 1000) :
  ff adA 107 [Pt r 0,Ag (cR [102])] G [eH r sc s false] (iW (rd (al qs) (n + 1) [102]) r sc s false):=by
 have hrd:=lL (ts:=al qs) (n:=n) (s:=s) (c:=102) (.inr (.inr rfl)) hr
 rw [if_neg dC,if_neg dC] at hrd
 unfold eO at hrd
 have cx_sign:=@fP G [102] []
 have cx_tk:=iA (G:=G) (r:=r) (sc:=sc) (s:=s) (l:=[121,101,115]) (b:=false) ⟨oM,by simp⟩
 have cx_wa:=d4 (G:=G) (r:=r) (sc:=sc) (s:=s) (l:=[110,111]) (b:=false) ⟨oM,by simp⟩
 have ey : ∀ l : adB,df l s false = l.isPrefixOf s:=fun l=>by simp [df]
 have el : ∀ l : adB,l.isPrefixOf s = true → s.length = l.length + (s.drop l.length).length:=fun l h=>by
  have:=qt h
  have h2:=congrArg List.length this
  rwa [List.length_append] at h2
 show ff adA 107 [Pt r 0,Ag [S [],S [102],S []]] G [eH r sc s false] _
 cases hy : ([121,101,115] : adB).isPrefixOf s with
 | true =>
  have hl : s.length = 3 + (s.drop 3).length:=el _ hy
  unfold eE at cx_tk
  rw [ey,hy,if_pos rfl] at cx_tk
  rw [hy,if_pos rfl] at hrd
  refine bK [(0,_),(1,_)] Tryz.func107 kR Tryz.ntmps107 F F tU fun B hB hW=>?_
  repeat' (first | refine jR ?_ | (refine jo ?_;first | refine jO fun _=>?_ | refine jL fun _=>?_ | refine aB F ?_ | refine bM F ?_ | refine jV (ay F F) ?_ | refine jC F F F ?_ | refine ae F F F cx_sign F ?_ | (refine aL F F F cx_tk F ?_;rintro _ _ ⟨rfl,rfl⟩;dsimp only [zA,fA])) | refine ac F F ?_ | refine ad F F ?_)
  refine aW (vs:=[_]) F ⟨aJ F F F F,trivial⟩ F sB ⟨Gh.le.refl _,.nd 102 [121,101,115] 0 [],⟨102,[121,101,115],0,none,0,0⟩,s.drop 3,false,F,c7 dC dC,F,oM,fun _=>⟨F,hrd⟩,fun h=>(by cases h)⟩
 | false =>
  have h1 : df [121,101,115] s false = false:=by rw [ey,hy]
  rw [h1,gY h1] at cx_tk
  rw [hy,if_neg dC] at hrd
  cases hno : ([110,111] : adB).isPrefixOf s with
  | true =>
   have hl : s.length = 2 + (s.drop 2).length:=el _ hno
   unfold eE at cx_wa
   rw [ey,hno,if_pos rfl] at cx_wa
   rw [hno,if_pos rfl] at hrd
   refine bK [(0,_),(1,_)] Tryz.func107 kR Tryz.ntmps107 F F tU fun B hB hW=>?_
   repeat' (first | refine jR ?_ | (refine jo ?_;first | refine jO fun _=>?_ | refine jL fun _=>?_ | refine aB F ?_ | refine bM F ?_ | refine jV (ay F F) ?_ | refine jC F F F ?_ | refine ae F F F cx_sign F ?_ | (refine aL F F F cx_tk F ?_;rintro _ _ ⟨rfl,rfl⟩;dsimp only [zA,fA]) | (refine aL F F F cx_wa F ?_;rintro _ _ rfl;dsimp only [zA,fA])) | refine ac F F ?_ | refine ad F F ?_)
   refine aW (vs:=[_]) F ⟨aJ F F F F,trivial⟩ F sB ⟨Gh.le.refl _,.nd 102 [110,111] 0 [],⟨102,[110,111],0,none,0,0⟩,s.drop 2,false,F,c7 dC dC,F,oM,fun _=>⟨F,hrd⟩,fun h=>(by cases h)⟩
  | false =>
   have h2 : df [110,111] s false = false:=by rw [ey,hno]
   rw [h2,gY h2,Bool.not_false] at cx_wa
   rw [hno,if_neg dC] at hrd
   refine bK [(0,_),(1,_)] Tryz.func107 kR Tryz.ntmps107 F F tU fun B hB hW=>?_
   repeat' (first | refine jR ?_ | (refine jo ?_;first | refine jO fun _=>?_ | refine jL fun _=>?_ | refine aB F ?_ | refine bM F ?_ | refine jV (ay F F) ?_ | refine jC F F F ?_ | refine ae F F F cx_sign F ?_ | (refine aL F F F cx_tk F ?_;rintro _ _ ⟨rfl,rfl⟩;dsimp only [zA,fA]) | (refine aL F F F cx_wa F ?_;rintro _ _ rfl;dsimp only [zA,fA])) | refine ac F F ?_ | refine ad F F ?_)
   refine aW (vs:=[_]) F ⟨aJ F F F F,trivial⟩ F sB ⟨Gh.le.refl _,.nd 102 [110,111] 0 [],⟨102,[110,111],0,none,0,0⟩,s,true,F,c7 dC dC,F,Nat.le_refl _,fun h=>(by cases h),fun _=>⟨.inr hrd,by simp only [V.tot,V.tots,List.length_cons,List.length_nil];omega⟩⟩
theorem abC {n r sc : Nat} {qs : List c6} {c : UInt8} {k s : adB} {t : Ty} (h91 : ¬ (c.toNat = 91 ∨ c.toNat = 63)) (hV : ny n sc qs) (hS : ScI G sc qs) (hw : SchW (al qs)) (hk : aA (al qs) (c :: k) = true) (hrf : a8 (al qs) (c :: k) = some t) (hs : s.length < n + 1 ∧ s.length ≤ 1000) :
  ff adA 107 [Pt r 0,Ag (cR (c :: k))] G [eH r sc s false] (iW (rd (al qs) (n + 1) (c :: k)) r sc s false):=by
 have hko:=dL hk
 have hsg:=nD (r:=k) h91
 have hcs:=gA (r:=k) h91
 have hrn : (cx (bU (c :: k))).isSome = true:=by
  rw [hcs];unfold a8 at hrf
  cases hx : cx (c :: k) with
  | none=>rw [hx] at hrf;cases hrf
  | some x=>rfl
 have hbs : bs (c :: k) = [64]:=(nM hko).2 hrn
 have hnm : cx (c :: k) = some (nm (c :: k)):=by
  unfold nm;rw [hcs] at hrn ⊢
  cases hx : cx (c :: k) with
  | none=>rw [hx] at hrn;cases hrn
  | some x=>rfl
 have hft : iw (al qs) (nm (c :: k)) = some t:=by unfold a8 at hrf;rw [hnm] at hrf;exact hrf
 have hkv:=fX qs (nm (c :: k))
 rw [← iR] at hft
 rcases hfq : fx qs (nm (c :: k)) with _ | ⟨p,t'⟩
 ·rw [hfq] at hft;cases hft
 rw [hfq] at hft hkv
 dsimp only [Option.map_some] at hft hkv
 have htt : t' = t:=Option.some.inj hft
 subst htt
 have hqm:=jk hfq
 have htm:=bj hrf
 have hW:=hw.ty t' htm
 have hT : oh G p t':=hS.ty _ hqm
 obtain ⟨u,m,g1,g2,g3⟩:=hS.at'
 have hrd : rd (al qs) (n + 1) (c :: k) s = bA (al qs) (rd (al qs) n) t' s:=by
  rw [rd];unfold fJ
  dsimp only
  rw [if_neg (fun h=>h91 (.inl h)),if_neg (fun h=>h91 (.inr h)),hrf]
 have cx_ot : ff adA 149 [Pt r 0,Pt p 0] G [eH r sc s false] (iW (bA (al qs) (rd (al qs) n) t') r sc s false):=by
  rcases hW.sort with h | h | h
  ·exact acF hV hS hw (fun d hd=>dY hw htm oM hd) hT hW h ⟨oM,oM⟩
  ·exact acE hV hS (fun d hd=>dY hw htm oM hd) hT hW h ⟨oM,oM⟩
  ·exact acG hT hW h ⟨oM,oM⟩
 have cx_sign:=@fP G [64] (nm (c :: k))
 unfold cR
 rw [hsg,hbs]
 clear hft hfq hnm hrn hcs
 refine bK [(0,_),(1,_)] Tryz.func107 kR Tryz.ntmps107 F F tU fun B hB hW=>?_
 repeat' (first | refine jR ?_ | (refine jo ?_;first | refine jO fun _=>?_ | refine jL fun _=>?_ | refine aB F ?_ | refine bM F ?_ | refine ae F F F cx_sign F ?_) | refine ad F F ?_)
 rename_i x3 x4
 (refine an (ao (id:=21) [.blk x3 (.cells (List.toArray [S [],S [64],S (nm (c :: k))]) fF (0,0))] (by intro y hy;simp only [List.mem_cons,List.not_mem_nil,or_false] at hy ⊢;simp [hy]) am ?_);refine jW 8 [0,1,2,3,8] (aa 13 271) ?_;(refine jG (aa 13 783) 9 F (aX F F F) ?_);refine jA 4 F ?_;(refine aB F ?_);refine jK (aa 13 799) ?_;refine jW 4 [5,6] (aa 13 895) ?_;(refine jG (aa 13 1023) 7 F (aj F F aS F F) ?_);((refine jG (aa 13 2047) 10 F (db F F (fW aS) aS F) ?_));refine jA 11 F ?_;(refine eI F F F cx_ot F ?_;rintro _ G1 _ hle ⟨u1,c1,t1,b1,rfl,hrep,rfl,hP⟩;dsimp only [zA,fA];skip);refine jK (aa 13 4095) ?_;refine jA 12 F ?_;(refine jC F F F ?_);refine jK (aa 13 8191) ?_;refine jQ ?_)
 all_goals repeat' (refine jR ?_)
 all_goals (obtain ⟨hPl,hP0,hP1⟩:=hP)
 all_goals refine aW (vs:=[_]) F ⟨aJ F F F F,trivial⟩ F sB ⟨hle,u1,c1,t1,b1,F,hrep,F,hPl,fun h=>⟨F,by rw [hrd];exact (hP0 h).2⟩,fun h=>by rw [hrd];exact hP1 h⟩
theorem r7 {sc : Nat} {qs : List c6} (hw : SchW (al qs)) : ∀ n,ny n sc qs
 | 0=>fun G r k s b _ _ h _=>absurd h (Nat.not_lt_zero _)
 | n + 1=>fun G r k s b hS hk hn hs=>by
  have hV:=r7 (sc:=sc) hw n
  cases b with
  | true =>
   exact tF.toM fun v L' ⟨h1,h2⟩=>⟨.nd 0 [] 0 [],⟨0,[],0,none,0,0⟩,s,true,h1,su,h2,Nat.le_refl _,fun h=>(by cases h),fun _=>⟨.inl F,by simp only [V.tot,V.tots,List.length_nil];omega⟩⟩
  | false =>
   match k,hk with
   | [],hk=>cases hk
   | c :: k,hk =>
    by_cases h1 : c.toNat = 91
    ·obtain rfl:=bX h1 dC
     exact abA hV hS hk ⟨hn,hs⟩
    by_cases h2 : c.toNat = 63
    ·obtain rfl:=bX h2 dC
     exact aby F hV hS hk ⟨hn,hs⟩
    have h91 : ¬ (c.toNat = 91 ∨ c.toNat = 63):=fun h=>by rcases h with h | h <;> omega
    cases hr : a8 (al qs) (c :: k) with
    | some t=>exact abC h91 hV hS hw hk hr ⟨hn,hs⟩
    | none =>
     rcases d7 hk h91 hr with e | e | e
     ·rw [e] at hr ⊢;exact abz hr hs
     ·rw [e] at hr ⊢;exact abx hr hs
     ·rw [e] at hr ⊢;exact abB hr hs
theorem xp {ts : List Ty} {k s : adB} {u : V} {t : adB} {N : Nat} (hN : 12 ≤ N) (hl : s.length ≤ 400) (h : rd ts N k s = some (u,t)) : cq ts k s = if t = [] ∧ V.deep u ≤ 12 then some u else none:=by
 unfold cq
 rw [if_pos hl]
 cases h12 : rd ts 12 k s with
 | none =>
  dsimp only
  rw [if_neg]
  rintro ⟨_,hd⟩
  have:=yH _ 12 k s _ h hd
  rw [h12] at this;cases this
 | some x =>
  have h1:=yG (m:=N) hN h12
  rw [h] at h1
  have hd:=jx _ _ _ _ h12
  obtain rfl:=Option.some.inj h1
  dsimp only at hd ⊢
  cases t with
  | nil=>dsimp only;rw [if_pos ⟨rfl,hd⟩]
  | cons c t=>dsimp only;rw [if_neg (fun h=>by cases h.1)]
theorem xq {ts : List Ty} {k s : adB} {N : Nat} (hN : 12 ≤ N) (hl : s.length ≤ 400) (h : rd ts N k s = none) : cq ts k s = none:=by
 unfold cq
 rw [if_pos hl]
 cases h12 : rd ts 12 k s with
 | none=>rfl
 | some x=>rw [yG (m:=N) hN h12] at h;cases h
theorem lm {b : Nat} {qs : List c6} {k s : adB} (hS : ScI G b qs) (hw : SchW (al qs)) (hk : aA (al qs) k = true) (hs : s.length ≤ 10000000) :
  bG adA 60 [Pt b 0,Ag (cR k),S s] G (fun v G'=>(cq (al qs) k s = none ∧ v = Tu [zP,Bo false]) ∨ ∃ u c,cq (al qs) k s = some u ∧ v = Tu [Ag (bi c),Bo true] ∧ V.rep G' u c):=by
 unfold cR
 by_cases hl : s.length ≤ 400
 case neg =>
  have hno : cq (al qs) k s = none:=by unfold cq;rw [if_neg hl]
  refine jB [(0,_),(1,_),(2,_)] Tryz.func60 Tryz.ntmps60 fun B hok hB hW=>?_
  repeat' (first | refine jR ?_ | (refine jo ?_;first | refine jO fun _=>?_ | refine jL fun _=>?_ | refine jV (ay F F) ?_ | refine jC F F F ?_) | refine ac F (ax oM) ?_)
  all_goals refine jZ (vs:=[_,_]) F ⟨aJ F F F F,F,trivial⟩ F ⟨Gh.le.refl _,F,?_⟩
  all_goals exact .inl ⟨hno,F⟩
 obtain ⟨N,hN⟩ : ∃ N,s.length + 12 ≤ N:=⟨_,Nat.le_refl _⟩
 have hN2 : 12 ≤ N:=oM
 have hV:=r7 (sc:=b) hw N
 have cy_vl : ∀ {r : Nat},ff adA 107 [Pt r 0,Ag (cR k)] G [eH r b s false] (iW (rd (al qs) N k) r b s false):=fun {r}=>hV G r k s false hS hk oM oM
 refine jB [(0,_),(1,_),(2,_)] Tryz.func60 Tryz.ntmps60 fun B hok hB hW=>?_
 repeat' (first | refine jR ?_ | (refine jo ?_;first | refine jO fun _=>?_ | refine jL fun _=>?_ | refine jV (ay F F) ?_ | refine bM F ?_) | refine ad F (aF oM) ?_)
 refine jo ?_
 rename_i r
 refine eI F F F (cy_vl (r:=r)) F ?_
 rintro _ G1 _ hle ⟨u1,c1,t1,b1,rfl,hrep,rfl,hP⟩
 dsimp only [zA,fA]
 obtain ⟨hPl,hP0,hP1⟩:=hP
 cases b1 with
 | true =>
  have hno : cq (al qs) k s = none:=xq hN2 hl (by rcases (hP1 rfl).1 with h | h;cases h;exact h)
  repeat' (first | refine jR ?_ | (refine jo ?_;first | refine jL fun _=>?_ | refine jV (ay F F) ?_ | refine jC F F F ?_ | refine aB F ?_ | refine aP F ?_) | refine aG F F F ?_ | refine ac F F ?_)
  all_goals refine jZ (vs:=[_,_]) F ⟨aJ F F F F,F,trivial⟩ F ⟨hle,F,?_⟩
  all_goals exact .inl ⟨hno,F⟩
 | false =>
  have hrd:=(hP0 rfl).2
  have hof:=xp hN2 hl hrd
  have htt:=gr _ _ _ _ hrd
  dsimp only at htt
  by_cases ht : t1 = []
  case neg =>
   have hno : cq (al qs) k s = none:=by rw [hof,if_neg (fun h=>ht h.1)]
   repeat' (first | refine jR ?_ | (refine jo ?_;first | refine jL fun _=>?_ | refine jV (ay F F) ?_ | refine jC F F F ?_ | refine aB F ?_ | refine aP F ?_ | refine aE F ?_) | refine aG F F (ax ‹_›) ?_ | refine aw F F F ?_ | refine ac F F ?_)
   all_goals refine jZ (vs:=[_,_]) F ⟨aJ F F F F,F,trivial⟩ F ⟨hle,F,?_⟩
   all_goals exact .inl ⟨hno,F⟩
  have hnn : ¬ t1 ≠ []:=fun h=>h ht
  have cx_dp:=xa (G:=G1) u1.tot (Nat.le_refl _) oM hrep
  have hdt:=oQ u1
  by_cases hd : V.deep u1 ≤ 12
  ·have hyes : cq (al qs) k s = some u1:=by rw [hof,if_pos ⟨ht,hd⟩]
   repeat' (first | refine jR ?_ | (refine jo ?_;first | refine jL fun _=>?_ | refine jC F F F ?_ | refine aB F ?_ | refine bM F ?_ | refine aE F ?_ | refine ae F F F cx_dp F ?_) | (refine aw F F (by first | rfl | (refine decide_eq_false ?_;(assumption))) ?_) | refine ad F (aF oM) ?_)
   all_goals refine jZ (vs:=[_,_]) F ⟨aJ F F F F,F,trivial⟩ F ⟨hle,F,?_⟩
   all_goals exact .inr ⟨u1,c1,hyes,F,hrep⟩
  ·have hno : cq (al qs) k s = none:=by rw [hof,if_neg (fun h=>hd h.2)]
   repeat' (first | refine jR ?_ | (refine jo ?_;first | refine jL fun _=>?_ | refine jV (ay F F) ?_ | refine jC F F F ?_ | refine aB F ?_ | refine bM F ?_ | refine aE F ?_ | refine ae F F F cx_dp F ?_) | (refine aw F F (by first | rfl | (refine decide_eq_false ?_;(assumption))) ?_) | refine ac F (ax oM) ?_)
   all_goals refine jZ (vs:=[_,_]) F ⟨aJ F F F F,F,trivial⟩ F ⟨hle,F,?_⟩
   all_goals exact .inl ⟨hno,F⟩
theorem k7 {s k : adB} (h : dA s k = true) : ∃ ts,bc s = some ts ∧ aA ts k = true ∧ SchW ts:=by
 unfold dA at h
 cases h1 : bc s with
 | none=>rw [h1] at h;cases h
 | some ts=>rw [h1] at h;exact ⟨ts,F,h,d9 h1⟩
def cW (s k v : adB) : Option V:=match bc s with
 | some ts=>if aA ts k = true then cq ts k v else none
 | none=>none
theorem kB {s k w : adB} (h : s.length ≤ 1048576 ∧ k.length ≤ 1048576 ∧ w.length ≤ 1048576) (hno : cW s k w = none) : bG adA 25 [S s,S k,S w] G (fun v _=>∃ p a b c,v = Tu [p,Ag [S a,S b,S c],zP,Bo false]):=by
 by_cases hk : dA s k = true
 case neg =>
  have cx_bo1 : ∀ G,bG adA 45 [S s,S k] G (fun v _=>∃ p a b c,v = Tu [p,Ag [S a,S b,S c],Bo false]):=fun G=>by
   refine (tT (G:=G) (s:=s) (k:=k) oM oM).mono ?_
   rintro v G' L' ⟨h1,h2,⟨_,p,a,b,c,rfl⟩ | ⟨b,qs,rfl,h4,h5,_⟩⟩
   ·exact ⟨h1,h2,p,a,b,c,F⟩
   ·exact absurd (by unfold dA;rw [h4];exact h5) hk
  refine jB [(0,_),(1,_),(2,_)] Tryz.func25 Tryz.ntmps25 fun B hok hB hW=>?_
  repeat' (first | refine jR ?_ | (refine jo ?_;first | refine jL fun _=>?_ | refine jC F F F ?_ | refine jV (ay F F) ?_ | (refine ar F F F (cx_bo1 _) F ?_;rintro _ G hle ⟨p1,a1,b1,c1,rfl⟩;skip)) | refine ac F F ?_)
  all_goals refine jZ (vs:=[_,_,_,_]) F ⟨F,aJ F F F F,aJ F F F F,F,trivial⟩ F ⟨hle,F,?_⟩
  all_goals exact ⟨_,_,_,_,F⟩
 obtain ⟨ts,hs,hki,hw⟩:=k7 hk
 have hvo : cq ts k w = none:=by unfold cW at hno;rw [hs] at hno;dsimp only at hno;rwa [if_pos hki] at hno
 have cx_boa : ∀ G,bG adA 45 [S s,S k] G (fun v G'=>∃ b qs,v = Tu [Pt b 0,Ag [S (sg k),S (bs k),S (nm k)],Bo true] ∧ al qs = ts ∧ ScI G' b qs):=fun G=>by
  refine (tT (G:=G) (s:=s) (k:=k) oM oM).mono ?_
  rintro v G' L' ⟨h1,h2,⟨h4,_⟩ | ⟨b,qs,rfl,h4,h5,h6⟩⟩
  ·rw [h4] at hk;cases hk
  ·rw [hs] at h4;exact ⟨h1,h2,b,qs,F,(Option.some.inj h4).symm,h6⟩
 have cx_ri0 : ∀ G b qs,al qs = ts → ScI G b qs → bG adA 60 [Pt b 0,Ag [S (sg k),S (bs k),S (nm k)],S w] G (fun v _=>v = Tu [zP,Bo false]):=fun G b qs hq hS=>by
  subst hq
  refine (lm (G:=G) (b:=b) (s:=w) hS hw hki oM).mono ?_
  rintro v G' L' ⟨h1,h2,⟨_,rfl⟩ | ⟨u,c,h4,_⟩⟩
  ·exact ⟨h1,h2,F⟩
  ·rw [hvo] at h4;cases h4
 refine jB [(0,_),(1,_),(2,_)] Tryz.func25 Tryz.ntmps25 fun B hok hB hW=>?_
 repeat' (first | refine jR ?_ | (refine jo ?_;first | refine jL fun _=>?_ | refine jC F F F ?_ | refine bM F ?_ | (refine ar F F F (cx_boa _) F ?_;rintro _ G hle ⟨ba,qa,rfl,hT1,hR1⟩;skip) | (refine ar F F F ((cx_ri0 _ _ _) (by (repeat (assumption));done) (by (repeat (assumption));done)) rfl ?_;rintro _ G hle rfl;skip)) | refine ad F F ?_ | (refine an (ec (id:=5) (tt:=7) F am ?_);refine jW 5 [0,3,4] (aa 8 25) ?_;(refine jG (aa 8 27) 1 F (bP F F F F) ?_);(refine jG (aa 8 31) 2 F (bP F F F F) ?_);refine jA 5 F ?_;(refine jC F F F ?_);refine jK (aa 8 63) ?_;refine jA 6 F ?_;(refine jC F F F ?_);refine jK (aa 8 127) ?_;refine jW 0 [7] (aa 8 255) ?_;refine jQ ?_))
 all_goals refine jZ (vs:=[_,_,_,_]) F ⟨F,aJ F F F F,aJ F F F F,F,trivial⟩ F ⟨(Gh.le.trans aS hle),F,?_⟩
 all_goals exact ⟨_,_,_,_,F⟩
theorem kA {s k w : adB} {u : V} {ts : List Ty} (h : s.length ≤ 1048576 ∧ k.length ≤ 1048576 ∧ w.length ≤ 1048576) (hs : bc s = some ts) (hki : aA ts k = true) (hvo : cq ts k w = some u) :
  bG adA 25 [S s,S k,S w] G (fun v G'=>∃ b qs cv,v = Tu [Pt b 0,Ag [S (sg k),S (bs k),S (nm k)],Ag (bi cv),Bo true] ∧ al qs = ts ∧ ScI G' b qs ∧ V.rep G' u cv):=by
 have hw:=d9 hs
 have hk : dA s k = true:=by unfold dA;rw [hs];exact hki
 have cx_boa : ∀ G,bG adA 45 [S s,S k] G (fun v G'=>∃ b qs,v = Tu [Pt b 0,Ag [S (sg k),S (bs k),S (nm k)],Bo true] ∧ al qs = ts ∧ ScI G' b qs):=fun G=>by
  refine (tT (G:=G) (s:=s) (k:=k) oM oM).mono ?_
  rintro v G' L' ⟨h1,h2,⟨h4,_⟩ | ⟨b,qs,rfl,h4,h5,h6⟩⟩
  ·rw [h4] at hk;cases hk
  ·rw [hs] at h4;exact ⟨h1,h2,b,qs,F,(Option.some.inj h4).symm,h6⟩
 have cx_ri1 : ∀ G b qs,al qs = ts → ScI G b qs → bG adA 60 [Pt b 0,Ag [S (sg k),S (bs k),S (nm k)],S w] G (fun v G'=>∃ cv,v = Tu [Ag (bi cv),Bo true] ∧ V.rep G' u cv):=fun G b qs hq hS=>by
  subst hq
  refine (lm (G:=G) (b:=b) (s:=w) hS hw hki oM).mono ?_
  rintro v G' L' ⟨h1,h2,⟨h4,_⟩ | ⟨u',c,h4,rfl,h5⟩⟩
  ·rw [hvo] at h4;cases h4
  ·rw [hvo] at h4;obtain rfl:=Option.some.inj h4;exact ⟨h1,h2,c,F,h5⟩
 refine jB [(0,_),(1,_),(2,_)] Tryz.func25 Tryz.ntmps25 fun B hok hB hW=>?_
 repeat' (first | refine jR ?_ | (refine jo ?_;first | refine jL fun _=>?_ | refine jC F F F ?_ | refine bM F ?_ | (refine ar F F F (cx_boa _) F ?_;rintro _ G hle ⟨ba,qa,rfl,hT1,hR1⟩;skip) | (refine ar F F F ((cx_ri1 _ _ _) (by (repeat (assumption));done) (by (repeat (assumption));done)) rfl ?_;rintro _ G hle ⟨cv,rfl,hrv⟩;skip)) | refine ad F F ?_)
 rename_i x7 x8 Ga hla x11 x13
 dsimp only [bi,VC.sl]
 (refine an (ao (id:=5) [.blk x13 (.cells (List.toArray [U8 (cv.what : Nat),S cv.text,I cv.tag,.slice cv.a cv.n cv.c]) dc (0,0)),.blk x11 (.cells (List.toArray [S (sg k),S (bs k),S (nm k)]) fF (0,0))] (by intro y hy;simp only [List.mem_cons,List.not_mem_nil,or_false] at hy ⊢;rcases hy with hy | hy <;> simp [hy]) am ?_);refine jW 5 [0,3,4] (aa 8 25) ?_;(refine jG (aa 8 27) 1 F (bP F F F F) ?_);(refine jG (aa 8 31) 2 F (bP F F F F) ?_);refine jA 5 F ?_;(refine jC F F F ?_);refine jK (aa 8 63) ?_;refine jA 6 F ?_;(refine jC F F F ?_);refine jK (aa 8 127) ?_;refine jW 0 [7] (aa 8 255) ?_;refine jQ ?_)
 all_goals repeat' (refine jR ?_)
 all_goals refine jZ (vs:=[_,_,_,_]) F ⟨F,aJ F F F F,aJ F F F F,F,trivial⟩ F ⟨(Gh.le.trans aS hle),F,?_⟩
 all_goals exact ⟨ba,qa,cv,F,hT1,hR1.mono hle,hrv⟩
def dD (b : Nat) : List Value:=[Pt b 0]
instance : RowF dD 1:=⟨fun _=>rfl⟩
def cI (n : Int) : List Value:=[I n]
instance : RowF cI 1:=⟨fun _=>rfl⟩
abbrev adg : TypeId:=9
abbrev nQ : TypeId:=159
inductive RepR (G : Gh) (ts : List Ty) : V → adB → Nat → Prop
 | leaf (w : Nat) (x k tx : adB) (b : Nat) : bT G b 0 [S k,S tx,aK,aK] → ((w = 110 ∧ k = [110] ∧ tx = x ∧ ∀ c ∈ x,br c = true) ∨ (w = 116 ∧ k = [116] ∧ tx = 39 :: (x ++ [39])) ∨ (w = 102 ∧ k = [102] ∧ tx = x ∧ (x = [121,101,115] ∨ x = [110,111]))) → RepR G ts (.nd w x 0 []) k b
 | lst (k : adB) (b : Nat) (ks : List V) (bs : List Nat) (a : Option Addr) (c : Nat) : bT G b 0 [S (91 :: k),S [],aK,.slice a ks.length c] → aT G (.slice a ks.length c) 1 ks.length (ah dD bs) → bs.length = ks.length → (∀ i,i < ks.length → RepR G ts (ab ks i) k (ab bs i)) → RepR G ts (.nd 91 [] 0 ks) (91 :: k) b
 | non (k : adB) (b : Nat) : bT G b 0 [S (63 :: k),S [],aK,aK] → RepR G ts (.nd 63 [] 0 []) (63 :: k) b
 | opt (k : adB) (b kb b' cc : Nat) (v : V) : 1 ≤ cc → bT G b 0 [S (63 :: k),S [],aK,.slice (some ⟨kb,0,none⟩) 1 cc] → bT G kb 0 [Pt b' 0] → RepR G ts v k b' → RepR G ts (.nd 63 [] 0 [v]) (63 :: k) b
 | recd (k : adB) (b : Nat) (t : Ty) (fs : List (Fld × V)) (bs : List Nat) (a a2 : Option Addr) (c c2 : Nat) : a8 ts k = some t ∧ t.sort = 82 → bT G b 0 [S k,S [82],.slice a fs.length c,.slice a2 fs.length c2] → aT G (.slice a fs.length c) 1 fs.length (ah cI (fs.map fun p=>p.1.tag)) → aT G (.slice a2 fs.length c2) 1 fs.length (ah dD bs) → bs.length = fs.length → (∀ i,i < fs.length → (ab fs i).1 ∈ t.fields) → (∀ i,i < fs.length → RepR G ts (ab fs i).2 (ab fs i).1.kind (ab bs i)) → RepR G ts (.nd 82 [] 0 (fs.map fun p=>.nd 61 [] p.1.tag [p.2])) k b
 | enm (k : adB) (b tb : Nat) (t : Ty) (d : Fld) {tc : Nat} : a8 ts k = some t ∧ t.sort = 69 → d ∈ t.fields → bT G b 0 [S k,S [69],.slice (some ⟨tb,0,none⟩) 1 (tc + 1),aK] → bT G tb 0 [I d.tag] → RepR G ts (.nd 69 [] d.tag []) k b
 | uni (k : adB) (b tb kb b' cc : Nat) (t : Ty) (d : Fld) (v : V) {tc : Nat} : 1 ≤ cc → a8 ts k = some t ∧ t.sort = 85 → d ∈ t.fields → bT G b 0 [S k,S [85],.slice (some ⟨tb,0,none⟩) 1 (tc + 1),.slice (some ⟨kb,0,none⟩) 1 cc] → bT G tb 0 [I d.tag] → bT G kb 0 [Pt b' 0] → RepR G ts v d.kind b' → RepR G ts (.nd 85 [] d.tag [v]) k b
theorem RepR.mono {G G' : Gh} {ts : List Ty} (hl : Gh.le G G') {v : V} {k : adB} {b : Nat} (h : RepR G ts v k b) : RepR G' ts v k b:=by
 induction h with
 | leaf w x k tx b h1 h2=>exact .leaf w x k tx b (h1.mono hl) h2
 | lst k b ks bs a c h1 h2 h3 _ ih=>exact .lst k b ks bs a c (h1.mono hl) (h2.mono hl) h3 ih
 | non k b h1=>exact .non k b (h1.mono hl)
 | opt k b kb b' cc v h0 h1 h2 _ ih=>exact .opt k b kb b' cc v h0 (h1.mono hl) (h2.mono hl) ih
 | recd k b t fs bs a a2 c c2 h0 h1 h2 h3 h4 h5 _ ih=>exact .recd k b t fs bs a a2 c c2 h0 (h1.mono hl) (h2.mono hl) (h3.mono hl) h4 h5 ih
 | enm k b tb t d h0 h1 h2 h3=>exact .enm k b tb t d h0 h1 (h2.mono hl) (h3.mono hl)
 | uni k b tb kb b' cc t d v hcc h0 h1 h2 h3 h4 _ ih=>exact .uni k b tb kb b' cc t d v hcc h0 h1 (h2.mono hl) (h3.mono hl) (h4.mono hl) ih
def eT (ts : List Ty) (f : Option (V × adB)) (k : adB) (v : Value) (G' : Gh) : Prop :=
 ∃ q rest ok,v = Tu [.pointer q,S rest,Bo ok] ∧ (ok = true → ∃ w b,q = some ⟨b,0,none⟩ ∧ f = some (w,rest) ∧ RepR G' ts w k b) ∧ (ok = false → f = none)
theorem tR {s : adB} (hs : s.length ≤ 100000000) : aZ adA 139 [S s] G (· = I ((s.takeWhile br).length : Nat)):=by
 refine jE [(0,_)] Tryz.func139 Tryz.ntmps139 fun B hB=>?_
 repeat' (refine jR ?_)
 refine aV (ι:=Nat) (fun i=>i ≤ s.length ∧ i + ((s.drop i).takeWhile br).length = (s.takeWhile br).length) (fun i=>[(0,S s),(3,I i)]) (fun _=>G) (fun i=>[]) (fun i=>s.length - i) 0 ?_ tU F a7 (fun i Hi=>?_)
 ·exact ⟨Nat.zero_le _,by simp⟩
 obtain ⟨hi0,hi1⟩:=Hi
 by_cases hi : i < s.length
 ·obtain ⟨c,hc1,hc2⟩:=lj hi
  have hc3 : bt s ((i : Int).toNat) = c.toNat:=hc2
  rw [hc1,List.takeWhile_cons] at hi1
  by_cases hd : br c = true
  ·rw [if_pos hd] at hi1
   have hd2:=hd
   unfold br at hd2
   rw [decide_eq_true_eq] at hd2
   simp only [List.length_cons] at hi1
   repeat' (first | refine jM ?_ | (refine jo ?_;refine aP F ?_) | refine aG F F (ax oM) ?_ | refine ac F (ax oM) ?_)
   exact bm (i + 1) ⟨oM,oM⟩ oM tU F a7
  ·rw [if_neg hd] at hi1
   have hd2 : ¬ (48 ≤ c.toNat ∧ c.toNat ≤ 57):=fun h=>hd (by unfold br;rw [decide_eq_true_eq];exact h)
   simp only [List.length_nil] at hi1
   repeat' (first | refine jM ?_ | (refine jo ?_;first | refine aP F ?_ | refine aE F ?_) | refine aG F F (ax oM) ?_ | refine fu F F (fun _=>?_) (fun _=>?_) | (refine ad F (by first | rfl | (refine decide_eq_false ?_;(omega))) ?_))
   all_goals refine jY (vs:=[_]) ?_
   all_goals (rw [aR,← hi1];rfl)
 ·have : i = s.length:=oM
  rw [this,List.drop_length] at hi1
  simp only [List.takeWhile_nil,List.length_nil] at hi1
  repeat' (first | refine jR ?_ | (refine jo ?_;refine aE F ?_) | (refine aw F F (by first | rfl | (refine decide_eq_false ?_;(omega))) ?_) | refine ad F F ?_)
  all_goals refine jY (vs:=[_]) ?_
  all_goals (rw [aR,← hi1,this];rfl)
theorem o7 (q : UInt8 → Bool) (s : adB) : s.take ((((s.takeWhile q).length : Nat) : Int)).toNat = s.takeWhile q ∧ s.drop ((((s.takeWhile q).length : Nat) : Int)).toNat = s.dropWhile q:=by
 have h:=List.takeWhile_append_dropWhile (p:=q) (l:=s)
 have e : ((((s.takeWhile q).length : Nat) : Int)).toNat = (s.takeWhile q).length:=oM
 rw [e]
 constructor
 ·have h2 : (s.takeWhile q ++ s.dropWhile q).take (s.takeWhile q).length = s.takeWhile q:=List.take_left
  rwa [h] at h2
 ·have h2 : (s.takeWhile q ++ s.dropWhile q).drop (s.takeWhile q).length = s.dropWhile q:=List.drop_left
  rwa [h] at h2
theorem yj {u : Value} {ts : List Ty} {s : adB} (hu : u.oneCell' = true) (hs : s.length ≤ 100000000) : bG adA 98 [Ag [u],S s,S [110]] G (eT ts ((cM 999999 s).map fun x=>(.nd 110 (be x.1) 0 [],x.2)) [110]):=by
 have cx_dg:=tR (G:=G) hs
 obtain ⟨e1,e2⟩:=o7 br s
 have hwl:=eD br s
 have hlen : (s.take ((((s.takeWhile br).length : Nat) : Int)).toNat).length ≤ 100000000:=by rw [e1];omega
 refine jB [(0,_),(1,_),(2,_)] Tryz.func98 Tryz.ntmps98 fun B hok hB hW=>?_
 repeat' (first | refine jM ?_ | (refine jo ?_;first | refine jO fun _=>?_ | refine ae F F F cx_dg F ?_ | (refine ep F F F (ik oM) F ?_;rintro _ ⟨n,rfl,hnum⟩)) | refine ac F F ?_ | (refine an (ao (id:=6) _ (fun _ h=>h) am ?_);refine jW 5 [0,1,2,3,6,7,8,9] (aa 13 975) ?_;(refine jG (aa 13 991) 4 F (ay F F) ?_);refine jA 5 F ?_;(refine jO fun _=>?_);refine jS (aa 13 1023) ?_;refine jT 0 [10,11,12] (aa 13 8191) ?_;refine jQ ?_))
 rename_i x3 x4
 refine Nx.sealC (b:=x4) fun G2 hG2 hsy=>?_
 refine jZ (vs:=[_,_,_]) F ⟨F,F,F,trivial⟩ F ⟨hG2,F,?_⟩
 rw [bE]
 rw [e1] at hnum hsy
 rw [e1,e2]
 refine ⟨_,_,_,F,fun h=>?_,fun h=>?_⟩
 ·cases hm : aN (s.takeWhile br) 999999 with
  | none=>rw [hm] at h;cases h
  | some m =>
   have hmd:=(ed hm).2.1
   refine ⟨.nd 110 (be m) 0 [],x4,F,by unfold cM;rw [hm];rfl,.leaf 110 _ _ _ _ hsy (.inl ⟨rfl,rfl,hmd,fun c hc=>List.all_eq_true.1 (List.all_takeWhile (l:=s) (p:=br)) c (by rw [hmd];exact hc)⟩)⟩
 ·cases hm : aN (s.takeWhile br) 999999 with
  | none=>unfold cM;rw [hm];rfl
  | some m=>rw [hm] at h;cases h
theorem pG {c : UInt8} {r : adB} {i : Nat} (hc : i ≤ r.length) (hn : ∀ j,j < i → bt r j ≠ 39) (hi : i = r.length ∨ bt r i = 39 ∧ i < r.length) :
  (dP (c :: r) = if d6 ((c :: r).take (min (i + 2) (r.length + 1))) = true then some (.nd 116 (r.take i) 0 [],r.drop (i + 1)) else none) ∧ (d6 ((c :: r).take (min (i + 2) (r.length + 1))) = true → (c :: r).take (min (i + 2) (r.length + 1)) = 39 :: (r.take i ++ [39])):=by
 unfold dP
 dsimp only
 rcases hi with hi | ⟨h39,hlt⟩
 ·have hcut : aH 39 r = (r,[],false):=qJ fun j hj=>hn j oM
  have htk : (c :: r).take (min (i + 2) (r.length + 1)) = c :: r:=List.take_of_length_le (by simp;omega)
  have hno : d6 (c :: r) = false:=by
   unfold d6
   refine decide_eq_false fun h=>?_
   obtain ⟨⟨h2,_⟩,_,h3,_⟩:=h
   simp only [List.length_cons] at h2
   rw [show (c :: r).length - 1 = (r.length - 1) + 1 by simp;omega,eJ] at h3
   exact hn (r.length - 1) oM h3
  rw [hcut,htk,hno]
  exact ⟨by simp,fun h=>(by cases h)⟩
 ·have hcut:=nJ (k:=39) hlt hn h39
  have htk : (c :: r).take (min (i + 2) (r.length + 1)) = c :: (r.take i ++ [39]):=by
   rw [show min (i + 2) (r.length + 1) = (i + 1) + 1 by omega,List.take_succ_cons,dl hlt]
   congr 1;congr 1;congr 1
   rw [aI hlt]
   have : bt r i = (r[i]).toNat:=by simp [bt,List.getD,List.getElem?_eq_getElem hlt]
   exact UInt8.toNat_inj.1 (by rw [← this,h39];rfl)
  rw [hcut,htk]
  dsimp only
  by_cases h : c.toNat = 39
  ·rw [if_pos h,show c = 39 from UInt8.toNat_inj.1 h]
   exact ⟨F,fun _=>rfl⟩
  ·have hno : ¬ d6 (c :: (r.take i ++ [39])) = true:=fun ht=>by
    unfold d6 at ht
    rw [decide_eq_true_eq] at ht
    exact h (by have:=ht.2.1;rwa [bD] at this)
   rw [if_neg h,if_neg hno]
   exact ⟨F,fun h2=>absurd h2 hno⟩
theorem yi {u : Value} {ts : List Ty} {s : adB} (hu : u.oneCell' = true) (hs : s.length ≤ 100000000) (hne : s ≠ []) : bG adA 98 [Ag [u],S s,S [116]] G (eT ts (dP s) [116]):=by
 match s,hne with
 | c :: r,_ =>
 simp only [List.length_cons] at hs
 have hcl : (c :: r).length = r.length + 1:=rfl
 refine jB [(0,_),(1,_),(2,_)] Tryz.func98 Tryz.ntmps98 fun B hok hB hW=>?_
 repeat' (first | refine jR ?_ | (refine jo ?_;refine jO fun _=>?_) | refine ac F F ?_ | refine ad F F ?_)
 rename_i x3
 refine aV (ι:=Nat) (fun i=>i ≤ r.length ∧ ∀ j,j < i → bt r j ≠ 39) (fun i=>[(1,S (c :: r)),(2,S [116]),(9,I (i + 1 : Nat))]) (fun _=>G) (fun i=>[]) (fun i=>r.length - i) 0 ?_ tU F (by repeat (exact List.nil_sublist _)) (fun i Hi=>?_)
 ·exact ⟨Nat.zero_le _,fun j hj=>absurd hj oM⟩
 obtain ⟨hi0,hi1⟩:=Hi
 have hb : bt (c :: r) ((i + 1 : Nat) : Int).toNat = bt r i:=eJ c r i
 by_cases hi : i < r.length
 ·by_cases h39 : bt r i = 39
  ·have h39' : bt (c :: r) ((i + 1 : Nat) : Int).toNat = 39:=by rw [hb];exact h39
   have hq:=pG (c:=c) hi0 hi1 (.inr ⟨h39,hi⟩)
   have e3 : (min (((i + 1 : Nat) : Int) + 1) ((((c :: r).length : Nat) : Int))).toNat = min (i + 2) (r.length + 1):=oM
   have cx_tx:=hX (G:=G) (s:=(c :: r).take (min (((i + 1 : Nat) : Int) + 1) ((((c :: r).length : Nat) : Int))).toNat) (by rw [List.length_take];omega)
   repeat' (first | refine jM ?_ | (refine jo ?_;first | refine aP F ?_ | refine jV (vJ F F) ?_) | refine aG F F (ax oM) ?_ | refine ad F (aF oM) ?_ | (refine an (ao (id:=12) _ (fun _ h=>h) am ?_);refine jW 6 [0,1,2,3,6,7,8,9,10,11] (aa 16 4047) ?_;(refine jG (aa 16 4063) 4 F (ay F F) ?_);refine b7 [5,12] kR dC ⟨?_,?_,trivial⟩;(focus (refine aM F F ?_;(refine jO fun _=>?_);refine jS (aa 16 4095) ?_;refine jA 12 F ?_;((refine ae F F F (hX ?_) F ?_;(focus ((simp;omega);done))));refine jS (aa 16 8191) ?_;refine jW 0 [13,14,15] (aa 16 65535) ?_;refine jQ ?_));rotate_left 1;(focus (refine aM F F ?_;((refine ae F F F (hX ?_) F ?_;(focus ((simp;omega);done))));refine jS (aa 16 8159) ?_;refine jA 5 F ?_;(refine jO fun _=>?_);refine jS (aa 16 8191) ?_;refine jW 0 [13,14,15] (aa 16 65535) ?_;refine jQ ?_));rotate_left 1))
   all_goals
    rename_i x4
    refine Nx.sealC (b:=x4) fun G2 hG2 hsy=>?_
    refine jZ (vs:=[_,_,_]) F ⟨F,F,F,trivial⟩ F ⟨hG2,F,?_⟩
    rw [bE]
    rw [e3] at hsy
    rw [e3]
    refine ⟨_,_,_,F,fun h=>?_,fun h=>?_⟩
    ·have htk:=hq.2 h
     rw [htk] at hsy
     have hdr : (c :: r).drop (min (i + 2) (r.length + 1)) = r.drop (i + 1):=by
      rcases Nat.lt_or_ge i r.length with h2 | h2
      ·rw [show min (i + 2) (r.length + 1) = (i + 1) + 1 by omega];rfl
      ·rw [List.drop_eq_nil_of_le (by simp;omega),List.drop_eq_nil_of_le oM]
     exact ⟨_,x4,F,by rw [hq.1,if_pos h,hdr],.leaf 116 _ _ _ _ hsy (.inr (.inl ⟨F,F,F⟩))⟩
    ·rw [hq.1,if_neg (by rw [h];decide)]
  ·have h39' : ¬ bt (c :: r) ((i + 1 : Nat) : Int).toNat = 39:=by rw [hb];exact h39
   repeat' (first | refine jM ?_ | (refine jo ?_;refine aP F ?_) | refine aG F F (ax oM) ?_ | refine ac F (ax oM) ?_)
   refine Nx.re (d:=9) (v':=I (i + 1 + 1 : Nat)) F (congrArg (Value.int .i64) oM) ?_
   exact bm (i + 1) ⟨oM,fun j hj=>(by
    rcases Nat.lt_or_ge j i with h | h
    ·exact hi1 j h
    ·have : j = i:=oM
     subst this;exact h39)⟩ oM tU F a7
 ·have hq:=pG (c:=c) hi0 hi1 (.inl oM)
  have e3 : (min (((i + 1 : Nat) : Int) + 1) ((((c :: r).length : Nat) : Int))).toNat = min (i + 2) (r.length + 1):=oM
  have cx_tx:=hX (G:=G) (s:=(c :: r).take (min (((i + 1 : Nat) : Int) + 1) ((((c :: r).length : Nat) : Int))).toNat) (by rw [List.length_take];omega)
  repeat' (first | refine jM ?_ | (refine jo ?_;first | refine aE F ?_ | refine jV (vJ F F) ?_) | refine aw F F (aF oM) ?_ | refine ad F F ?_ | (refine an (ao (id:=12) _ (fun _ h=>h) am ?_);refine jW 6 [0,1,2,3,6,7,8,9,10,11] (aa 16 4047) ?_;(refine jG (aa 16 4063) 4 F (ay F F) ?_);refine b7 [5,12] kR dC ⟨?_,?_,trivial⟩;(focus (refine aM F F ?_;(refine jO fun _=>?_);refine jS (aa 16 4095) ?_;refine jA 12 F ?_;((refine ae F F F (hX ?_) F ?_;(focus ((simp;omega);done))));refine jS (aa 16 8191) ?_;refine jW 0 [13,14,15] (aa 16 65535) ?_;refine jQ ?_));rotate_left 1;(focus (refine aM F F ?_;((refine ae F F F (hX ?_) F ?_;(focus ((simp;omega);done))));refine jS (aa 16 8159) ?_;refine jA 5 F ?_;(refine jO fun _=>?_);refine jS (aa 16 8191) ?_;refine jW 0 [13,14,15] (aa 16 65535) ?_;refine jQ ?_));rotate_left 1))
  all_goals
   rename_i x4
   refine Nx.sealC (b:=x4) fun G2 hG2 hsy=>?_
   refine jZ (vs:=[_,_,_]) F ⟨F,F,F,trivial⟩ F ⟨hG2,F,?_⟩
   rw [bE]
   rw [e3] at hsy
   rw [e3]
   refine ⟨_,_,_,F,fun h=>?_,fun h=>?_⟩
   ·have htk:=hq.2 h
    rw [htk] at hsy
    have hdr : (c :: r).drop (min (i + 2) (r.length + 1)) = r.drop (i + 1):=by
     rcases Nat.lt_or_ge i r.length with h2 | h2
     ·rw [show min (i + 2) (r.length + 1) = (i + 1) + 1 by omega];rfl
     ·rw [List.drop_eq_nil_of_le (by simp;omega),List.drop_eq_nil_of_le oM]
    exact ⟨_,x4,F,by rw [hq.1,if_pos h,hdr],.leaf 116 _ _ _ _ hsy (.inr (.inl ⟨F,F,F⟩))⟩
   ·rw [hq.1,if_neg (by rw [h];decide)]
theorem yk {u : Value} {ts : List Ty} {s : adB} (hu : u.oneCell' = true) (hs : s.length ≤ 100000000) : bG adA 98 [Ag [u],S s,S [102]] G (eT ts (eO s) [102]):=by
 have hpf : ∀ l : adB,l.isPrefixOf s = true ↔ l.length ≤ s.length ∧ s.take l.length = l:=fun l=>by
  rw [List.isPrefixOf_iff_prefix]
  constructor
  ·rintro ⟨t,rfl⟩;simp
  ·rintro ⟨h1,h2⟩;exact ⟨s.drop l.length,by rw [show l ++ s.drop l.length = s.take l.length ++ s.drop l.length from by rw [h2]];exact List.take_append_drop _ _⟩
 refine jB [(0,_),(1,_),(2,_)] Tryz.func98 Tryz.ntmps98 fun B hok hB hW=>?_
 repeat' (first | refine jR ?_ | (refine jo ?_;first | refine jO fun _=>?_ | refine jF fun _=>?_ | refine jV (af F) ?_) | refine ad F F ?_)
 rename_i x3 x4
 refine aV (ι:=Nat) (fun i=>i ≤ 2 ∧ (1 ≤ i → ([121,101,115] : adB).isPrefixOf s = false) ∧ (2 ≤ i → ([110,111] : adB).isPrefixOf s = false)) (fun i=>[(1,S s),(2,S [102]),(68,.slice (some ⟨x4,0,none⟩) 2 2),(69,I (2 : Nat)),(70,I i)]) (fun _=>G) (fun i=>[.blk x4 (.cells (List.toArray [S [121,101,115],S [110,111]]) adg (0,0))]) (fun i=>2 - i) 0 ?_ tU F sB (fun i Hi=>?_)
 ·exact ⟨Nat.zero_le _,fun h=>absurd h oM,fun h=>absurd h oM⟩
 obtain ⟨hi0,hi1,hi2⟩:=Hi
 have h3 : i = 0 ∨ i = 1 ∨ i = 2:=oM
 rcases h3 with rfl | rfl | rfl
 ·cases hp : ([121,101,115] : adB).isPrefixOf s with
  | true =>
   obtain ⟨h1,h2⟩:=(hpf _).1 hp
   have h1' : (((([121,101,115] : adB).length : Nat) : Int)) ≤ s.length:=oM
   have h2' : s.take (((([121,101,115] : adB).length : Nat) : Int)).toNat = [121,101,115]:=h2
   repeat' (first | refine jM ?_ | (refine jo ?_;first | refine aP F ?_ | refine jV (ak F F oM) ?_ | refine aB F ?_) | refine aG F F (ax ‹_›) ?_ | (refine ac F (by first | rfl | (refine decide_eq_true ?_;(assumption))) ?_) | (refine an (ao (id:=17) _ (fun _ h=>h) am ?_);refine jW 5 [0,1,4,5,6,7] (aa 11 243) ?_;(refine jG (aa 11 247) 2 F (ay F F) ?_);refine jA 3 F ?_;(refine jO fun _=>?_);refine jS (aa 11 255) ?_;refine jT 0 [8,9,10] (aa 11 2047) ?_;refine jQ ?_))
   all_goals
    rename_i y
    refine Nx.sealC (b:=y) fun G2 hG2 hsy=>?_
    refine jZ (vs:=[_,_,_]) F ⟨F,F,F,trivial⟩ F ⟨hG2,F,?_⟩
    rw [bE]
    exact ⟨_,_,_,F,fun _=>⟨.nd 102 [121,101,115] 0 [],y,F,by unfold eO;rw [hp,if_pos rfl];rfl,.leaf 102 _ _ _ _ hsy (.inr (.inr ⟨rfl,rfl,rfl,.inl rfl⟩))⟩,fun h=>(by cases h)⟩
  | false =>
   have hn : ¬ ((([121,101,115] : adB).length : Nat) ≤ s.length ∧ s.take ([121,101,115] : adB).length = [121,101,115]):=fun h=>by rw [(hpf _).2 h] at hp;cases hp
   have hn' : ¬ ((((([121,101,115] : adB).length : Nat) : Int)) ≤ s.length ∧ s.take (((([121,101,115] : adB).length : Nat) : Int)).toNat = [121,101,115]):=fun h=>hn ⟨oM,h.2⟩
   by_cases h1' : (((([121,101,115] : adB).length : Nat) : Int)) ≤ s.length
   ·have h2' : ¬ s.take (((([121,101,115] : adB).length : Nat) : Int)).toNat = [121,101,115]:=fun h=>hn' ⟨h1',h⟩
    repeat' (first | refine jM ?_ | (refine jo ?_;first | refine aP F ?_ | refine jV (ak F F oM) ?_ | refine aB F ?_) | refine aG F F (ax ‹_›) ?_ | refine ac F F ?_ | refine ad F (aF ‹_›) ?_)
    exact bm 1 ⟨oM,fun _=>rfl,fun h=>absurd h oM⟩ oM tU F a7
   ·repeat' (first | refine jM ?_ | (refine jo ?_;first | refine aE F ?_ | refine jV (ak F F oM) ?_ | refine aB F ?_) | refine aw F F (aF ‹_›) ?_ | refine ac F F ?_ | refine ad F F ?_)
    exact bm 1 ⟨oM,fun _=>rfl,fun h=>absurd h oM⟩ oM tU F a7
 ·have hy:=hi1 (Nat.le_refl _)
  cases hp : ([110,111] : adB).isPrefixOf s with
  | true =>
   obtain ⟨h1,h2⟩:=(hpf _).1 hp
   have h1' : (((([110,111] : adB).length : Nat) : Int)) ≤ s.length:=oM
   have h2' : s.take (((([110,111] : adB).length : Nat) : Int)).toNat = [110,111]:=h2
   repeat' (first | refine jM ?_ | (refine jo ?_;first | refine aP F ?_ | refine jV (ak F F oM) ?_ | refine aB F ?_) | refine aG F F (ax ‹_›) ?_ | (refine ac F (by first | rfl | (refine decide_eq_true ?_;(assumption))) ?_) | (refine an (ao (id:=17) _ (fun _ h=>h) am ?_);refine jW 5 [0,1,4,5,6,7] (aa 11 243) ?_;(refine jG (aa 11 247) 2 F (ay F F) ?_);refine jA 3 F ?_;(refine jO fun _=>?_);refine jS (aa 11 255) ?_;refine jT 0 [8,9,10] (aa 11 2047) ?_;refine jQ ?_))
   all_goals
    rename_i y
    refine Nx.sealC (b:=y) fun G2 hG2 hsy=>?_
    refine jZ (vs:=[_,_,_]) F ⟨F,F,F,trivial⟩ F ⟨hG2,F,?_⟩
    rw [bE]
    exact ⟨_,_,_,F,fun _=>⟨.nd 102 [110,111] 0 [],y,F,by unfold eO;rw [hy,if_neg dC,hp,if_pos rfl];rfl,.leaf 102 _ _ _ _ hsy (.inr (.inr ⟨rfl,rfl,rfl,.inr rfl⟩))⟩,fun h=>(by cases h)⟩
  | false =>
   have hn : ¬ ((([110,111] : adB).length : Nat) ≤ s.length ∧ s.take ([110,111] : adB).length = [110,111]):=fun h=>by rw [(hpf _).2 h] at hp;cases hp
   have hn' : ¬ ((((([110,111] : adB).length : Nat) : Int)) ≤ s.length ∧ s.take (((([110,111] : adB).length : Nat) : Int)).toNat = [110,111]):=fun h=>hn ⟨oM,h.2⟩
   by_cases h1' : (((([110,111] : adB).length : Nat) : Int)) ≤ s.length
   ·have h2' : ¬ s.take (((([110,111] : adB).length : Nat) : Int)).toNat = [110,111]:=fun h=>hn' ⟨h1',h⟩
    repeat' (first | refine jM ?_ | (refine jo ?_;first | refine aP F ?_ | refine jV (ak F F oM) ?_ | refine aB F ?_) | refine aG F F (ax ‹_›) ?_ | refine ac F F ?_ | refine ad F (aF ‹_›) ?_)
    exact bm 2 ⟨oM,fun _=>hy,fun _=>rfl⟩ oM tU F a7
   ·repeat' (first | refine jM ?_ | (refine jo ?_;first | refine aE F ?_ | refine jV (ak F F oM) ?_ | refine aB F ?_) | refine aw F F (aF ‹_›) ?_ | refine ac F F ?_ | refine ad F F ?_)
    exact bm 2 ⟨oM,fun _=>hy,fun _=>rfl⟩ oM tU F a7
 ·repeat' (first | refine jR ?_ | refine ad F F ?_)
  refine jZ (vs:=[_,_,_]) F ⟨F,F,F,trivial⟩ F ⟨Gh.le.refl _,F,?_⟩
  rw [bE]
  exact ⟨_,_,_,F,fun h=>(by cases h),fun _=>by unfold eO;rw [hi1 oM,if_neg dC,hi2 oM,if_neg dC]⟩
theorem r4 {u : Value} {x : cD} {s : adB} (hs : s.length ≤ 100000000) (hu : u.oneCell' = true) (hf : aT G (gm x) 4 x.2.fields.length (ah hO x.2.fields)) (hl : x.2.fields.length ≤ 1000) :
  aZ adA 138 [Ag [u],S s,Ag (j9 x)] G (fun v=>∃ n,v = Tu [Ag (hO ((co x.2.fields n).getD zF)),S (s.dropWhile br),Bo ((aN (s.takeWhile br) 200).isSome && (co x.2.fields n).isSome)] ∧ ∀ m,aN (s.takeWhile br) 200 = some m → n = m):=by
 have cx_dg:=tR (G:=G) hs
 obtain ⟨e1,e2⟩:=o7 br s
 have hwl:=eD br s
 have hlen : (s.take ((((s.takeWhile br).length : Nat) : Int)).toNat).length ≤ 100000000:=by rw [e1];omega
 simp only [j9]
 refine jE [(0,_),(1,_),(2,_)] Tryz.func138 Tryz.ntmps138 fun B hB=>?_
 repeat' (first | refine jM ?_ | (refine jo ?_;first | refine jO fun _=>?_ | refine jL fun _=>?_ | refine bM F ?_ | refine ae F F F cx_dg F ?_ | (refine ep F F F (ik oM) F ?_;rintro _ ⟨n,rfl,hnum⟩)))
 rename_i n
 have cx_fld:=tQ (G:=G) (tag:=n) hf hl
 rw [e1] at hnum
 cases hm : (aN (s.take ((((s.takeWhile br).length : Nat) : Int)).toNat) 200).isSome with
 | false =>
  repeat' (first | refine jR ?_ | (refine jo ?_;first | refine jL fun _=>?_ | refine jC F F F ?_ | refine ae F F F cx_fld F ?_) | (refine an (ec (id:=4) (tt:=6) F am ?_);refine jW 6 [1,2,3,4,5] (aa 11 62) ?_;(try (refine Nx.re (d:=34) (v':=Bo false) F (congrArg Value.bool F) ?_));refine jW 5 [6] (aa 11 126) ?_;(refine jG (aa 11 127) 0 F (bP F F F F) ?_);((refine jG (aa 11 255) 7 F (bn F F ?_) ?_;(focus ((rfl);done))));refine jA 8 F ?_;(refine jC F F F ?_);refine jK (aa 11 511) ?_;refine jW 0 [9,10] (aa 11 2047) ?_;refine jQ ?_))
  all_goals refine jZ (vs:=[_,_,_]) F ⟨aJ F F F F,F,F,trivial⟩ F ⟨F,F,?_⟩
  all_goals (rw [bE];exact ⟨n,by rw [e1] at hm;rw [hm,e2];rfl,hnum⟩)
 | true =>
  repeat' (first | refine jR ?_ | (refine jo ?_;first | refine jL fun _=>?_ | refine jC F F F ?_ | refine ae F F F cx_fld F ?_) | (refine an (ec (id:=4) (tt:=6) F am ?_);refine jW 6 [1,2,3,4,5] (aa 11 62) ?_;(try (refine Nx.re (d:=34) (v':=Bo true) F (congrArg Value.bool F) ?_));refine jW 5 [6] (aa 11 126) ?_;(refine jG (aa 11 127) 0 F (bP F F F F) ?_);((refine jG (aa 11 255) 7 F (bO F F ?_) ?_;(focus ((rfl);done))));refine jA 8 F ?_;(refine jC F F F ?_);refine jK (aa 11 511) ?_;refine jW 0 [9,10] (aa 11 2047) ?_;refine jQ ?_))
  all_goals refine jZ (vs:=[_,_,_]) F ⟨aJ F F F F,F,F,trivial⟩ F ⟨F,F,?_⟩
  all_goals (rw [bE];exact ⟨n,by rw [e1] at hm;rw [hm,e2];rfl,hnum⟩)
def iF (v : V) : Prop:=v.out.length + 1 ≤ 2 * v.tot
theorem kK : ∀ {ks : List V},(∀ v ∈ ks,iF v) → dt (V.outs ks) + ks.length ≤ 2 * V.tots ks
 | [],_=>by simp [V.outs,dt]
 | v :: r,h=>by
  have h1:=h v (.head _)
  have h2:=kK fun u hu=>h u (.tail _ hu)
  unfold iF at h1
  simp only [V.outs,dt,List.map_cons,List.sum_cons,V.tots,List.length_cons] at *
  omega
theorem gI {w : Nat} {x : adB} {t : Int} {ks : List V} (h : ∀ v ∈ ks,iF v) (ht : t ≤ 999999) : iF (.nd w x t ks):=by
 have h1:=kK h
 have h2:=gv 44 (V.outs ks)
 rw [kl] at h2
 have h4:=sO (w:=w) (x:=x) (e:=ks.isEmpty) (j:=aO 44 (V.outs ks)) ht
 have h5:=dk ks
 unfold iF
 rw [V.out,V.tot]
 omega
theorem pJ {α : Type} [Inhabited α] {l : List α} {x : α} (h : x ∈ l) : ∃ i,i < l.length ∧ ab l i = x:=by
 obtain ⟨i,hi,rfl⟩:=List.mem_iff_getElem.1 h
 exact ⟨i,hi,aI hi⟩
theorem kj {ts : List Ty} (hw : SchW ts) {k : adB} {t : Ty} (h : a8 ts k = some t) {d : Fld} (hd : d ∈ t.fields) : d.tag ≤ 999999 ∧ 0 ≤ d.tag:=by
 have:=((hw.ty t (bj h)).fld d hd).tag
 omega
theorem dW {ts : List Ty} {k : adB} {t : Ty} (h : a8 ts k = some t) : ∃ r,k = 64 :: r:=by
 unfold a8 at h
 cases k with
 | nil=>cases h
 | cons c r =>
  unfold cx at h
  dsimp only at h
  by_cases h64 : c.toNat = 64
  ·exact ⟨r,by rw [show c = 64 from UInt8.toNat_inj.1 h64]⟩
  ·rw [if_neg h64] at h;cases h
theorem lR {ts : List Ty} (hw : SchW ts) {v : V} {k : adB} {b : Nat} (h : RepR G ts v k b) : iF v:=by
 induction h with
 | leaf w x k tx b h1 h2=>exact gI (by simp) dC
 | lst k b ks bs a c h1 h2 h3 _ ih =>
  exact gI (fun v hv=>by obtain ⟨i,hi,rfl⟩:=pJ hv;exact ih i hi) dC
 | non k b h1=>exact gI (by simp) dC
 | opt k b kb b' cc v h0 h1 h2 _ ih=>exact gI (fun u hu=>by simp only [List.mem_singleton] at hu;subst hu;exact ih) dC
 | recd k b t fs bs a a2 c c2 h0 h1 h2 h3 h4 h5 _ ih =>
  refine gI (fun v hv=>?_) dC
  obtain ⟨p,hp,rfl⟩:=List.mem_map.1 hv
  obtain ⟨i,hi,rfl⟩:=pJ hp
  exact gI (fun u hu=>by simp only [List.mem_singleton] at hu;subst hu;exact ih i hi) (kj hw h0.1 (h5 i hi)).1
 | enm k b tgb t d h0 h1 h2 h3=>exact gI (by simp) (kj hw h0.1 h1).1
 | uni k b tgb kb b' cc t d v hcc h0 h1 h2 h3 h4 _ ih=>exact gI (fun u hu=>by simp only [List.mem_singleton] at hu;subst hu;exact ih) (kj hw h0.1 h1).1
theorem pL {c : UInt8} {xs : List adB} {i : Nat} (h : i < xs.length) : aO c (xs.take (i + 1)) = if 0 < i then aO c (xs.take i) ++ c :: ab xs i else ab xs i:=by
 rw [dl h]
 by_cases hi : 0 < i
 ·rw [if_pos hi,lX]
  rw [ne_eq,List.take_eq_nil_iff]
  rintro (h0 | h0)
  ·omega
  ·subst h0;simp at h
 ·have : i = 0:=oM
  subst this;rfl
theorem gc {ts : List Ty} (hw : SchW ts) {v : V} {k : adB} {b : Nat} (h : RepR G ts v k b) : v.tot ≤ 1000000000000 → aZ adA 51 [Pt b 0] G (· = S v.out):=by
 induction h with
 | leaf w x k tx b h1 h2 =>
  intro _
  rcases h2 with ⟨rfl,rfl,rfl,_⟩ | ⟨rfl,rfl,rfl⟩ | ⟨rfl,rfl,rfl,_⟩
  all_goals
   refine jE [(0,_)] Tryz.func51 Tryz.ntmps51 fun B hB=>?_
   repeat' (first | refine jX ?_ | (refine jo ?_;refine jV (aj F F aS F F) ?_) | refine ad F F ?_)
   refine jY (vs:=[_]) ?_
   rw [aR,V.out];rfl
 | lst k b ks bs a c h1 h2 h3 hk ih =>
  intro ht
  rw [bI] at ht
  have hb:=kK (ks:=ks) fun v hv=>by obtain ⟨i,hi,rfl⟩:=pJ hv;exact lR hw (hk i hi)
  have hol:=kl ks
  refine jE [(0,_)] Tryz.func51 Tryz.ntmps51 fun B hB=>?_
  repeat' (first | refine jX ?_ | (refine jo ?_;refine jV (aj F F aS F F) ?_) | refine ac F F ?_)
  refine aV (ι:=Nat) (fun i=>i ≤ ks.length) (fun i=>[(0,Pt b 0),(3,S (91 :: aO 44 ((V.outs ks).take i))),(4,I i)]) (fun _=>G) (fun i=>[]) (fun i=>ks.length - i) 0 ?_ tU F a7 (fun i Hi=>?_)
  ·exact Nat.zero_le _
  have hj1:=gv 44 ((V.outs ks).take i)
  have hj2:=fq (V.outs ks) i
  have hj3 : ((V.outs ks).take i).length ≤ ks.length:=by rw [List.length_take];omega
  by_cases hi : i < ks.length
  ·have hti:=j4 hi
   have cx_out:=ih i hi oM
   have hou:=lP hi
   have hxi : ab bs i = ab bs i:=rfl
   have hob:=lR hw (hk i hi)
   unfold iF at hob
   have hst:=pL (c:=44) (xs:=V.outs ks) (i:=i) oM
   rw [hou] at hst
   obtain ⟨kb,ko,kc,e,hs⟩:=h2.expl oM
   simp only [Value.slice.injEq] at e
   obtain ⟨rfl,-,rfl⟩:=e
   by_cases h0 : 0 < i
   ·rw [if_pos h0] at hst
    repeat' (first | refine jX ?_ | (refine jo ?_;first | refine jV (aj F F aS F F) ?_ | (refine jV (cm F F aS ?_ aS F) ?_;focus omega) | refine jV (af F) ?_ | refine jV (ak F F oM) ?_ | refine ae F F F cx_out F ?_) | refine ac F (ax oM) ?_)
    refine Nx.re (d:=3) (v':=S (91 :: aO 44 ((V.outs ks).take (i + 1)))) F (congrArg (fun l=>S l) (by rw [hst];simp)) ?_
    exact bm (i + 1) oM oM tU F a7
   ·rw [if_neg h0] at hst
    have hi0 : i = 0:=oM
    subst hi0
    repeat' (first | refine jX ?_ | (refine jo ?_;first | (refine jV (fO F F aS ?_ aS F F) ?_;focus omega) | refine jV (aj F F aS F F) ?_ | refine jV (af F) ?_ | refine jV (ak F F oM) ?_ | refine ae F F F cx_out F ?_) | refine ac F (ax oM) ?_ | refine ad F F ?_)
    refine Nx.re (d:=3) (v':=S (91 :: aO 44 ((V.outs ks).take (0 + 1)))) F (congrArg (fun l=>S l) (by rw [hst];rfl)) ?_
    exact bm (0 + 1) oM oM tU F a7
  ·have hin : i = ks.length:=oM
   subst hin
   repeat' (first | refine jX ?_ | (refine jo ?_;first | refine jV (aj F F aS F F) ?_ | refine jV (af F) ?_) | refine ad F (aF oM) ?_)
   refine jY (vs:=[_]) ?_
   rw [aR,V.out,← hol,List.take_length];rfl
 | non k b h1 =>
  intro _
  refine jE [(0,_)] Tryz.func51 Tryz.ntmps51 fun B hB=>?_
  repeat' (first | refine jX ?_ | (refine jo ?_;first | refine jV (aj F F aS F F) ?_ | refine jV (af F) ?_) | refine ac F F ?_ | refine ad F F ?_)
  refine jY (vs:=[_]) ?_
  rfl
 | opt k b kb b' cc v h0 h1 h2 h3 ih =>
  intro ht
  simp only [bI,V.tots] at ht
  have cx_out:=ih oM
  have hob:=lR hw h3
  unfold iF at hob
  refine jE [(0,_)] Tryz.func51 Tryz.ntmps51 fun B hB=>?_
  repeat' (first | refine jX ?_ | (refine jo ?_;first | refine jV (aj F F aS F F) ?_ | refine jV (af F) ?_ | refine jV (aQ F F oM) ?_ | refine ae F F F cx_out F ?_) | refine ac F F ?_ | refine ad F F ?_)
  refine jY (vs:=[_]) ?_
  rw [aR,V.out];rfl
 | recd k b t fs bs a a2 c c2 h0 h1 h2 h3 h4 h5 hk ih =>
  intro ht
  obtain ⟨r,rfl⟩:=dW h0.1
  rw [bI] at ht
  have hB1 : ∀ v ∈ fs.map (fun p : Fld × V=>V.nd 61 [] p.1.tag [p.2]),iF v:=fun v hv=>by
   obtain ⟨p,hp,rfl⟩:=List.mem_map.1 hv
   obtain ⟨i,hi,rfl⟩:=pJ hp
   exact gI (fun u hu=>by simp only [List.mem_singleton] at hu;subst hu;exact lR hw (hk i hi)) (kj hw h0.1 (h5 i hi)).1
  have hb:=kK hB1
  have hml : (fs.map (fun p : Fld × V=>V.nd 61 [] p.1.tag [p.2])).length = fs.length:=by simp
  have hol:=kl (fs.map (fun p : Fld × V=>V.nd 61 [] p.1.tag [p.2]))
  have hnt : ∀ i,i < fs.length → ab (fs.map (fun p : Fld × V=>V.nd 61 [] p.1.tag [p.2])) i = V.nd 61 [] (ab fs i).1.tag [(ab fs i).2]:=fun i hi=>by rw [aI (by simpa using hi),aI hi];simp
  generalize hKS : fs.map (fun p : Fld × V=>V.nd 61 [] p.1.tag [p.2]) = KS at *
  have cx_nmd : aZ adA 99 [Pt b 0] G (· = S (V.out (.nd 82 [] 0 KS))):=by
   refine jE [(0,_)] Tryz.func99 Tryz.ntmps99 fun B hB=>?_
   repeat' (first | refine jR ?_ | (refine jo ?_;refine jV (aj F F aS F F) ?_) | refine ad F F ?_)
   refine aV (ι:=Nat) (fun i=>i ≤ fs.length) (fun i=>[(0,Pt b 0),(3,S (123 :: aO 44 ((V.outs KS).take i))),(4,I i)]) (fun _=>G) (fun i=>[]) (fun i=>fs.length - i) 0 ?_ tU F a7 (fun i Hi=>?_)
   ·exact Nat.zero_le _
   have hj1:=gv 44 ((V.outs KS).take i)
   have hj2:=fq (V.outs KS) i
   have hj3 : ((V.outs KS).take i).length ≤ fs.length:=by rw [List.length_take];omega
   by_cases hi : i < fs.length
   ·have hti:=j4 (ks:=KS) (i:=i) oM
    rw [hnt i hi] at hti
    simp only [bI,V.tots] at hti
    have cx_out:=ih i hi oM
    have hou:=lP (ks:=KS) (i:=i) oM
    rw [hnt i hi,gh] at hou
    have hxi : ab bs i = ab bs i:=rfl
    have htg:=kj hw h0.1 (h5 i hi)
    have hdl:=gL htg.1
    have hob:=lR hw (hk i hi)
    unfold iF at hob
    have hst:=pL (c:=44) (xs:=V.outs KS) (i:=i) oM
    rw [hou] at hst
    have htn : ab (fs.map fun p : Fld × V=>p.1.tag) i = (ab fs i).1.tag:=by rw [aI (by simpa using hi),aI hi];simp
    have htl : (fs.map fun p : Fld × V=>p.1.tag).length = fs.length:=by simp
    obtain ⟨tgb,to,tc,e,hs1⟩:=h2.expl oM
    simp only [Value.slice.injEq] at e
    obtain ⟨rfl,-,rfl⟩:=e
    obtain ⟨kb,ko,kc,e,hs2⟩:=h3.expl oM
    simp only [Value.slice.injEq] at e
    obtain ⟨rfl,-,rfl⟩:=e
    by_cases hp0 : 0 < i
    ·rw [if_pos hp0] at hst
     repeat' (first | refine jX ?_ | (refine jo ?_;first | refine jV (aj F F aS F F) ?_ | refine jV (af F) ?_) | refine ac F (ax oM) ?_ | (refine an (ao (id:=12) _ (fun _ h=>h) am ?_);refine jT 12 [0,1,2,3,5,11,12,13,15] (aa 21 47151) ?_;(refine jG (aa 21 47167) 4 F (aj F F aS F F) ?_);(refine jG (aa 21 47231) 6 F (ak F F oM) ?_);((refine jG (aa 21 47359) 7 F (cm F F aS ?_ aS F) ?_;focus omega));(refine jG (aa 21 63743) 14 F (aj F F aS F F) ?_);(refine jG (aa 21 129279) 16 F (ak F F oM) ?_);((refine jG (aa 21 260351) 17 F (cm F F aS ?_ aS F) ?_;focus omega));refine jA 8 F ?_;(refine ae F F F (fQ oM) F ?_);refine jS (aa 21 260607) ?_;refine jW 3 [9,10] (aa 21 262143) ?_;refine jA 18 F ?_;(refine ae F F F cx_out F ?_);refine jS (aa 21 524287) ?_;refine jW 0 [19,20] (aa 21 2097151) ?_;refine jQ ?_))
     all_goals
      refine Nx.re (d:=3) (v':=S (123 :: aO 44 ((V.outs KS).take (i + 1)))) F (congrArg (fun l=>S l) (by rw [hst];simp)) ?_
      exact bm (i + 1) oM oM tU F a7
    ·rw [if_neg hp0] at hst
     have hi0 : i = 0:=oM
     subst hi0
     repeat' (first | refine jM ?_ | (refine jo ?_;first | refine jV (aj F F aS F F) ?_ | refine jV (af F) ?_) | refine ac F (ax oM) ?_ | refine ad F F ?_ | (refine an (ao (id:=12) _ (fun _ h=>h) am ?_);refine jT 12 [0,1,2,3,5,11,12,13,15] (aa 21 47151) ?_;(refine jG (aa 21 47167) 4 F (aj F F aS F F) ?_);(refine jG (aa 21 47231) 6 F (ak F F oM) ?_);((refine jG (aa 21 47359) 7 F (cm F F aS ?_ aS F) ?_;focus omega));(refine jG (aa 21 63743) 14 F (aj F F aS F F) ?_);(refine jG (aa 21 129279) 16 F (ak F F oM) ?_);((refine jG (aa 21 260351) 17 F (fO F F aS ?_ aS F F) ?_;focus omega));refine jA 8 F ?_;(refine ae F F F (fQ oM) F ?_);refine jS (aa 21 260607) ?_;refine jW 3 [9,10] (aa 21 262143) ?_;refine jA 18 F ?_;(refine ae F F F cx_out F ?_);refine jS (aa 21 524287) ?_;refine jW 0 [19,20] (aa 21 2097151) ?_;refine jQ ?_))
     all_goals
      refine Nx.re (d:=3) (v':=S (123 :: aO 44 ((V.outs KS).take (0 + 1)))) F (congrArg (fun l=>S l) (by rw [hst];simp [aO])) ?_
      exact bm (0 + 1) oM oM tU F a7
   ·have hin : i = fs.length:=oM
    repeat' (first | refine jX ?_ | (refine jo ?_;first | refine jV (aj F F aS F F) ?_ | refine jV (af F) ?_) | refine ad F (aF oM) ?_)
    refine jY (vs:=[_]) ?_
    rw [aR,V.out,hin,← hml,← hol,List.take_length];rfl
  refine jE [(0,_)] Tryz.func51 Tryz.ntmps51 fun B hB=>?_
  repeat' (first | refine jX ?_ | (refine jo ?_;first | refine jV (aj F F aS F F) ?_ | refine ae F F F cx_nmd F ?_) | refine ac F F ?_ | refine ad F F ?_)
  refine jY (vs:=[_]) ?_
  rfl
 | enm k b tgb t d h0 h1 h2 h3 =>
  intro _
  obtain ⟨r,rfl⟩:=dW h0.1
  have htg:=kj hw h0.1 h1
  have hdl:=gL htg.1
  have cx_nmd : aZ adA 99 [Pt b 0] G (· = S (V.out (.nd 69 [] d.tag []))):=by
   refine jE [(0,_)] Tryz.func99 Tryz.ntmps99 fun B hB=>?_
   repeat' (first | refine jX ?_ | (refine jo ?_;first | refine jV (aj F F aS F F) ?_ | refine jV (aQ F F oM) ?_ | refine ae F F F (fQ oM) F ?_) | refine ac F F ?_ | refine ad F F ?_)
   refine jY (vs:=[_]) ?_
   rw [aR,V.out];rfl
  refine jE [(0,_)] Tryz.func51 Tryz.ntmps51 fun B hB=>?_
  repeat' (first | refine jX ?_ | (refine jo ?_;first | refine jV (aj F F aS F F) ?_ | refine ae F F F cx_nmd F ?_) | refine ac F F ?_ | refine ad F F ?_)
  refine jY (vs:=[_]) ?_
  rfl
 | uni k b tgb kb b' cc t d v hcc h0 h1 h2 h3 h4 hk ih =>
  intro ht
  obtain ⟨r,rfl⟩:=dW h0.1
  have htg:=kj hw h0.1 h1
  have hdl:=gL htg.1
  simp only [bI,V.tots] at ht
  have cx_out:=ih oM
  have hob:=lR hw hk
  unfold iF at hob
  have cx_nmd : aZ adA 99 [Pt b 0] G (· = S (V.out (.nd 85 [] d.tag [v]))):=by
   refine jE [(0,_)] Tryz.func99 Tryz.ntmps99 fun B hB=>?_
   repeat' (first | refine jR ?_ | (refine jo ?_;refine jV (aj F F aS F F) ?_) | refine ac F F ?_ | (refine an (ao (id:=3) _ (fun _ h=>h) am ?_);refine jT 13 [0,1,2,9,10,11] (aa 19 3591) ?_;(refine jG (aa 19 3599) 3 F (aj F F aS F F) ?_);(refine jG (aa 19 3615) 4 F (aQ F F oM) ?_);(refine jG (aa 19 3647) 5 F (aj F F aS F F) ?_);(refine jG (aa 19 7743) 12 F (aj F F aS F F) ?_);(refine jG (aa 19 15935) 13 F (aQ F F oM) ?_);(refine jG (aa 19 32319) 14 F (aj F F aS F F) ?_);refine jA 6 F ?_;(refine ae F F F (fQ oM) F ?_);refine jS (aa 19 32383) ?_;refine jW 4 [7,8] (aa 19 32767) ?_;refine jA 15 F ?_;(refine ae F F F cx_out F ?_);refine jS (aa 19 65535) ?_;refine jW 0 [16,17,18] (aa 19 524287) ?_;refine jQ ?_))
   all_goals refine jY (vs:=[_]) ?_
   all_goals (rw [aR,V.out];simp [V.outs,c5,aO])
  clear cx_out
  refine jE [(0,_)] Tryz.func51 Tryz.ntmps51 fun B hB=>?_
  repeat' (first | refine jX ?_ | (refine jo ?_;first | refine jV (aj F F aS F F) ?_ | refine ae F F F cx_nmd F ?_) | refine ac F F ?_ | refine ad F F ?_)
  refine jY (vs:=[_]) ?_
  rfl
end Go.E
