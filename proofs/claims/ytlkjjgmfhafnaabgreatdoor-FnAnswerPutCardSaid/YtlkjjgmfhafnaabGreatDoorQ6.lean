/- Contracts and plain laws that the statement rests on, part 6. Conditions: as each says. -/
import Derived.Test.YtlkjjgmfhafnaabGreatDoorQ5
set_option linter.unusedVariables false
set_option linter.unusedSimpArgs false
namespace Go.E
set_option maxRecDepth 20000
set_option maxHeartbeats 2000000
open Go.Proofs
variable {G : Gh}
theorem aaa {ts : List Ty} {n : Nat} {k : ac8} : rd ts n k [] = none:=by
 cases h : rd ts n k [] with
 | none=>rfl
 | some x=>have:=gT h;simp at this
theorem tZ {n : Nat} {u : Value} {vs : List bS} {k s : ac8} (hc : s = [] ∨ n = 0) (hn : n ≤ 1000) : bn ac7 150 [Ag [u],S s,S k,I (n : Nat)] G (cx (ag vs) (rd (ag vs) n k s) k):=by
 have hno : rd (ag vs) n k s = none:=by
  rcases hc with rfl | rfl
  ·exact aaa
  ·rfl
 by_cases hs : s = []
 ·refine jB [(0,_),(1,_),(2,_),(3,_)] Tryz.func150 Tryz.ntmps150 fun B hok hB hW=>?_
  repeat' (first | refine jR ?_ | (refine jo ?_;first | refine jO fun _=>?_ | refine aG F ?_) | refine ax F F (ay ‹_›) ?_ | refine ac F F ?_)
  refine jZ (vs:=[_,_,_]) F ⟨F,F,F,trivial⟩ F ⟨Gh.le.refl _,F,?_⟩
  rw [aD]
  exact ⟨_,_,_,F,fun h=>(by cases h),fun _=>hno⟩
 ·have hn0 : n = 0:=by
   rcases hc with h | h
   ·exact absurd h hs
   ·exact h
  refine jB [(0,_),(1,_),(2,_),(3,_)] Tryz.func150 Tryz.ntmps150 fun B hok hB hW=>?_
  repeat' (first | refine jR ?_ | (refine jo ?_;first | refine jO fun _=>?_ | refine ar F ?_) | refine ak F F (aC ‹_›) ?_ | refine ac F (ay oM) ?_)
  refine jZ (vs:=[_,_,_]) F ⟨F,F,F,trivial⟩ F ⟨Gh.le.refl _,F,?_⟩
  rw [aD]
  exact ⟨_,_,_,F,fun h=>(by cases h),fun _=>hno⟩
theorem zi {n : Nat} {u : Value} {vs : List bS} {k s : ac8} {e : UInt8} (hR : kw n u vs) (h : SchR G u vs) (hk : aO (ag vs) (91 :: k) = true) (hs : s.length ≤ 1999999) (hn : n ≤ 999) :
  bn ac7 150 [Ag [u],S (e :: s),S (91 :: k),I (n + 1 : Nat)] G (cx (ag vs) (rd (ag vs) (n + 1) (91 :: k) (e :: s)) (91 :: k)):=by
 have hrd : rd (ag vs) (n + 1) (91 :: k) (e :: s) = eP (rd (ag vs) n k) (e :: s):=by rw [rd];exact rt F
 have he0 : bt (e :: s) (Int.toNat 0) = e.toNat:=bi e s
 have hel : (e :: s).length = s.length + 1:=rfl
 have hk0 : bt (91 :: k) (Int.toNat 0) = 91:=bi 91 k
 have hkl2 : (91 :: k).length = k.length + 1:=rfl
 by_cases h91 : e.toNat = 91
 ·obtain rfl:=bm h91 dC
  have cx_ls:=zm (s:=s) hR h (dz (.inl rfl) hk) oM oM
  refine jB [(0,_),(1,_),(2,_),(3,_)] Tryz.func150 Tryz.ntmps150 fun B hok hB hW=>?_
  repeat' (first | refine jM ?_ | (refine jo ?_;first | refine jO fun _=>?_ | refine ar F ?_) | refine ak F F F ?_ | refine ac F F ?_ | refine ad F F ?_ | (refine aj (am (id:=7) _ (fun _ h=>h) ai ?_);refine jW 8 [1,2,3,4] (aa 12 30) ?_;(refine jG (aa 12 31) 0 F (bD F F F F) ?_);refine jA 5 F ?_;(refine aK F F F cx_ls F ?_;rintro _ G hle ⟨q1,r1,ok1,rfl,hyes,hno⟩;skip);refine jS (aa 12 63) ?_;refine jT 0 [6,7,8,9,10,11] (aa 12 4095) ?_;refine jQ ?_))
  refine jZ (vs:=[_,_,_]) F ⟨F,F,F,trivial⟩ F ⟨hle,F,?_⟩
  rw [aD,hrd]
  exact ⟨_,_,_,F,hyes,hno⟩
 ·have hno : eP (rd (ag vs) n k) (e :: s) = none:=by unfold eP;dsimp only;rw [if_neg h91]
  refine jB [(0,_),(1,_),(2,_),(3,_)] Tryz.func150 Tryz.ntmps150 fun B hok hB hW=>?_
  repeat' (first | refine jM ?_ | (refine jo ?_;first | refine jO fun _=>?_ | refine ar F ?_) | refine ak F F F ?_ | (refine ac F (by first | rfl | (refine decide_eq_true ?_;(omega))) ?_) | refine ad F F ?_)
  refine jZ (vs:=[_,_,_]) F ⟨F,F,F,trivial⟩ F ⟨Gh.le.refl _,F,?_⟩
  rw [aD,hrd]
  exact ⟨_,_,_,F,fun h=>(by cases h),fun _=>hno⟩
theorem zh {n : Nat} {u : Value} {vs : List bS} {k s : ac8} {e : UInt8} (hR : kw n u vs) (h : SchR G u vs) (hk : aO (ag vs) (63 :: k) = true) (hs : s.length ≤ 1999999) (hn : n ≤ 999) :
  bn ac7 150 [Ag [u],S (e :: s),S (63 :: k),I (n + 1 : Nat)] G (cx (ag vs) (rd (ag vs) (n + 1) (63 :: k) (e :: s)) (63 :: k)):=by
 have edn : ((n + 1 : Nat) : Int) - 1 = (n : Nat):=oM
 have hrd : rd (ag vs) (n + 1) (63 :: k) (e :: s) = if e.toNat = 45 then some (.nd 63 [] 0 [],s) else if e.toNat = 43 then (rd (ag vs) n k s).map fun x=>(.nd 63 [] 0 [x.1],x.2) else none:=by
  rw [rd];unfold eJ
  dsimp only
  rw [if_neg (show ¬ (63 : UInt8).toNat = 91 by decide),if_pos (show (63 : UInt8).toNat = 63 from rfl)]
 have he0 : bt (e :: s) (Int.toNat 0) = e.toNat:=bi e s
 have hel : (e :: s).length = s.length + 1:=rfl
 have hk0 : bt (63 :: k) (Int.toNat 0) = 63:=bi 63 k
 have hkl2 : (63 :: k).length = k.length + 1:=rfl
 rw [hrd]
 by_cases h45 : e.toNat = 45
 ·rw [if_pos h45]
  refine jB [(0,_),(1,_),(2,_),(3,_)] Tryz.func150 Tryz.ntmps150 fun B hok hB hW=>?_
  repeat' (first | refine jM ?_ | (refine jo ?_;first | refine jO fun _=>?_ | refine ar F ?_) | refine ak F F F ?_ | (refine ac F (by first | rfl | (refine decide_eq_true ?_;(omega))) ?_) | refine ad F F ?_ | (refine aj (am (id:=10) _ (fun _ h=>h) ai ?_);refine jW 5 [0,3,4] (aa 8 25) ?_;(refine jG (aa 8 27) 1 F (al F F) ?_);refine jA 2 F ?_;(refine jO fun _=>?_);refine jS (aa 8 31) ?_;refine jT 0 [5,6,7] (aa 8 255) ?_;refine jQ ?_))
  rename_i y
  refine Nx.sealC (b:=y) fun G2 hG2 hsy=>?_
  refine jZ (vs:=[_,_,_]) F ⟨F,F,F,trivial⟩ F ⟨hG2,F,?_⟩
  rw [aD]
  exact ⟨_,_,_,F,fun _=>⟨_,y,F,F,.non k y hsy⟩,fun h=>(by cases h)⟩
 rw [if_neg h45]
 by_cases h43 : e.toNat = 43
 ·rw [if_pos h43]
  have cx_rd:=hR G k s h (dz (.inr rfl) hk) oM
  rw [← edn] at cx_rd
  refine jB [(0,_),(1,_),(2,_),(3,_)] Tryz.func150 Tryz.ntmps150 fun B hok hB hW=>?_
  repeat' (first | refine jM ?_ | (refine jo ?_;first | refine jO fun _=>?_ | refine ar F ?_ | refine jV (al F F) ?_ | refine jF fun _=>?_) | refine ak F F F ?_ | refine ac F F ?_ | (refine ad F (by first | rfl | (refine decide_eq_false ?_;(omega))) ?_) | (refine aj (am (id:=13) _ (fun _ h=>h) ai ?_);refine jW 9 [1,2,3,4,5,6] (aa 15 126) ?_;(refine jG (aa 15 127) 0 F (bD F F F F) ?_);refine jA 7 F ?_;(refine aK F F F cx_rd F ?_;rintro _ G hle ⟨q1,r1,ok1,rfl,hyes,hno⟩;skip);refine jS (aa 15 255) ?_;refine jT 0 [8,9,10,11,12,13,14] (aa 15 32767) ?_;refine jQ ?_))
  rename_i y1 y8
  refine Nx.sealC (b:=y1) fun G2 hG2 hs1=>?_
  refine Nx.sealC (b:=y8) fun G3 hG3 hsg=>?_
  refine jZ (vs:=[_,_,_]) F ⟨F,F,F,trivial⟩ F ⟨((hle.trans hG2).trans hG3),F,?_⟩
  rw [aD]
  refine ⟨_,_,_,F,fun hb=>?_,fun hb=>by rw [hno hb];rfl⟩
  obtain ⟨w,wb,rfl,hf,hrep⟩:=hyes hb
  exact ⟨.nd 63 [] 0 [w],y8,F,by rw [hf];rfl,.opt k y8 y1 wb 1 w (Nat.le_refl _) hsg (hs1.mono hG3) (hrep.mono (hG2.trans hG3))⟩
 ·rw [if_neg h43]
  refine jB [(0,_),(1,_),(2,_),(3,_)] Tryz.func150 Tryz.ntmps150 fun B hok hB hW=>?_
  repeat' (first | refine jM ?_ | (refine jo ?_;first | refine jO fun _=>?_ | refine ar F ?_) | refine ak F F F ?_ | (refine ac F (by first | rfl | (refine decide_eq_true ?_;(omega))) ?_) | (refine ad F (by first | rfl | (refine decide_eq_false ?_;(omega))) ?_))
  refine jZ (vs:=[_,_,_]) F ⟨F,F,F,trivial⟩ F ⟨Gh.le.refl _,F,?_⟩
  rw [aD]
  exact ⟨_,_,_,F,fun h=>(by cases h),fun _=>rfl⟩
theorem zj {n : Nat} {u : Value} {vs : List bS} {k s : ac8} {e : UInt8} {t : Ty} (hR : kw n u vs) (h : SchR G u vs) (hw : SchW (ag vs)) (hk : aO (ag vs) k = true) (hrf : a7 (ag vs) k = some t) (hs : s.length ≤ 1999999) (hn : n ≤ 999) :
  bn ac7 150 [Ag [u],S (e :: s),S k,I (n + 1 : Nat)] G (cx (ag vs) (rd (ag vs) (n + 1) k (e :: s)) k):=by
 obtain ⟨r,rfl⟩:=fp hrf
 have hkk:=cT (db hk)
 have hrd : rd (ag vs) (n + 1) (64 :: r) (e :: s) = a9 (ag vs) (rd (ag vs) n) t (e :: s):=by
  rw [rd];unfold eJ
  dsimp only
  rw [if_neg (show ¬ (64 : UInt8).toNat = 91 by decide),if_neg (show ¬ (64 : UInt8).toNat = 63 by decide),hrf]
 have hvl : vs.length ≤ 8:=by have:=hw.len;unfold ag at this;simpa using this
 have href:=dS vs (64 :: r)
 have cx_rf:=gI (k:=64 :: r) h oM hkk.1 oM
 rcases hr : dX vs (64 :: r) with _ | x
 ·rw [hr,hrf] at href;cases href
 rw [hr] at href cx_rf
 have htx : x.2 = t:=by rw [hrf] at href;exact Option.some.inj href
 subst htx
 have hx:=eF hr
 have cx_na : bn ac7 180 [Ag [u],S (e :: s),S (64 :: r),I (n + 1 : Nat)] G (cx (ag vs) (a9 (ag vs) (rd (ag vs) n) x.2 (e :: s)) (64 :: r)):=by
  have hso:=(hw.ty _ (List.mem_map_of_mem hx)).sort
  by_cases h1 : x.2.sort = 82 ∧ e.toNat = 123
  ·obtain rfl:=bm h1.2 dC
   exact aa3 hR h hw hx hrf cx_rf h1.1 hs oM oM
  by_cases h2 : x.2.sort = 69 ∧ e.toNat = 35
  ·obtain rfl:=bm h2.2 dC
   exact aa4 h hw hx hrf cx_rf h2.1 hs oM
  by_cases h3 : x.2.sort = 85 ∧ e.toNat = 60
  ·obtain rfl:=bm h3.2 dC
   exact aa2 hR h hw hx hrf cx_rf h3.1 hs oM
  refine aa1 h.sl.one cx_rf ?_ oM oM
  rcases hso with h4 | h4 | h4 <;> omega
 have hel : (e :: s).length = s.length + 1:=rfl
 have hk0 : bt (64 :: r) (Int.toNat 0) = 64:=bi 64 r
 have hkl2 : (64 :: r).length = r.length + 1:=rfl
 refine jB [(0,_),(1,_),(2,_),(3,_)] Tryz.func150 Tryz.ntmps150 fun B hok hB hW=>?_
 repeat' (first | refine jM ?_ | (refine jo ?_;first | refine jO fun _=>?_ | refine ar F ?_ | refine aB F ?_ | (refine aK F F F cx_na F ?_;rintro _ G hle ⟨q1,r1,ok1,rfl,hyes,hno⟩;skip)) | refine ak F F F ?_ | refine ac F F ?_ | refine ad F F ?_)
 refine jZ (vs:=[_,_,_]) F ⟨F,F,F,trivial⟩ F ⟨hle,F,?_⟩
 rw [aD,hrd]
 exact ⟨_,_,_,F,hyes,hno⟩
theorem zg {n : Nat} {u : Value} {vs : List bS} {s : ac8} {c e : UInt8} (hu : u.oneCell' = true) (hc : c = 110 ∨ c = 116 ∨ c = 102) (hr : a7 (ag vs) [c] = none) (hs : s.length ≤ 1999999) (hn : n ≤ 999) :
  bn ac7 150 [Ag [u],S (e :: s),S [c],I (n + 1 : Nat)] G (cx (ag vs) (rd (ag vs) (n + 1) [c] (e :: s)) [c]):=by
 have hrd:=k6 (ts:=ag vs) (n:=n) (s:=e :: s) hc hr
 have hel : (e :: s).length = s.length + 1:=rfl
 have cx_pl : bn ac7 181 [Ag [u],S (e :: s),S [c]] G (cx (ag vs) (rd (ag vs) (n + 1) [c] (e :: s)) [c]):=by
  rw [hrd]
  rcases hc with rfl | rfl | rfl
  ·rw [if_pos rfl];exact xf hu oM
  ·rw [if_neg dC,if_pos rfl];exact xe hu oM (by simp)
  ·rw [if_neg dC,if_neg dC];exact xg hu oM
 clear hrd
 rcases hc with rfl | rfl | rfl
 all_goals
  refine jB [(0,_),(1,_),(2,_),(3,_)] Tryz.func150 Tryz.ntmps150 fun B hok hB hW=>?_
  repeat' (first | refine jX ?_ | (refine jo ?_;first | refine jO fun _=>?_ | refine ar F ?_ | refine aB F ?_ | (refine aK F F F cx_pl F ?_;rintro _ G hle ⟨q1,r1,ok1,rfl,hyes,hno⟩;skip)) | refine ak F F F ?_ | refine ad F F ?_)
  refine jZ (vs:=[_,_,_]) F ⟨F,F,F,trivial⟩ F ⟨hle,F,?_⟩
  rw [aD]
  exact ⟨_,_,_,F,hyes,hno⟩
theorem j0 {u : Value} {vs : List bS} (hw : SchW (ag vs)) : ∀ n,n ≤ 1000 → kw n u vs
 | 0,_=>fun G k s _ _ _=>tZ (.inr rfl) oM
 | n + 1,hn=>fun G k s h hk hs=>by
  have hR:=j0 (u:=u) (vs:=vs) hw n oM
  match s,hs with
  | [],_=>exact tZ (.inl F) hn
  | e :: s,hs =>
   simp only [List.length_cons] at hs
   match k,hk with
   | [],hk=>cases hk
   | c :: k,hk =>
    by_cases h1 : c.toNat = 91
    ·obtain rfl:=bm h1 dC
     exact zi hR h hk oM oM
    by_cases h2 : c.toNat = 63
    ·obtain rfl:=bm h2 dC
     exact zh hR h hk oM oM
    have h91 : ¬ (c.toNat = 91 ∨ c.toNat = 63):=fun h=>by rcases h with h | h <;> omega
    cases hr : a7 (ag vs) (c :: k) with
    | some t=>exact zj hR h hw hk hr oM oM
    | none =>
     rcases eG hk h91 hr with e1 | e1 | e1
     all_goals
      simp only [List.cons.injEq] at e1
      obtain ⟨rfl,rfl⟩:=e1
      exact zg h.sl.one (by simp) hr oM oM
theorem zp {s k w : ac8} (h : s.length ≤ 1048576 ∧ k.length ≤ 1048576 ∧ w.length ≤ 1048576) (hno : ff s k w = none) : bn ac7 108 [S s,S k,S w] G (fun v _=>∃ u q,v = Tu [u,.pointer q,Bo false]):=by
 by_cases hk : bQ s k = true
 case neg =>
  have hk2 : bQ s k = false:=by simpa using hk
  have cx_lk1 : ∀ G,bn ac7 62 [S s,S k] G (fun v _=>∃ u,v = Tu [u,Bo false]):=fun G=>by
   refine (eh (G:=G) (s:=s) (k:=k) oM oM).mono ?_
   rintro v G' L' ⟨h1,h2,u,vs,rfl,_⟩
   exact ⟨h1,h2,u,by rw [hk2]⟩
  refine jB [(0,_),(1,_),(2,_)] Tryz.func108 Tryz.ntmps108 fun B hok hB hW=>?_
  repeat' (first | refine jR ?_ | (refine jo ?_;first | refine aG F ?_ | (refine aK F F F (cx_lk1 _) F ?_;rintro _ G hle ⟨u1,rfl⟩;skip)) | refine ax F F F ?_ | refine ac F F ?_)
  all_goals refine jZ (vs:=[_,_,_]) F ⟨F,F,F,trivial⟩ F ⟨hle,F,?_⟩
  all_goals exact ⟨_,_,F⟩
 obtain ⟨ts,hs,hki,hw⟩:=ik hk
 have hvo : cg ts k w = none:=by unfold ff at hno;rw [hs] at hno;dsimp only at hno;rwa [if_pos hki] at hno
 have cx_lka : ∀ G,bn ac7 62 [S s,S k] G (fun v G'=>∃ a c vs,v = Tu [.slice a vs.length c,Bo true] ∧ SchR G' (.slice a vs.length c) vs ∧ ag vs = ts):=fun G=>by
  refine (eh (G:=G) (s:=s) (k:=k) oM oM).mono ?_
  rintro v G' L' ⟨h1,h2,u,vs,rfl,h4,_,h6⟩
  obtain ⟨_,⟨rfl,h0⟩ | ⟨b,o,cap,rfl,_,_⟩⟩:=h4.sl
  ·exact ⟨h1,h2,none,0,vs,by rw [hk,h0],by rw [h0];exact h4,h6 ts hs hki⟩
  ·exact ⟨h1,h2,_,cap,vs,by rw [hk],h4,h6 ts hs hki⟩
 by_cases hl : w.length ≤ 400
 case neg =>
  refine jB [(0,_),(1,_),(2,_)] Tryz.func108 Tryz.ntmps108 fun B hok hB hW=>?_
  repeat' (first | refine jR ?_ | (refine jo ?_;first | refine ar F ?_ | (refine aK F F F (cx_lka _) F ?_;rintro _ G hle ⟨av1,cv1,vs1,rfl,hR1,hT1⟩;skip)) | refine ak F F F ?_ | refine ac F (ay oM) ?_)
  all_goals refine jZ (vs:=[_,_,_]) F ⟨F,F,F,trivial⟩ F ⟨hle,F,?_⟩
  all_goals exact ⟨_,_,F⟩
 refine jB [(0,_),(1,_),(2,_)] Tryz.func108 Tryz.ntmps108 fun B hok hB hW=>?_
 repeat' (first | refine jR ?_ | (refine jo ?_;first | refine ar F ?_ | refine jV (al F F) ?_ | (refine aK F F F (cx_lka _) F ?_;rintro _ G hle ⟨av1,cv1,vs1,rfl,hR1,hT1⟩;skip)) | refine ak F F F ?_ | refine ad F (aC oM) ?_)
 have hR:=j0 (u:=.slice av1 vs1.length cv1) (vs:=vs1) (by rw [hT1];exact hw) 12 oM G k w hR1 (by rw [hT1];exact hki) oM
 obtain ⟨f,hf⟩ : ∃ f,f = rd (ag vs1) 12 k w:=⟨_,rfl⟩
 rw [← hf] at hR
 have cx_rd:=hR
 clear hR
 repeat' (first | refine jR ?_ | (refine jo ?_;first | refine aG F ?_ | refine ar F ?_ | (refine aK F F F cx_rd F ?_;rintro _ G hle ⟨q1,r1,ok1,rfl,hyes,hno⟩;skip)) | refine jj F F (fun _=>?_) (fun _=>?_))
 all_goals rename_i hok
 ·have hr : decide (r1 = []) = false:=decide_eq_false fun h=>by
   obtain ⟨v,b,_,h2,_⟩:=hyes hok
   unfold cg at hvo
   rw [if_pos hl,← hT1,← hf,h2,h] at hvo
   cases hvo
  refine jZ (vs:=[_,_,_]) F ⟨F,F,F,trivial⟩ F ⟨(Gh.le.trans aS hle),F,?_⟩
  exact ⟨_,_,by rw [hr];rfl⟩
 ·refine jZ (vs:=[_,_,_]) F ⟨F,F,F,trivial⟩ F ⟨(Gh.le.trans aS hle),F,?_⟩
  exact ⟨_,_,F⟩
theorem zo {s k w : ac8} {v : V} {ts : List Ty} (h : s.length ≤ 1048576 ∧ k.length ≤ 1048576 ∧ w.length ≤ 1048576) (hs : aQ s = some ts) (hki : aO ts k = true) (hvo : cg ts k w = some v) :
  bn ac7 108 [S s,S k,S w] G (fun r G'=>∃ u b,r = Tu [u,Pt b 0,Bo true] ∧ RepR G' ts v k b):=by
 have hw:=cH hs
 have hk : bQ s k = true:=by unfold bQ;rw [hs];exact hki
 have hl : w.length ≤ 400:=by
  by_cases hl : w.length ≤ 400
  ·exact hl
  ·unfold cg at hvo;rw [if_neg hl] at hvo;cases hvo
 have h12 : rd ts 12 k w = some (v,[]):=by
  unfold cg at hvo
  rw [if_pos hl] at hvo
  split at hvo
  ·rename_i v' hv;rw [hv];exact congrArg (fun x=>some (x,[])) (Option.some.inj hvo)
  ·cases hvo
 have cx_lka : ∀ G,bn ac7 62 [S s,S k] G (fun v G'=>∃ a c vs,v = Tu [.slice a vs.length c,Bo true] ∧ SchR G' (.slice a vs.length c) vs ∧ ag vs = ts):=fun G=>by
  refine (eh (G:=G) (s:=s) (k:=k) oM oM).mono ?_
  rintro v G' L' ⟨h1,h2,u,vs,rfl,h4,_,h6⟩
  obtain ⟨_,⟨rfl,h0⟩ | ⟨b,o,cap,rfl,_,_⟩⟩:=h4.sl
  ·exact ⟨h1,h2,none,0,vs,by rw [hk,h0],by rw [h0];exact h4,h6 ts hs hki⟩
  ·exact ⟨h1,h2,_,cap,vs,by rw [hk],h4,h6 ts hs hki⟩
 refine jB [(0,_),(1,_),(2,_)] Tryz.func108 Tryz.ntmps108 fun B hok hB hW=>?_
 repeat' (first | refine jR ?_ | (refine jo ?_;first | refine ar F ?_ | refine jV (al F F) ?_ | (refine aK F F F (cx_lka _) F ?_;rintro _ G hle ⟨av1,cv1,vs1,rfl,hR1,hT1⟩;skip)) | refine ak F F F ?_ | refine ad F (aC oM) ?_)
 subst hT1
 have cx_rd : bn ac7 150 [Ag [.slice av1 vs1.length cv1],S w,S k,I (12 : Nat)] G (fun r G'=>∃ b,r = Tu [Pt b 0,S [],Bo true] ∧ RepR G' (ag vs1) v k b):=by
  refine (j0 (u:=.slice av1 vs1.length cv1) (vs:=vs1) hw 12 oM G k w hR1 hki oM).mono ?_
  rintro r G' L' ⟨h1,h2,q,rest,ok,rfl,h3,h4⟩
  cases ok with
  | false=>rw [h12] at h4;cases h4 rfl
  | true =>
   obtain ⟨v',b,rfl,h5,h6⟩:=h3 rfl
   rw [h12] at h5
   simp only [Option.some.injEq,Prod.mk.injEq] at h5
   obtain ⟨rfl,rfl⟩:=h5
   exact ⟨h1,h2,b,F,h6⟩
 refine jo ?_
 refine aK F F F cx_rd F ?_
 rintro _ G2 hle2 ⟨b,rfl,hrep⟩
 repeat' (first | refine jR ?_ | (refine jo ?_;refine aG F ?_) | refine ax F F F ?_)
 refine jZ (vs:=[_,_,_]) F ⟨F,F,F,trivial⟩ F ⟨(Gh.le.trans hle hle2),F,?_⟩
 exact ⟨_,b,F,hrep⟩
theorem tV {b : Nat} {l : ac8} (hm : 0 < l.length ∧ l.length ≤ 1000000000) : bM ac7 133 [Pt b 0,S l] G [.blk b (.cells (List.toArray [.pointer none,aI]) eb (0,0))]
  (fun r L'=>∃ b2 c2,r = Tu [I l.length,.nilIface] ∧ L' = [.acc (.slice (some ⟨b2,0,none⟩) l.length (c2 + 1)) gz 1 l.length (bw l),.blk b (.cells (List.toArray [Pt b 0,.slice (some ⟨b2,0,none⟩) l.length (c2 + 1)]) eb (0,0))]):=by
 refine jH [(0,_),(1,_)] Tryz.func133 Tryz.ntmps133 fun B hB hW=>?_
 repeat' (first | refine jR ?_ | (refine jo ?_;first | refine ah F ?_ | refine abj F F F oM fun _ _=>?_ | refine jD F F F ?_ | (refine af F F F yg F ?_;rintro _ _ rfl;dsimp only [zA,fA])))
 exact aP (vs:=[_,_]) F ⟨F,F,trivial⟩ F (List.Sublist.refl _) ⟨F,_,_,F,F⟩
theorem zw {b : Nat} : bM ac7 134 [Pt b 0] G [.blk b (.cells (List.toArray [.pointer none,aI]) eb (0,0))] (fun r L'=>r = S [] ∧ L' = []):=by
 refine jH [(0,_)] Tryz.func134 Tryz.ntmps134 fun B hB hW=>?_
 repeat' (first | refine jR ?_ | (refine aj (am (id:=1) _ (fun _ h=>h) ai ?_);refine jT 6 [0,1,2,5,6,7] (aa 12 231) ?_;(refine jG (aa 12 239) 3 F (aq F F F) ?_);(refine jG (aa 12 255) 4 F (yG F) ?_);(refine jG (aa 12 511) 8 F (aq F F F) ?_);(refine jG (aa 12 1023) 9 F (av F) ?_);(refine jG (aa 12 2047) 10 F (yC F F) ?_);refine jT 0 [11] (aa 12 4095) ?_;refine jQ ?_))
 refine jZ (vs:=[_]) F ⟨F,trivial⟩ F ⟨F,F,?_⟩
 rfl
def mQ (b : Nat) (q : Option (Nat × Nat)) (l : ac8) : List Own:=match q with
 | none=>[.blk b (.cells (List.toArray [.pointer none,aI]) eb (0,0))]
 | some (b2,c2)=>[.acc (.slice (some ⟨b2,0,none⟩) l.length (c2 + 1)) gz 1 l.length (bw l),.blk b (.cells (List.toArray [Pt b 0,.slice (some ⟨b2,0,none⟩) l.length (c2 + 1)]) eb (0,0))]
theorem ui {b b2 c2 : Nat} {l m : ac8} {L : List Own} : (Own.acc (.slice (some ⟨b2,0,none⟩) (l.length + m.length) (c2 + 1)) gz 1 (l.length + m.length) (bw l ++ bw m) :: .blk b (.cells (List.toArray [Pt b 0,.slice (some ⟨b2,0,none⟩) (l.length + m.length) (c2 + 1)]) eb (0,0)) :: L) =
  Own.acc (.slice (some ⟨b2,0,none⟩) (l ++ m).length (c2 + 1)) gz 1 (l ++ m).length (bw (l ++ m)) :: .blk b (.cells (List.toArray [Pt b 0,.slice (some ⟨b2,0,none⟩) (l ++ m).length (c2 + 1)]) eb (0,0)) :: L:=by
 simp [bw]
theorem iS {w : Nat} {x : ac8} {t : Int} {a : Option Addr} {k : Nat} (hw : tq w x t []) (h : w = 110 ∨ w = 116 ∨ w = 102 ∨ w = 69) (hx : x.length ≤ 100000) : an ac7 95 [Ag [U8 (w : Nat),S x,I t,.slice a ([] : List V).length k]] G (· = S (V.nd w x t []).bys):=by
 have hty:=pB hw
 unfold tq at hw
 rcases h with rfl | rfl | rfl | rfl
 ·simp only [Nat.reduceEqDiff,false_and,or_false,true_and] at hw
  obtain ⟨rfl,m,hm0,hm1,hx1,hnum0⟩:=hw
  have cx_pnB:=g9 (G:=G) (s:=x) (top:=999999) oM
  refine jE [(0,_)] Tryz.func95 Tryz.ntmps95 fun B hB=>?_
  repeat' (first | refine jR ?_ | (refine jo ?_;first | refine jO fun _=>?_ | refine ah F ?_ | (refine cN F F F (fj oM) F ?_;rintro _ ⟨n,rfl,hnum⟩)) | refine ac F F ?_)
  obtain rfl:=hnum _ hnum0
  repeat' (first | refine jR ?_ | (refine jo ?_;refine ab F F F (eB oM) F ?_))
  refine jY (vs:=[_]) ?_
  rw [aw,V.bys];simp [gj,hnum0]
 ·refine jE [(0,_)] Tryz.func95 Tryz.ntmps95 fun B hB=>?_
  repeat' (first | refine jR ?_ | (refine jo ?_;first | refine jO fun _=>?_ | refine ah F ?_ | refine ab F F F (na oM) F ?_) | refine ac F F ?_ | refine ad F F ?_)
  refine jY (vs:=[_]) ?_
  rw [aw,V.bys];rfl
 ·simp only [Nat.reduceEqDiff,false_and,or_false,true_and,false_or] at hw
  obtain ⟨rfl,rfl | rfl⟩:=hw
  all_goals
   refine jE [(0,_)] Tryz.func95 Tryz.ntmps95 fun B hB=>?_
   repeat' (first | refine jR ?_ | (refine jo ?_;first | refine jO fun _=>?_ | refine ah F ?_) | refine ac F F ?_ | refine ad F F ?_)
   refine jY (vs:=[_]) ?_
   rw [aw,V.bys];rfl
 ·have h7 : (aX t).length ≤ 3:=bx oM
  refine jE [(0,_)] Tryz.func95 Tryz.ntmps95 fun B hB=>?_
  repeat' (first | refine jR ?_ | (refine jo ?_;first | refine jO fun _=>?_ | refine ah F ?_ | refine ab F F F (eB oM) F ?_) | refine ac F F ?_ | refine ad F F ?_)
  refine jY (vs:=[_]) ?_
  rw [aw,V.bys];rfl
theorem u9 {a : Option Addr} {k : Nat} : an ac7 95 [Ag [U8 (63 : Nat),S [],I 0,.slice a ([] : List V).length k]] G (· = S (V.nd 63 [] 0 []).bys):=by
 refine jE [(0,_)] Tryz.func95 Tryz.ntmps95 fun B hB=>?_
 repeat' (first | refine jR ?_ | (refine jo ?_;first | refine jO fun _=>?_ | refine ah F ?_ | refine jV (av F) ?_) | refine ac F F ?_ | refine ad F F ?_)
 refine jY (vs:=[_]) ?_
 rw [aw,V.bys];rfl
theorem wx {w : Nat} {t : Int} {u : V} {b o k : Nat} {d : VC} (h : w = 63 ∨ w = 85 ∨ w = 61) (ht : 0 ≤ t ∧ t ≤ 200) (cx_bys : an ac7 95 [Ag (ck d)] G (· = S u.bys)) (hbl : u.bys.length ≤ 100000) (hs : b7 G b o (ck d)) :
  an ac7 95 [Ag [U8 (w : Nat),S [],I t,.slice (some ⟨b,o,none⟩) 1 k]] G (· = S (V.nd w [] t [u]).bys):=by
 have hn3:=bx (n:=t) oM
 have hn4:=bx (n:=(u.bys.length : Nat)) oM
 have e1 : (V.nd w [] t [u]).bys = gj w [] t 1 u.bys:=by rw [V.bys];simp [V.byss]
 rw [e1]
 rcases h with rfl | rfl | rfl
 all_goals
  refine jE [(0,_)] Tryz.func95 Tryz.ntmps95 fun B hB=>?_
  repeat' (first | refine jX ?_ | (refine jo ?_;first | refine jO fun _=>?_ | refine ah F ?_ | refine jV (vM F F aS F F F) ?_ | refine jV (av F) ?_ | refine jV (aN F F oM) ?_ | refine ab F F F cx_bys F ?_) | refine ac F F ?_ | refine ad F F ?_ | (refine aj (am (id:=28) _ (fun _ h=>h) ai ?_);refine jT 9 [0,3] (aa 11 9) ?_;(refine jG (aa 11 11) 1 F (aq F F F) ?_);(refine jG (aa 11 27) 4 F (aq F F F) ?_);(refine jG (aa 11 59) 5 F (aN F F oM) ?_);(refine jG (aa 11 123) 6 F (vM F F aS F F F) ?_);refine jA 2 F ?_;(refine ab F F F (eB oM) F ?_);refine jS (aa 11 127) ?_;refine jA 7 F ?_;(refine ab F F F cx_bys F ?_);refine jS (aa 11 255) ?_;refine jA 8 F ?_;(refine ab F F F (na oM) F ?_);refine jS (aa 11 511) ?_;refine jW 0 [9,10] (aa 11 2047) ?_;refine jQ ?_))
  refine jY (vs:=[_]) ?_
  rw [aw];rfl
theorem wy {ks : List V} {cs : List VC} {a : Option Addr} {k : Nat} (hk : ks.length ≤ 100000) (hcl : cs.length = ks.length) (hsl : be G (.slice a ks.length k) 4 cs.length (aE ck cs)) (hfl : (V.byss ks).flatten.length ≤ 100000)
  (ih : ∀ i,i < ks.length → an ac7 95 [Ag (ck (ae cs i))] G (· = S (ae ks i).bys) ∧ (ae ks i).bys.length ≤ 100000) :
  an ac7 95 [Ag [U8 (91 : Nat),S [],I 0,.slice a ks.length k]] G (· = S (V.nd 91 [] 0 ks).bys):=by
 have hkp:=fE ks.length
 have hk3:=bx (n:=ks.length) oM
 have hnp : 0 < (aX ks.length).length ∧ (aX ks.length).length ≤ 1000000000:=oM
 refine jE [(0,_)] Tryz.func95 Tryz.ntmps95 fun B hB=>?_
 repeat' (first | refine jR ?_ | (refine jo ?_;first | refine jO fun _=>?_ | refine ah F ?_ | refine jL fun _=>?_ | refine jV (av F) ?_ | refine ab F F F (eB oM) F ?_ | (refine af F F F (tV oM) F ?_;rintro _ _ ⟨b3,c3,rfl,rfl⟩;dsimp only [zA,fA])) | refine ac F F ?_ | refine ad F F ?_)
 rename_i bv bb
 refine aT (ι:=Nat × Nat × Nat × ac8) (fun q=>q.1 ≤ ks.length ∧ q.2.2.2 = aX (ks.length : Nat) ++ ((V.byss ks).take q.1).flatten) (fun q=>[(5,Pt bb 0),(41,.slice a ks.length k),(42,I ks.length),(43,I q.1)]) (fun _=>G) (fun q=>[.acc (.slice (some ⟨q.2.1,0,none⟩) q.2.2.2.length (q.2.2.1 + 1)) gz 1 q.2.2.2.length (bw q.2.2.2),.blk bb (.cells (List.toArray [Pt bb 0,.slice (some ⟨q.2.1,0,none⟩) q.2.2.2.length (q.2.2.1 + 1)]) eb (0,0)),.blk bv (.cells (List.toArray [U8 (91 : Nat),S [],I 0,.slice a ks.length k]) iF (0,0))]) (fun q=>ks.length - q.1) (0,b3,c3,aX (ks.length : Nat)) ?_ tU F aZ (fun q Hq=>?_)
 ·exact ⟨Nat.zero_le _,by simp⟩
 obtain ⟨i,b2,c2,l⟩:=q
 dsimp only at Hq ⊢
 obtain ⟨hi0,hl⟩:=Hq
 have hj1:=kh ks i
 have hll : l.length ≤ 200000:=by rw [hl,List.length_append];omega
 by_cases hi : i < ks.length
 ·obtain ⟨cx_bys,hbl⟩:=ih i hi
  obtain ⟨bf,of,cf,e,hs⟩:=hsl.expl oM
  simp only [Value.slice.injEq] at e
  obtain ⟨rfl,-,rfl⟩:=e
  have hm9 : l.length + (ae ks i).bys.length ≤ 1000000000:=oM
  repeat' (first | refine jM ?_ | (refine jo ?_;first | (refine jV (cM F F aS ?_) ?_;focus omega) | refine aB F ?_ | refine jL fun _=>?_ | refine jV (aA F F oM) ?_ | refine jC F F F ?_ | (refine lL F F F (pl (by (repeat (assumption));done)) rfl ?_;rintro _ _ ⟨b3,c3,rfl,rfl⟩;dsimp only [zA,fA]) | refine ab F F F cx_bys F ?_) | refine ac F (ay oM) ?_)
  rw [ui]
  exact aY (i + 1,_,_,l ++ (ae ks i).bys) ⟨by dsimp only;omega,by dsimp only;rw [hl,ki hi,List.append_assoc]⟩ (by dsimp only;omega) tU rfl sB
 ·have hin : i = ks.length:=oM
  subst hin
  rw [← hY,List.take_length] at hl
  repeat' (first | refine jR ?_ | (refine jo ?_;(refine lL F F F (sK oM) F ?_;rintro _ _ ⟨rfl,rfl⟩;dsimp only [zA,fA])) | refine ad F (aC oM) ?_)
  refine jY (vs:=[_]) ?_
  rw [aw,V.bys,hl,hY];rfl
theorem ww {ks : List V} {cs : List VC} {a : Option Addr} {k : Nat} (hk : ks.length ≤ 100000) (hcl : cs.length = ks.length) (hsl : be G (.slice a ks.length k) 4 cs.length (aE ck cs)) (hfl : (V.byss ks).flatten.length ≤ 100000)
  (ih : ∀ i,i < ks.length → an ac7 95 [Ag (ck (ae cs i))] G (· = S (ae ks i).bys) ∧ 0 < (ae ks i).bys.length ∧ (ae ks i).bys.length ≤ 100000) :
  an ac7 95 [Ag [U8 (82 : Nat),S [],I 0,.slice a ks.length k]] G (· = S (V.nd 82 [] 0 ks).bys):=by
 refine jE [(0,_)] Tryz.func95 Tryz.ntmps95 fun B hB=>?_
 repeat' (first | refine jR ?_ | (refine jo ?_;first | refine jO fun _=>?_ | refine ah F ?_ | refine jL fun _=>?_ | refine jV (av F) ?_) | refine ad F F ?_)
 rename_i bv bb
 refine aT (ι:=Nat × Option (Nat × Nat) × ac8) (fun q=>q.1 ≤ ks.length ∧ q.2.2 = ((V.byss ks).take q.1).flatten ∧ (q.2.1 = none → q.2.2 = [])) (fun q=>[(8,Pt bb 0),(83,.slice a ks.length k),(84,I ks.length),(85,I q.1)]) (fun _=>G) (fun q=>mQ bb q.2.1 q.2.2 ++ [.blk bv (.cells (List.toArray [U8 (82 : Nat),S [],I 0,.slice a ks.length k]) iF (0,0))]) (fun q=>ks.length - q.1) (0,none,[]) ?_ tU F (by dsimp only [mQ];repeat (exact List.Sublist.refl _)) (fun q Hq=>?_)
 ·exact ⟨Nat.zero_le _,by simp,fun _=>rfl⟩
 obtain ⟨i,q,l⟩:=q
 dsimp only at Hq ⊢
 obtain ⟨hi0,hl,hl0⟩:=Hq
 have hj1:=kh ks i
 have hll : l.length ≤ 200000:=by rw [hl];omega
 by_cases hi : i < ks.length
 ·obtain ⟨cx_bys,hbl⟩:=ih i hi
  obtain ⟨bf,of,cf,e,hs⟩:=hsl.expl oM
  simp only [Value.slice.injEq] at e
  obtain ⟨rfl,-,rfl⟩:=e
  have hm9 : l.length + (ae ks i).bys.length ≤ 1000000000:=oM
  have hbl0 : 0 < (ae ks i).bys.length ∧ (ae ks i).bys.length ≤ 1000000000:=oM
  have hfn:=ki hi
  rw [← hl] at hfn
  cases q with
  | none =>
   obtain rfl:=hl0 rfl
   simp only [mQ,List.cons_append,List.nil_append]
   repeat' (first | refine jM ?_ | (refine jo ?_;first | (refine jV (cM F F aS ?_) ?_;focus omega) | refine aB F ?_ | refine jL fun _=>?_ | refine jV (aA F F oM) ?_ | refine jC F F F ?_ | (refine af F F F (tV oM) F ?_;rintro _ _ ⟨b3,c3,rfl,rfl⟩;dsimp only [zA,fA]) | refine ab F F F cx_bys F ?_) | refine ac F (ay oM) ?_)
   exact aY (i + 1,some (_,_),(ae ks i).bys) ⟨by dsimp only;omega,by dsimp only;rw [hfn];rfl,fun h=>(by cases h)⟩ (by dsimp only;omega) tU rfl (by dsimp only [mQ];repeat (first | exact List.Sublist.refl _ | apply List.Sublist.cons_cons | apply List.Sublist.cons))
  | some q =>
   obtain ⟨b2,c2⟩:=q
   simp only [mQ,List.cons_append,List.nil_append]
   repeat' (first | refine jM ?_ | (refine jo ?_;first | (refine jV (cM F F aS ?_) ?_;focus omega) | refine aB F ?_ | refine jL fun _=>?_ | refine jV (aA F F oM) ?_ | refine jC F F F ?_ | (refine lL F F F (pl (by (repeat (assumption));done)) rfl ?_;rintro _ _ ⟨b3,c3,rfl,rfl⟩;dsimp only [zA,fA]) | refine ab F F F cx_bys F ?_) | refine ac F (ay oM) ?_)
   rw [ui]
   exact aY (i + 1,some (_,_),l ++ (ae ks i).bys) ⟨by dsimp only;omega,by dsimp only;rw [hfn],fun h=>(by cases h)⟩ (by dsimp only;omega) tU rfl (by dsimp only [mQ];repeat (first | exact List.Sublist.refl _ | apply List.Sublist.cons_cons | apply List.Sublist.cons))
 ·have hin : i = ks.length:=oM
  subst hin
  rw [← hY,List.take_length] at hl
  have e2 : (V.nd 82 [] 0 ks).bys = l ++ [0]:=by rw [V.bys,hl];rfl
  rw [e2]
  cases q with
  | none =>
   obtain rfl:=hl0 rfl
   simp only [mQ,List.cons_append,List.nil_append]
   repeat' (first | refine jX ?_ | (refine jo ?_;(refine af F F F zw F ?_;rintro _ _ ⟨rfl,rfl⟩;dsimp only [zA,fA])) | refine ad F (aC oM) ?_)
   refine jY (vs:=[_]) ?_
   rw [aw];rfl
  | some q =>
   obtain ⟨b2,c2⟩:=q
   simp only [mQ,List.cons_append,List.nil_append]
   repeat' (first | refine jX ?_ | (refine jo ?_;(refine lL F F F (sK oM) F ?_;rintro _ _ ⟨rfl,rfl⟩;dsimp only [zA,fA])) | refine ad F (aC oM) ?_)
   refine jY (vs:=[_]) ?_
   rw [aw]
theorem acj : ∀ (n : Nat) {v : V} {c : VC},v.tot ≤ n → v.tot ≤ 100000 → v.wf → V.rep G v c → an ac7 95 [Ag (ck c)] G (· = S v.bys):=by
 intro n
 induction n with
 | zero=>intro v c h1 _ _ _;have:=iU v;omega
 | succ n ih =>
  intro v c h1 h2 hwf h
  obtain ⟨w,x,t,ks⟩:=v
  rw [V.wf] at hwf
  obtain ⟨hwf,hwk⟩:=hwf
  have hty:=pB hwf
  rw [b6] at h1 h2
  obtain ⟨a,k,cs,rfl,hw,ht,h61,hcl,hsl,hks⟩:=mY h
  have hkl:=d9 ks
  have hfl:=iB ks hwk oM
  have hK : ∀ i,i < ks.length → an ac7 95 [Ag (ck (ae cs i))] G (· = S (ae ks i).bys) ∧ 0 < (ae ks i).bys.length ∧ (ae ks i).bys.length ≤ 100000:=fun i hi=>by
   have hti:=gl hi
   have hwi:=rg hwk hi
   have hbl:=i4 _ hwi oM
   exact ⟨ih oM oM hwi (ja hks i hi),oM,oM⟩
  have h1K : ks.length = 1 → (w = 63 ∨ w = 85 ∨ w = 61) → x = [] → an ac7 95 [Ag (ck ⟨w,x,t,a,ks.length,k⟩)] G (· = S (V.nd w x t ks).bys):=fun hk1 hw3 hx=>by
   obtain ⟨hk0,_,hk0l⟩:=hK 0 oM
   obtain ⟨bf,of,cf,e,hs⟩:=hsl.expl oM
   simp only [Value.slice.injEq] at e
   obtain ⟨rfl,-,rfl⟩:=e
   obtain ⟨u,rfl⟩:=List.length_eq_one_iff.1 hk1
   obtain ⟨d,rfl⟩:=List.length_eq_one_iff.1 (show cs.length = 1 by rw [hcl];rfl)
   subst hx
   exact wx hw3 hty hk0 hk0l hs
  rcases hwf with h7 | h7 | h7 | ⟨rfl,rfl,rfl,hk20,hk61⟩ | ⟨rfl,rfl,rfl,hk1,hk61⟩ | h7 | ⟨rfl,rfl,_,_,hk1,_⟩ | ⟨rfl,rfl,_,_,hk1,_⟩ | ⟨rfl,rfl,rfl,hpw,hka⟩
  ·obtain ⟨rfl,rfl,h8⟩:=h7
   exact iS (.inl ⟨F,F,h8⟩) (.inl F) (by dsimp only;omega)
  ·obtain ⟨rfl,rfl,h8⟩:=h7
   exact iS (.inr (.inl ⟨F,F,h8⟩)) (.inr (.inl F)) (by dsimp only;omega)
  ·obtain ⟨rfl,rfl,h8⟩:=h7
   exact iS (.inr (.inr (.inl ⟨F,F,h8⟩))) (.inr (.inr (.inl F))) (by dsimp only;omega)
  ·exact wy oM hcl hsl oM fun i hi=>⟨(hK i hi).1,(hK i hi).2.2⟩
  ·by_cases hk0 : ks.length = 0
   ·obtain rfl:=List.eq_nil_of_length_eq_zero hk0
    exact u9
   ·exact h1K oM (.inl F) F
  ·obtain ⟨rfl,rfl,h8,h9,rfl⟩:=h7
   exact iS (.inr (.inr (.inr (.inr (.inr (.inl ⟨F,F,h8,h9,F⟩)))))) (.inr (.inr (.inr F))) (by simp)
  ·exact h1K hk1 (.inr (.inl F)) F
  ·exact h1K hk1 (.inr (.inr F)) F
  ·exact ww oM hcl hsl oM fun i hi=>⟨(hK i hi).1,(hK i hi).2.1,(hK i hi).2.2⟩
theorem kU {s : ac8} (h : s.length ≤ 999999) : an ac7 39 [S s] G (· = S (aX s.length ++ s)):=by
 have hl:=bx (n:=s.length) oM
 refine jE [(0,_)] Tryz.func39 Tryz.ntmps39 fun B hB=>?_
 repeat' (first | refine jM ?_ | (refine jo ?_;refine ab F F F (dy oM) F ?_))
 refine jY (vs:=[_]) ?_
 rfl
theorem zN {x : ac8} {t : Int} {ks : List V} (h : V.wf (.nd 110 x t ks)) : ∃ m : Int,0 ≤ m ∧ m ≤ 999999 ∧ aR x 999999 = some m:=by
 rw [V.wf] at h
 have h1:=h.1
 unfold tq at h1
 simp only [Nat.reduceEqDiff,false_and,or_false,true_and] at h1
 obtain ⟨_,_,m,h2,h3,_,h4⟩:=h1
 exact ⟨m,h2,h3,h4⟩
theorem kJ {w : Nat} {x : ac8} {t : Int} {ks : List V} (h : V.wf (.nd w x t ks)) : V.wfs ks:=by rw [V.wf] at h;exact h.2
theorem wO {b cc : Nat} {v : Value} (h0 : 1 ≤ cc) (h : b7 G b 0 [v]) : be G (.slice (some ⟨b,0,none⟩) 1 cc) 1 1 [v]:=⟨rfl,.inr ⟨b,0,cc,rfl,h0,h⟩⟩
theorem yq {b tc : Nat} {v : Value} (h : b7 G b 0 [v]) : be G (.slice (some ⟨b,0,none⟩) 1 (tc + 1)) 1 1 [v]:=⟨rfl,.inr ⟨b,0,tc + 1,rfl,oM,h⟩⟩
theorem wz {r tx : ac8} {b : Nat} {tg : List Int} {bs : List Nat} {KS : List V} {a a2 : Option Addr} {c c2 m : Nat} (hm : m = KS.length) (hm9 : m ≤ 100000) (htx : tx = [82] ∨ tx = [85]) (h2 : b7 G b 0 [S (64 :: r),S tx,.slice a m c,.slice a2 m c2])
  (h3 : be G (.slice a m c) 1 m (aE gu tg)) (h4 : be G (.slice a2 m c2) 1 m (aE eK bs)) (htl : tg.length = m) (hbl : bs.length = m) (hfl : (V.byss KS).flatten.length ≤ 100000)
  (hk : ∀ i,i < m → ∃ u,ae KS i = V.nd 61 [] (ae tg i) [u] ∧ an ac7 109 [Pt (ae bs i) 0] G (· = S u.bys) ∧ u.bys.length ≤ 100000 ∧ 0 ≤ ae tg i ∧ ae tg i ≤ 999999) :
  an ac7 109 [Pt b 0] G (· = S ((V.byss KS).flatten ++ if tx = [82] then [0] else [])):=by
 refine jE [(0,_)] Tryz.func109 Tryz.ntmps109 fun B hB=>?_
 repeat' (first | refine jX ?_ | (refine jo ?_;refine jV (aL F F aS F F) ?_) | refine ad F F ?_)
 refine aT (ι:=Nat) (fun i=>i ≤ m) (fun i=>[(0,Pt b 0),(7,S (((V.byss KS).take i).flatten)),(8,I i)]) (fun _=>G) (fun i=>[]) (fun i=>m - i) 0 ?_ tU F aZ (fun i Hi=>?_)
 ·exact Nat.zero_le _
 have hj1:=kh KS i
 by_cases hi : i < m
 ·obtain ⟨u,hu1,cx_bys,hu2,hu3⟩:=hk i hi
  have hn3:=bx hu3.2
  have hn4:=bx (n:=(u.bys.length : Nat)) oM
  have hfn:=ki (ks:=KS) (i:=i) oM
  have hub : (V.nd 61 [] (ae tg i) [u]).bys = aX (ae tg i) ++ (aX u.bys.length ++ u.bys):=by rw [V.bys];simp [V.byss,gj]
  rw [hu1,hub] at hfn
  have hxt : ae tg i = ae tg i:=rfl
  have hxi : ae bs i = ae bs i:=rfl
  obtain ⟨tgb,to,tc,e,hs1⟩:=h3.expl oM
  simp only [Value.slice.injEq] at e
  obtain ⟨rfl,-,rfl⟩:=e
  obtain ⟨kb,ko,kc,e,hs2⟩:=h4.expl oM
  simp only [Value.slice.injEq] at e
  obtain ⟨rfl,-,rfl⟩:=e
  repeat' (first | refine jX ?_ | (refine jo ?_;first | refine jV (aL F F aS F F) ?_ | (refine jV (fQ F F aS ?_ aS F) ?_;focus omega) | refine jV (av F) ?_ | refine jV (aA F F oM) ?_ | refine ab F F F (dy oM) F ?_ | refine ab F F F (kU oM) F ?_ | refine ab F F F cx_bys F ?_) | refine ac F (ay oM) ?_)
  refine Nx.re (d:=7) (v':=S (((V.byss KS).take (i + 1)).flatten)) F (congrArg (fun l=>S l) ?_) ?_
  ·rw [hfn];simp
  exact aY (i + 1) oM oM tU F aZ
 ·have hin : i = KS.length:=oM
  subst hin
  have hfe : (V.byss KS).take KS.length = V.byss KS:=by rw [← hY,List.take_length]
  rw [hfe]
  rcases htx with rfl | rfl
  all_goals
   repeat' (first | refine jX ?_ | (refine jo ?_;first | refine jV (aL F F aS F F) ?_ | refine jF fun _=>?_ | refine jV (cX F F (by (repeat (first | exact BL.nil | apply BL.lit rfl));done)) ?_ | refine jV (av F) ?_) | refine ac F F ?_ | (refine ad F (by first | rfl | (refine decide_eq_false ?_;(omega))) ?_))
   refine jY (vs:=[_]) ?_
   rw [aw];first | rfl | (simp;done)
theorem wA {ts : List Ty} (hw : SchW ts) {v : V} {k : ac8} {b : Nat} (h : RepR G ts v k b) : v.wf → v.tot ≤ 100000 → an ac7 109 [Pt b 0] G (· = S v.bys):=by
 induction h with
 | leaf w x k tx b h1 h2 =>
  intro hwf ht
  rw [b6] at ht
  rcases h2 with ⟨rfl,rfl,rfl,_⟩ | ⟨rfl,rfl,rfl⟩ | ⟨rfl,rfl,rfl,rfl | rfl⟩
  ·obtain ⟨m,hm0,hm1,hnum0⟩:=zN hwf
   refine jE [(0,_)] Tryz.func109 Tryz.ntmps109 fun B hB=>?_
   repeat' (first | refine jX ?_ | (refine jo ?_;first | refine jV (aL F F aS F F) ?_ | (refine cN F F F (hO oM) F ?_;rintro _ ⟨n,rfl,hnum⟩)) | refine ac F F ?_)
   obtain rfl:=hnum _ hnum0
   repeat' (first | refine jR ?_ | (refine jo ?_;refine ab F F F (dy oM) F ?_))
   refine jY (vs:=[_]) ?_
   rw [aw,V.bys];simp [gj,hnum0]
  ·have htl : (39 :: (x ++ [39])).length = x.length + 2:=by simp
   have hdt : ∀ n : Nat,n = x.length → ((39 :: (x ++ [39])).take (1 + n)).drop 1 = x:=fun n hn=>by rw [hn,Nat.add_comm,List.take_succ_cons,List.drop_succ_cons,List.drop_zero,List.take_left]
   generalize 39 :: (x ++ [39]) = tx at *
   refine jE [(0,_)] Tryz.func109 Tryz.ntmps109 fun B hB=>?_
   repeat' (first | refine jX ?_ | (refine jo ?_;refine jV (aL F F aS F F) ?_) | refine ac F F ?_ | refine ad F F ?_ | (refine aj (am (id:=6) _ (fun _ h=>h) ai ?_);refine jT 7 [0,1,2,4,5,6] (aa 13 119) ?_;(refine jG (aa 13 127) 3 F (aL F F aS F F) ?_);(refine jG (aa 13 255) 7 F (aL F F aS F F) ?_);refine jW 2 [8,9,10] (aa 13 2047) ?_;refine jA 11 F ?_;((refine ab F F F (kU ?_) F ?_;(focus ((simp;omega);done))));refine jS (aa 13 4095) ?_;refine jT 0 [12] (aa 13 8191) ?_;refine jQ ?_))
   refine jY (vs:=[_]) ?_
   have e3 : (tx.take (((tx.length : Nat) : Int) - 1).toNat).drop (Int.toNat 1) = x:=by
    rw [show (((tx.length : Nat) : Int) - 1).toNat = 1 + x.length by omega];exact hdt _ F
   rw [aw,e3,V.bys];rfl
  ·refine jE [(0,_)] Tryz.func109 Tryz.ntmps109 fun B hB=>?_
   repeat' (first | refine jX ?_ | (refine jo ?_;first | refine jV (aL F F aS F F) ?_ | refine jF fun _=>?_ | refine jV (cX F F (by (repeat (first | exact BL.nil | apply BL.cons));done)) ?_) | refine ac F F ?_ | refine ad F F ?_)
   refine jY (vs:=[_]) ?_
   rw [aw,V.bys];rfl
  ·refine jE [(0,_)] Tryz.func109 Tryz.ntmps109 fun B hB=>?_
   repeat' (first | refine jX ?_ | (refine jo ?_;first | refine jV (aL F F aS F F) ?_ | refine jF fun _=>?_ | refine jV (cX F F (by (repeat (first | exact BL.nil | apply BL.cons));done)) ?_) | refine ac F F ?_ | refine ad F F ?_)
   refine jY (vs:=[_]) ?_
   rw [aw,V.bys];rfl
 | lst k b ks bs a c h1 h2 h3 hk ih =>
  intro hwf ht
  rw [b6] at ht
  have hwk:=kJ hwf
  have hkl:=d9 ks
  have hk3:=bx (n:=ks.length) oM
  have hfl:=iB ks hwk oM
  refine jE [(0,_)] Tryz.func109 Tryz.ntmps109 fun B hB=>?_
  repeat' (first | refine jX ?_ | (refine jo ?_;first | refine jV (aL F F aS F F) ?_ | refine jV (av F) ?_ | refine ab F F F (dy oM) F ?_) | refine ac F F ?_ | refine ad F F ?_)
  refine Nx.re (d:=5) (v':=S (aX ks.length ++ ((V.byss ks).take 0).flatten)) F (congrArg (fun l=>S l) (by simp)) ?_
  refine aT (ι:=Nat) (fun i=>i ≤ ks.length) (fun i=>[(0,Pt b 0),(5,S (aX ks.length ++ ((V.byss ks).take i).flatten)),(6,I i)]) (fun _=>G) (fun i=>[]) (fun i=>ks.length - i) 0 ?_ tU F aZ (fun i Hi=>?_)
  ·exact Nat.zero_le _
  have hj1:=kh ks i
  by_cases hi : i < ks.length
  ·have hti:=gl hi
   have hwi:=rg hwk hi
   have cx_bys:=ih i hi hwi oM
   have hbl:=i4 _ hwi oM
   have hxi : ae bs i = ae bs i:=rfl
   obtain ⟨kb,ko,kc,e,hs⟩:=h2.expl oM
   simp only [Value.slice.injEq] at e
   obtain ⟨rfl,-,rfl⟩:=e
   repeat' (first | refine jX ?_ | (refine jo ?_;first | refine jV (aL F F aS F F) ?_ | (refine jV (fQ F F aS ?_ aS F) ?_;focus omega) | refine jV (av F) ?_ | refine jV (aA F F oM) ?_ | refine ab F F F cx_bys F ?_) | refine ac F (ay oM) ?_)
   refine Nx.re (d:=5) (v':=S (aX ks.length ++ ((V.byss ks).take (i + 1)).flatten)) F (congrArg (fun l=>S l) (by rw [ki hi];simp)) ?_
   exact aY (i + 1) oM oM tU F aZ
  ·have hin : i = ks.length:=oM
   subst hin
   repeat' (first | refine jR ?_ | (refine jo ?_;first | refine jV (aL F F aS F F) ?_ | refine jV (av F) ?_) | refine ad F (aC oM) ?_)
   refine jY (vs:=[_]) ?_
   rw [aw,V.bys,← hY,List.take_length];rfl
 | non k b h1 =>
  intro _ _
  refine jE [(0,_)] Tryz.func109 Tryz.ntmps109 fun B hB=>?_
  repeat' (first | refine jX ?_ | (refine jo ?_;first | refine jV (aL F F aS F F) ?_ | refine jF fun _=>?_ | refine jV (cX F F (by (repeat (first | exact BL.nil | apply BL.lit rfl));done)) ?_ | refine jV (av F) ?_) | refine ac F F ?_ | refine ad F F ?_)
  refine jY (vs:=[_]) ?_
  rfl
 | opt k b kb b' cc v h0 h1 h2 h3 ih =>
  intro hwf ht
  simp only [b6,V.tots] at ht
  have hwv:=(kJ hwf).1
  have cx_bys:=ih hwv oM
  have hbl:=i4 _ hwv oM
  refine jE [(0,_)] Tryz.func109 Tryz.ntmps109 fun B hB=>?_
  repeat' (first | refine jX ?_ | (refine jo ?_;first | refine jV (aL F F aS F F) ?_ | refine jV (av F) ?_) | refine ac F F ?_ | refine ad F F ?_ | (refine aj (am (id:=19) _ (fun _ h=>h) ai ?_);refine jT 8 [2,3,4] (aa 11 28) ?_;(refine jG (aa 11 60) 5 F (aL F F aS F F) ?_);(refine jG (aa 11 124) 6 F (aN F F oM) ?_);(refine jG (aa 11 252) 7 F (aL F F aS F F) ?_);refine bA [0,8] kR dC ⟨?_,?_,trivial⟩;(focus (refine aM F F ?_;(refine jF fun _=>?_);refine jS (aa 11 253) ?_;((refine jG (aa 11 255) 1 F (cX F F (by (repeat (first | exact BL.nil | apply BL.lit rfl));done)) ?_));refine jA 8 F ?_;(refine ab F F F cx_bys F ?_);refine jS (aa 11 511) ?_;refine jW 0 [9,10] (aa 11 2047) ?_;refine jQ ?_));rotate_left 1;(focus (refine aM F F ?_;(refine ab F F F cx_bys F ?_);refine jS (aa 11 508) ?_;refine jA 0 F ?_;(refine jF fun _=>?_);refine jS (aa 11 509) ?_;((refine jG (aa 11 511) 1 F (cX F F (by (repeat (first | exact BL.nil | apply BL.lit rfl));done)) ?_));refine jW 0 [9,10] (aa 11 2047) ?_;refine jQ ?_));rotate_left 1))
  all_goals refine jY (vs:=[_]) ?_
  all_goals (rw [aw,V.bys];simp [gj,V.byss];rfl)
 | recd k b t fs bs a a2 c c2 h0 h1 h2 h3 h4 h5 hk ih =>
  intro hwf ht
  obtain ⟨r,rfl⟩:=fp h0.1
  rw [b6] at ht
  have hwk:=kJ hwf
  have hml : (fs.map (fun p : Fld × V=>V.nd 61 [] p.1.tag [p.2])).length = fs.length:=by simp
  have hnt : ∀ i,i < fs.length → ae (fs.map (fun p : Fld × V=>V.nd 61 [] p.1.tag [p.2])) i = V.nd 61 [] (ae fs i).1.tag [(ae fs i).2]:=fun i hi=>by rw [aW (by simpa using hi),aW hi];simp
  generalize hKS : fs.map (fun p : Fld × V=>V.nd 61 [] p.1.tag [p.2]) = KS at *
  have hfl:=iB KS hwk oM
  refine (wz (tx:=[82]) (KS:=KS) hml.symm (by have:=d9 KS;omega) (.inl rfl) h1 h2 h3 (by simp) h4 oM fun i hi=>?_).mono fun v _ _ hv=>?_
  ·have hti:=gl (ks:=KS) (i:=i) oM
   have hwi:=rg hwk (i:=i) oM
   rw [hnt i hi] at hti hwi
   simp only [b6,V.tots] at hti
   have hwv:=(kJ hwi).1
   have hbl:=i4 _ hwv oM
   have htn : ae (fs.map fun p : Fld × V=>p.1.tag) i = (ae fs i).1.tag:=by rw [aW (by simpa using hi),aW hi];simp
   exact ⟨(ae fs i).2,by rw [hnt i hi,htn],ih i hi hwv oM,oM,by rw [htn];exact (fY hw h0.1 (h5 i hi)).symm⟩
  ·obtain ⟨g1,g2,hv⟩:=hv;exact ⟨g1,g2,by rw [hv,V.bys];rfl⟩
 | enm k b tgb t d h0 h1 h2 h3 =>
  intro _ _
  obtain ⟨r,rfl⟩:=fp h0.1
  have htg:=fY hw h0.1 h1
  have hn3:=bx (n:=d.tag) oM
  refine jE [(0,_)] Tryz.func109 Tryz.ntmps109 fun B hB=>?_
  repeat' (first | refine jX ?_ | (refine jo ?_;refine jV (aL F F aS F F) ?_) | refine ad F F ?_)
  refine Nx.re (d:=7) (v':=S ((aX d.tag).take (0 * (aX d.tag).length))) F (congrArg (fun l=>S l) (by simp)) ?_
  refine aT (ι:=Nat) (fun i=>i ≤ 1) (fun i=>[(0,Pt b 0),(7,S ((aX d.tag).take (i * (aX d.tag).length))),(8,I i)]) (fun _=>G) (fun i=>[]) (fun i=>1 - i) 0 ?_ tU F aZ (fun i Hi=>?_)
  ·exact Nat.zero_le _
  have hi2 : i = 0 ∨ i = 1:=oM
  rcases hi2 with rfl | rfl
  ·rw [Nat.zero_mul,List.take_zero]
   repeat' (first | refine jX ?_ | (refine jo ?_;first | refine jV (aL F F aS F F) ?_ | refine jV (av F) ?_ | refine jV (aA F F oM) ?_ | refine ab F F F (dy oM) F ?_) | refine ac F F ?_ | refine ad F F ?_)
   refine Nx.re (d:=7) (v':=S ((aX d.tag).take (1 * (aX d.tag).length))) F (congrArg (fun l=>S l) (by simp)) ?_
   exact aY 1 oM oM tU F aZ
  ·rw [Nat.one_mul,List.take_length]
   repeat' (first | refine jR ?_ | (refine jo ?_;first | refine jV (aL F F aS F F) ?_ | refine jV (av F) ?_) | refine ad F F ?_)
   refine jY (vs:=[_]) ?_
   rw [aw,V.bys];rfl
 | uni k b tgb kb b' cc t d v hcc h0 h1 h2 h3 h4 hk ih =>
  intro hwf ht
  obtain ⟨r,rfl⟩:=fp h0.1
  have htg:=fY hw h0.1 h1
  simp only [b6,V.tots] at ht
  have hwv:=(kJ hwf).1
  have hbl:=i4 _ hwv oM
  have hn3:=bx (n:=d.tag) oM
  have hn4:=bx (n:=(v.bys.length : Nat)) oM
  have hub : (V.nd 61 [] d.tag [v]).bys = aX d.tag ++ (aX v.bys.length ++ v.bys):=by rw [V.bys];simp [V.byss,gj]
  refine (wz (tx:=[85]) (KS:=[V.nd 61 [] d.tag [v]]) (tg:=[d.tag]) (bs:=[b']) F (by simp) (.inr F) h2 (yq h3) (wO hcc h4) F F ?_ fun i hi=>?_).mono fun u _ _ hu=>?_
  ·simp only [V.byss,List.flatten_cons,List.flatten_nil,List.append_nil,hub,List.length_append];omega
  ·have : i = 0:=by have h9 : i < 1:=hi;omega
   subst this
   exact ⟨v,F,ih hwv oM,oM,htg.symm⟩
  ·obtain ⟨g1,g2,hu⟩:=hu;exact ⟨g1,g2,by rw [hu,V.bys];simp [V.byss,gj,hub]⟩
def c6 (s k w : ac8) : Option ac8:=match ff s k w with
 | some u=>if u.bys.length ≤ 600 then some u.bys else none
 | none=>none
theorem lQ {s k w b : ac8} (h : c6 s k w = some b) : b.length ≤ 600:=by
 unfold c6 at h
 split at h
 ·split at h
  ·simp only [Option.some.injEq] at h;subst h;assumption
  ·cases h
 ·cases h
theorem lq {s k w : ac8} {u : V} (hg : ff s k w = some u) : ∃ ts,aQ s = some ts ∧ aO ts k = true ∧ cg ts k w = some u ∧ u.tot ≤ 40000 ∧ u.wf:=by
 obtain ⟨ts,hs,hki,hvo⟩ : ∃ ts,aQ s = some ts ∧ aO ts k = true ∧ cg ts k w = some u:=by
  unfold ff at hg
  cases hs : aQ s with
  | none=>rw [hs] at hg;cases hg
  | some ts =>
   rw [hs] at hg
   dsimp only at hg
   by_cases hk : aO ts k = true
   ·rw [if_pos hk] at hg;exact ⟨ts,F,hk,hg⟩
   ·rw [if_neg hk] at hg;cases hg
 refine ⟨ts,hs,hki,hvo,?_,(rh hvo).1⟩
 unfold cg at hvo
 split at hvo
 ·split at hvo
  ·rename_i v hv
   obtain rfl:=Option.some.inj hvo
   have:=jc _ _ _ _ hv
   dsimp only at this;omega
  ·cases hvo
 ·cases hvo
theorem qQ {c : VC} {b : ac8} (cx_bys : an ac7 95 [Ag (ck c)] G (· = S b)) : an ac7 57 [Ag (ck c)] G (· = Tu [S (if b.length ≤ 600 then b else []),Bo (decide (b.length ≤ 600))]):=by
 simp only [ck,VC.sl] at *
 by_cases h6 : b.length ≤ 600
 ·rw [if_pos h6,decide_eq_true h6]
  refine jE [(0,_)] Tryz.func57 Tryz.ntmps57 fun B hB=>?_
  repeat' (first | refine jR ?_ | (refine jo ?_;first | refine jO fun _=>?_ | refine aB F ?_ | refine ab F F F cx_bys F ?_) | refine ad F (aC oM) ?_)
  all_goals refine jY (vs:=[_,_]) ?_
  all_goals rfl
 ·rw [if_neg h6,decide_eq_false h6]
  refine jE [(0,_)] Tryz.func57 Tryz.ntmps57 fun B hB=>?_
  repeat' (first | refine jR ?_ | (refine jo ?_;first | refine jO fun _=>?_ | refine aB F ?_ | refine ab F F F cx_bys F ?_) | refine ac F (ay oM) ?_)
  all_goals refine jY (vs:=[_,_]) ?_
  all_goals rfl
theorem kH {s k w : ac8} (h : s.length ≤ 1048576 ∧ k.length ≤ 1048576 ∧ w.length ≤ 1048576) : an ac7 24 [S s,S k,S w] G (· = Tu [S ((c6 s k w).getD []),Bo (c6 s k w).isSome]):=by
 unfold c6
 cases hg : ff s k w with
 | none =>
  have cx_gi0:=xl (G:=G) h hg
  refine jB (Post:=fun v G' L'=>G' = G ∧ L' = [] ∧ _) [(0,_),(1,_),(2,_)] Tryz.func24 Tryz.ntmps24 fun B hok hB hW=>?_
  repeat' (first | refine jR ?_ | (refine jo ?_;first | refine jL fun _=>?_ | refine jC F F F ?_ | (refine aK F F F cx_gi0 F ?_;rintro _ G hle ⟨p1,a1,b1,c1,rfl⟩;skip)) | refine ac F F ?_)
  all_goals refine Nx.base hok hB ?_
  all_goals refine jY (vs:=[_,_]) ?_
  all_goals rfl
 | some u =>
  obtain ⟨ts,hs,hki,hvo,hto,hwf⟩:=lq hg
  have cx_gi1:=xk (G:=G) h hs hki hvo
  dsimp only
  have cy_bys : ∀ {G : Gh} {c : VC},V.rep G u c → an ac7 95 [Ag (ck c)] G (· = S u.bys):=fun h=>acj u.tot (Nat.le_refl _) oM hwf h
  generalize u.bys = ub at *
  by_cases h6 : ub.length ≤ 600
  ·rw [if_pos h6]
   refine jB (Post:=fun v G' L'=>G' = G ∧ L' = [] ∧ _) [(0,_),(1,_),(2,_)] Tryz.func24 Tryz.ntmps24 fun B hok hB hW=>?_
   repeat' (first | refine jR ?_ | (refine jo ?_;first | refine jL fun _=>?_ | refine jC F F F ?_ | refine aB F ?_ | (refine aK F F F cx_gi1 F ?_;rintro _ G hle ⟨bg,qg,cv,rfl,hTg,hRg,hrv⟩;skip)) | refine ad F F ?_)
   have cx_tb:=qQ (G:=G) (cy_bys hrv)
   rw [if_pos h6,decide_eq_true h6] at cx_tb
   repeat' (first | refine jR ?_ | (refine jo ?_;refine ab F F F cx_tb F ?_))
   all_goals refine Nx.base hok hB ?_
   all_goals refine jY (vs:=[_,_]) ?_
   all_goals rfl
  ·rw [if_neg h6]
   refine jB (Post:=fun v G' L'=>G' = G ∧ L' = [] ∧ _) [(0,_),(1,_),(2,_)] Tryz.func24 Tryz.ntmps24 fun B hok hB hW=>?_
   repeat' (first | refine jR ?_ | (refine jo ?_;first | refine jL fun _=>?_ | refine jC F F F ?_ | refine aB F ?_ | (refine aK F F F cx_gi1 F ?_;rintro _ G hle ⟨bg,qg,cv,rfl,hTg,hRg,hrv⟩;skip)) | refine ad F F ?_)
   have cx_tb:=qQ (G:=G) (cy_bys hrv)
   rw [if_neg h6,decide_eq_false h6] at cx_tb
   repeat' (first | refine jR ?_ | (refine jo ?_;refine ab F F F cx_tb F ?_))
   all_goals refine Nx.base hok hB ?_
   all_goals refine jY (vs:=[_,_]) ?_
   all_goals rfl
theorem sS {s k w : ac8} (h : s.length ≤ 1048576 ∧ k.length ≤ 1048576 ∧ w.length ≤ 1048576) (hg : ff s k w = none) : an ac7 71 [S s,S k,S w] G (· = Tu [S [],Bo false]):=by
 have cx_l40:=zp (G:=G) h hg
 refine jB (Post:=fun v G' L'=>G' = G ∧ L' = [] ∧ _) [(0,_),(1,_),(2,_)] Tryz.func71 Tryz.ntmps71 fun B hok hB hW=>?_
 repeat' (first | refine jR ?_ | (refine jo ?_;first | refine aG F ?_ | (refine aK F F F cx_l40 F ?_;rintro _ G hle ⟨uu,q1,rfl⟩;skip)) | refine ax F F F ?_ | refine ac F F ?_)
 all_goals refine Nx.base hok hB ?_
 all_goals refine jY (vs:=[_,_]) ?_
 all_goals rfl
theorem sR {s k w : ac8} {ub : ac8} (cx_l4 : bn ac7 108 [S s,S k,S w] G (fun r G'=>∃ u b,r = Tu [u,Pt b 0,Bo true] ∧ an ac7 109 [Pt b 0] G' (· = S ub))) : an ac7 71 [S s,S k,S w] G (· = Tu [S (if ub.length ≤ 600 then ub else []),Bo (decide (ub.length ≤ 600))]):=by
 by_cases h6 : ub.length ≤ 600
 ·rw [if_pos h6,decide_eq_true h6]
  refine jB (Post:=fun v G' L'=>G' = G ∧ L' = [] ∧ _) [(0,_),(1,_),(2,_)] Tryz.func71 Tryz.ntmps71 fun B hok hB hW=>?_
  repeat' (first | refine jR ?_ | (refine jo ?_;first | refine ar F ?_ | (refine aK F F F cx_l4 F ?_;rintro _ G hle ⟨uu,q1,rfl,hyes⟩;skip) | refine ab F F F hyes F ?_) | refine ak F F F ?_ | refine ad F (aC oM) ?_)
  all_goals refine Nx.base hok hB ?_
  all_goals refine jZ (vs:=[_,_]) F ⟨F,F,trivial⟩ F ⟨F,F,?_⟩
  all_goals rfl
 ·rw [if_neg h6,decide_eq_false h6]
  refine jB (Post:=fun v G' L'=>G' = G ∧ L' = [] ∧ _) [(0,_),(1,_),(2,_)] Tryz.func71 Tryz.ntmps71 fun B hok hB hW=>?_
  repeat' (first | refine jR ?_ | (refine jo ?_;first | refine ar F ?_ | (refine aK F F F cx_l4 F ?_;rintro _ G hle ⟨uu,q1,rfl,hyes⟩;skip) | refine ab F F F hyes F ?_) | refine ak F F F ?_ | refine ac F (ay oM) ?_)
  all_goals refine Nx.base hok hB ?_
  all_goals refine jZ (vs:=[_,_]) F ⟨F,F,trivial⟩ F ⟨F,F,?_⟩
  all_goals rfl
theorem tj {s k w : ac8} (h : s.length ≤ 1048576 ∧ k.length ≤ 1048576 ∧ w.length ≤ 1048576) : an ac7 71 [S s,S k,S w] G (· = Tu [S ((c6 s k w).getD []),Bo (c6 s k w).isSome]):=by
 unfold c6
 cases hg : ff s k w with
 | none=>exact sS h hg
 | some u =>
  obtain ⟨ts,hs,hki,hvo,hto,hwf⟩:=lq hg
  have h1:=sR (ub:=u.bys) ((zo (G:=G) h hs hki hvo).mono (by
   rintro r G' L' ⟨g1,g2,v,b,g3,g4⟩
   exact ⟨g1,g2,v,b,g3,wA (cH hs) g4 hwf oM⟩))
  dsimp only
  split
  ·rename_i h6;rw [if_pos h6,decide_eq_true h6] at h1;exact h1
  ·rename_i h6;rw [if_neg h6,decide_eq_false h6] at h1;exact h1
theorem sx {u : Value} {vs : List bS} (hw : SchW (ag vs)) (h : SchR G u vs) {k s : ac8} (hki : aO (ag vs) k = true) :
  bn ac7 155 [u,S k,S s] G (fun r _=>r = Tu [S (if (cg (ag vs) k s).isSome = true then s else []),Bo (cg (ag vs) k s).isSome]):=by
 obtain ⟨ua,uc,rfl⟩:=h.sl.sl
 by_cases hl : s.length ≤ 400
 ·have cx_rd:=j0 (u:=.slice ua vs.length uc) (vs:=vs) hw 12 oM G k s h hki oM
  have hvo : cg (ag vs) k s = match rd (ag vs) 12 k s with
   | some (v,[])=>some v
   | _=>none:=by
   unfold cg;rw [if_pos hl]
   all_goals (rcases rd (ag vs) 12 k s with _ | ⟨v,_ | _⟩ <;> rfl)
  refine jB [(0,_),(1,_),(2,_)] Tryz.func155 Tryz.ntmps155 fun B hok hB hW=>?_
  repeat' (first | refine jR ?_ | (refine jo ?_;first | refine jV (al F F) ?_ | refine aG F ?_ | refine ar F ?_ | (refine aK F F F cx_rd F ?_;rintro _ G hle ⟨q1,r1,ok1,rfl,hyes,hno⟩;skip)) | refine jj F F (fun _=>?_) (fun _=>?_) | refine ac F F ?_ | refine ad F (aC oM) ?_ | refine cB F (fun _=>?_) (fun _=>?_))
  all_goals refine jZ (vs:=[_,_]) F ⟨F,F,trivial⟩ F ⟨hle,F,?_⟩
  ·rename_i hz
   rw [hno (by simpa using hz)] at hvo
   rw [hvo];rfl
  ·rename_i hz hr
   obtain ⟨w,b,rfl,hf,hrep⟩:=hyes (by simpa using hz)
   rw [hf] at hvo
   have hvo2 : cg (ag vs) k s = none:=by
    rw [hvo]
    cases r1 with
    | nil=>exact absurd F hr
    | cons c r=>rfl
   rw [hvo2];rfl
  ·rename_i hz hr
   obtain ⟨w,b,rfl,hf,hrep⟩:=hyes (by simpa using hz)
   obtain rfl : r1 = []:=by simpa using hr
   rw [hf] at hvo
   rw [hvo];rfl
 ·have hvo : cg (ag vs) k s = none:=by unfold cg;rw [if_neg hl]
  rw [hvo]
  refine jB [(0,_),(1,_),(2,_)] Tryz.func155 Tryz.ntmps155 fun B hok hB hW=>?_
  repeat' (first | refine jR ?_ | refine ac F (ay oM) ?_)
  all_goals refine jZ (vs:=[_,_]) F ⟨F,F,trivial⟩ F ⟨Gh.le.refl _,F,?_⟩
  all_goals rfl
def kM (o : Option ac8) : Value:=Tu [S (o.getD []),Bo o.isSome]
def JF (s : ac8) (xs : List ac8) (j : Nat) (t : ac8) : Prop:=(j = 0 → s = (xs.map frame).flatten ++ t ∧ ∀ x ∈ xs,x.length ≤ 100) ∧ (∀ b,b.length ≤ 100 → s = frame b → xs = [b] ∧ j = 0 ∧ t = [])
def JL (s : ac8) (xs : List ac8) (j : Nat) (t : ac8) : Prop:=(j = 0 → s = (xs.map frame).flatten ++ t ∧ ∀ x ∈ xs,x.length ≤ 100) ∧ (∀ b,b.length ≤ 100 → s = frame b → (xs = [] ∧ j = 0 ∧ t = s) ∨ (xs = [b] ∧ j = 0 ∧ t = []))
theorem rS {b : ac8} : frame b ≠ []:=by unfold frame;simp
theorem JL.hit {s tx rs t : ac8} {xs : List ac8} {j : Nat} (h : JL s xs j t) (hl : tx.length ≤ 100) (ht : t = frame tx ++ rs) : JL s (xs ++ [tx]) j rs:=by
 refine ⟨fun hj=>?_,fun b hb e=>?_⟩
 ·obtain ⟨h1,h2⟩:=h.1 hj
  refine ⟨?_,fun x hx=>?_⟩
  ·rw [h1,ht,List.map_append,List.flatten_append];simp
  ·rcases List.mem_append.1 hx with hx | hx
   ·exact h2 x hx
   ·simp only [List.mem_singleton] at hx;subst hx;exact hl
 ·rcases h.2 b hb e with ⟨h1,h2,h3⟩ | ⟨h1,h2,h3⟩
  ·have e2 : frame tx ++ rs = frame b ++ []:=by rw [← ht,h3,e,List.append_nil]
   obtain ⟨rfl,rfl⟩:=vR hl hb e2
   exact .inr ⟨by rw [h1];rfl,h2,rfl⟩
  ·rw [h3] at ht
   exact absurd ht.symm (by unfold frame;simp)
theorem JL.miss {s t : ac8} {xs : List ac8} {j : Nat} (h : JL s xs j t) (ht : t ≠ []) (hno : ∀ b r,b.length ≤ 100 → t ≠ frame b ++ r) : ∀ b,b.length ≤ 100 → s ≠ frame b:=fun b hb e=>by
 rcases h.2 b hb e with ⟨h1,h2,h3⟩ | ⟨h1,h2,h3⟩
 ·exact hno b [] hb (by rw [h3,e,List.append_nil])
 ·exact ht h3
theorem JL.junk {s t' : ac8} {xs : List ac8} {j : Nat} (h : ∀ b,b.length ≤ 100 → s ≠ frame b) : JL s xs (j + 1) t':=⟨fun h=>absurd h oM,fun b hb e=>absurd e (h b hb)⟩
theorem JF.of {s t : ac8} {xs : List ac8} {j : Nat} (h : JL s xs j t) (h2 : ∀ b,b.length ≤ 100 → s ≠ frame b) : JF s xs j t:=⟨h.1,fun b hb e=>absurd e (h2 b hb)⟩
theorem JF.fin {s : ac8} {xs : List ac8} {j : Nat} (h : JL s xs j []) : JF s xs j []:=⟨h.1,fun b hb e=>by
 rcases h.2 b hb e with ⟨_,_,h3⟩ | h3
 ·rw [e] at h3;exact absurd h3.symm rS
 ·exact h3⟩
theorem JF.bad {s t : ac8} {xs : List ac8} {j : Nat} (h : JF s xs j t) (hj : em s = none) : 0 < j ∨ t ≠ [] ∨ xs.length ≠ 1:=by
 by_cases h0 : 0 < j
 ·exact .inl h0
 by_cases h1 : t = []
 ·refine .inr (.inr fun hx=>?_)
  obtain ⟨b,rfl⟩:=List.length_eq_one_iff.1 hx
  obtain ⟨e,hb⟩:=h.1 oM
  have hb:=hb b (by simp)
  have : em s = some b:=gh.2 ⟨hb,by rw [e,h1];simp⟩
  rw [hj] at this;cases this
 ·exact .inr (.inl h1)
abbrev q8 : TypeId:=9
theorem t6 {s : ac8} (hs : s.length ≤ 2000) : bM ac7 112 [S s] G [] (fun v L'=>∃ u j t xs,v = Tu [u,I (j : Nat),S t] ∧ L' = [.acc u q8 1 xs.length (iG xs)] ∧ qW u xs.length ∧ JF s xs j t):=by
 refine jH [(0,_)] Tryz.func112 Tryz.ntmps112 fun B hB hW=>?_
 repeat' (first | refine jR ?_ | (refine jo ?_;refine jF fun _=>?_))
 rename_i y
 refine Nx.blkAcc (m:=0) (sz:=1) .here F ?_
 refine aT (ι:=Value × List ac8 × Nat × ac8) (fun i=>i.2.1.length + i.2.2.1 + i.2.2.2.length ≤ 2000 ∧ JL s i.2.1 i.2.2.1 i.2.2.2) (fun i=>[(0,S i.2.2.2),(5,i.1),(6,I i.2.2.1)]) (fun _=>G) (fun i=>[.acc i.1 q8 1 i.2.1.length (iG i.2.1)]) (fun i=>i.2.2.2.length) (.slice (some ⟨y,0,none⟩) 0 0,[],0,s) ?_ tU F aZ (fun i hI=>?_)
 ·exact ⟨by dsimp only;simp only [List.length_nil];omega,fun _=>⟨rfl,fun x hx=>by cases hx⟩,fun b hb e=>.inl ⟨rfl,rfl,rfl⟩⟩
 obtain ⟨u,xs,j,t⟩:=i
 dsimp only at hI ⊢
 obtain ⟨hle,hJ⟩:=hI
 by_cases ht : t = []
 ·subst ht
  repeat' (first | refine jR ?_ | refine ad F F ?_)
  all_goals exact Nx.shp (.head _) fun hsh=>aP (vs:=[_,_,_]) F ⟨F,F,F,trivial⟩ F (List.Sublist.refl _) ⟨F,u,j,[],xs,F,F,hsh,JF.fin hJ⟩
 ·have hpos:=List.length_pos_iff.2 ht
  have cx_hd:=xh (G:=G) ht oM
  repeat' (first | refine jM ?_ | (refine jo ?_;first | refine jF fun _=>?_ | refine ng F F F F F F F F oM fun _=>?_ | (refine cN F F F cx_hd F ?_;rintro _ ⟨tx1,rs1,ok1,gr1,rfl,hH⟩)) | refine ac F (ay ‹_›) ?_ | refine gX F (fun _=>?_) (fun _=>?_))
  ·obtain ⟨h1,h2⟩:=hH.1 aS
   have h3:=congrArg List.length h2
   have h4:=List.length_pos_iff.2 (rS (b:=tx1))
   simp only [List.length_append] at h3
   refine aY (_,xs ++ [tx1],j,rs1) ⟨by dsimp only;simp only [List.length_append,List.length_cons,List.length_nil];omega,hJ.hit h1 h2⟩ (by dsimp only;omega) tU rfl (by dsimp only;simp only [jP,List.length_append,List.length_cons,List.length_nil,Nat.zero_add];repeat (first | exact List.nil_sublist _ | apply List.Sublist.cons_cons))
  ·have hno:=hJ.miss ht (hH.2 aS)
   exact Nx.shp (.head _) fun hsh=>aP (vs:=[_,_,_]) F ⟨F,F,F,trivial⟩ F (List.Sublist.refl _) ⟨F,u,j,t,xs,F,F,hsh,JF.of hJ hno⟩
  ·have hno:=hJ.miss ht (hH.2 aS)
   refine aY (u,xs,j + 1,t.drop 1) ⟨by dsimp only;simp only [List.length_drop];omega,JL.junk hno⟩ (by dsimp only;simp only [List.length_drop];omega) tU rfl aZ
theorem abl {s : ac8} (hs : s.length ≤ 1048576) (hj : em s = none) : bM ac7 77 [S s] G [] (fun v L'=>∃ u j t xs ok,v = Tu [u,I (j : Nat),S t,Bo ok] ∧ L' = [.acc u q8 1 xs.length (iG xs)] ∧ (ok = false ∨ 0 < j ∨ t ≠ [] ∨ xs.length ≠ 1)):=by
 by_cases h : s.length ≤ 2000
 ·have cx_lg:=t6 (G:=G) h
  refine jH [(0,_)] Tryz.func77 Tryz.ntmps77 fun B hB hW=>?_
  repeat' (first | refine jR ?_ | (refine jo ?_;(refine dl F F F cx_lg F ?_;rintro _ _ ⟨ub,j1,t1,xs1,rfl,rfl,hsh1,hJ1⟩;dsimp only [zA,fA])) | refine ad F (aC oM) ?_)
  all_goals exact aP (vs:=[_,_,_,_]) F ⟨F,F,F,F,trivial⟩ F (List.Sublist.refl _) ⟨F,ub,j1,t1,xs1,true,F,F,.inr (hJ1.bad hj)⟩
 ·refine jH [(0,_)] Tryz.func77 Tryz.ntmps77 fun B hB hW=>?_
  repeat' (first | refine jR ?_ | (refine jo ?_;refine jF fun _=>?_) | refine ac F (ay oM) ?_)
  rename_i y
  refine Nx.blkAcc (m:=0) (sz:=1) .here F ?_
  exact aP (vs:=[_,_,_,_]) F ⟨F,F,F,F,trivial⟩ F (List.Sublist.refl _) ⟨F,_,0,[],[],false,F,F,.inl F⟩
theorem wD {s b : ac8} (hj : em s = some b) : bM ac7 77 [S s] G [] (fun v L'=>∃ y cap,v = Tu [.slice (some ⟨y,0,none⟩) 1 cap,I 0,S [],Bo true] ∧ L' = [.acc (.slice (some ⟨y,0,none⟩) 1 cap) q8 1 1 [S b]]):=by
 obtain ⟨hb,rfl⟩:=gh.1 hj
 have hl:=fG b oM
 have cx_lg:=t6 (G:=G) (s:=frame b) oM
 refine jH [(0,_)] Tryz.func77 Tryz.ntmps77 fun B hB hW=>?_
 repeat' (first | refine jR ?_ | (refine jo ?_;(refine dl F F F cx_lg F ?_;rintro _ _ ⟨ub,j1,t1,xs1,rfl,rfl,hsh1,hJ1⟩;dsimp only [zA,fA])) | refine ad F (aC oM) ?_)
 obtain ⟨rfl,rfl,rfl⟩:=hJ1.2 b hb rfl
 obtain ⟨y,cap,rfl⟩:=hsh1.pos (by simp)
 exact aP (vs:=[_,_,_,_]) F ⟨F,F,F,F,trivial⟩ F (List.Sublist.refl _) ⟨F,y,cap,F,F⟩
theorem abm {s : ac8} (hs : s.length ≤ 1048576) (hj : em s = none) : bM ac7 75 [S s] G [] (fun v L'=>∃ u j t xs ok,v = Tu [u,I (j : Nat),S t,Bo ok] ∧ L' = [.acc u ky 1 xs.length (iG xs)] ∧ (ok = false ∨ 0 < j ∨ t ≠ [] ∨ xs.length ≠ 1)):=by
 refine (mL (G:=G) (s:=s) oM).mono ?_
 rintro v G' L' ⟨h1,u,rfl,rfl,h4⟩
 refine ⟨h1,u,(cq s).2.1,(cq s).2.2,(cq s).1,decide (s.length ≤ 2000),F,F,?_⟩
 by_cases a1 : s.length ≤ 2000
 ·by_cases a2 : (cq s).2.1 = 0
  ·by_cases a3 : (cq s).2.2 = []
   ·refine .inr (.inr (.inr fun hx=>?_))
    obtain ⟨b,hb⟩:=List.length_eq_one_iff.1 hx
    unfold em at hj
    rw [if_pos ⟨a1,a2,a3⟩,hb] at hj
    cases hj
   ·exact .inr (.inr (.inl a3))
  ·exact .inr (.inl oM)
 ·exact .inl (decide_eq_false a1)
theorem abn {s b : ac8} (hj : em s = some b) : bM ac7 75 [S s] G [] (fun v L'=>∃ y cap,v = Tu [.slice (some ⟨y,0,none⟩) 1 cap,I 0,S [],Bo true] ∧ L' = [.acc (.slice (some ⟨y,0,none⟩) 1 cap) ky 1 1 [S b]]):=by
 obtain ⟨hb,rfl⟩:=gh.1 hj
 have hl:=fG b oM
 refine (mL (G:=G) (s:=frame b) oM).mono ?_
 rintro v G' L' ⟨h1,u,rfl,rfl,h4⟩
 rw [ke hb] at h4 ⊢
 obtain ⟨y,cap,rfl⟩:=h4.pos (by simp)
 exact ⟨h1,y,cap,by rw [decide_eq_true oM];rfl,rfl⟩
theorem nF {s : ac8} (hs : s.length ≤ 1048576) : an ac7 40 [S s] G (· = kM (em s)):=by
 cases hj : em s with
 | none =>
  have hFG:=abm (G:=G) hs hj
  refine jE [(0,_)] Tryz.func40 Tryz.ntmps40 fun B hB=>?_
  repeat' (refine jR ?_)
  refine jo ?_
  refine dl F F F hFG F ?_
  rintro _ _ ⟨ub,j1,t1,xs1,ok1,rfl,rfl,hbad⟩
  dsimp only [zA,fA]
  rcases hbad with rfl | h | h | h
  all_goals repeat' (first | refine jR ?_ | (refine jo ?_;first | refine aG F ?_ | refine ar F ?_ | refine jV (xW F) ?_) | (refine ax F F (by first | rfl | (refine decide_eq_true ?_;first | assumption | omega)) ?_) | refine dN F F (fun _=>?_) (fun _=>?_) | refine jj F F (fun _=>?_) (fun _=>?_) | (refine ac F (by first | rfl | (refine decide_eq_true ?_;(omega))) ?_))
  all_goals refine jY (vs:=[_,_]) ?_
  all_goals rfl
 | some b =>
  have cx_FramesGet:=abn (G:=G) hj
  refine jE [(0,_)] Tryz.func40 Tryz.ntmps40 fun B hB=>?_
  repeat' (first | refine jR ?_ | (refine jo ?_;first | refine ar F ?_ | refine jV (av F) ?_ | refine jV (aN F F oM) ?_ | refine jV (f9 F F F) ?_ | (refine dl F F F cx_FramesGet F ?_;rintro _ _ ⟨b,cap,rfl,rfl⟩;dsimp only [zA,fA])) | refine ak F F F ?_ | refine ad F F ?_)
  all_goals refine jY (vs:=[_,_]) ?_
  all_goals rfl
def lT (n : Nat) (u : Value) (vs : List bS) : Prop:=∀ (G : Gh) (k s : ac8),SchR G u vs → aO (ag vs) k = true → s.length ≤ 1000 →
 bn ac7 183 [Ag [u],S s,S k,I (n : Nat)] G (cx (ag vs) (rb (ag vs) n k s) k)
theorem wn {n : Nat} {u : Value} {ts : List Ty} {k s : ac8} (hc : s = [] ∨ n = 0) (hn : n ≤ 1000) : bn ac7 183 [Ag [u],S s,S k,I (n : Nat)] G (cx ts (rb ts n k s) k):=by
 have hno : rb ts n k s = none:=by
  rcases hc with rfl | rfl
  ·exact aac
  ·rfl
 by_cases hs : s = []
 ·refine jB [(0,_),(1,_),(2,_),(3,_)] Tryz.func183 Tryz.ntmps183 fun B hok hB hW=>?_
  repeat' (first | refine jR ?_ | (refine jo ?_;first | refine jO fun _=>?_ | refine aG F ?_) | refine ax F F (ay ‹_›) ?_ | refine ac F F ?_)
  refine jZ (vs:=[_,_,_]) F ⟨F,F,F,trivial⟩ F ⟨Gh.le.refl _,F,?_⟩
  rw [aD]
  exact ⟨_,_,_,F,fun h=>(by (cases h;done)),fun _=>hno⟩
 ·have hn0 : n = 0:=by
   rcases hc with h | h
   ·exact absurd h hs
   ·exact h
  refine jB [(0,_),(1,_),(2,_),(3,_)] Tryz.func183 Tryz.ntmps183 fun B hok hB hW=>?_
  repeat' (first | refine jR ?_ | (refine jo ?_;first | refine jO fun _=>?_ | refine ar F ?_) | refine ak F F (aC ‹_›) ?_ | refine ac F (ay oM) ?_)
  refine jZ (vs:=[_,_,_]) F ⟨F,F,F,trivial⟩ F ⟨Gh.le.refl _,F,?_⟩
  rw [aD]
  exact ⟨_,_,_,F,fun h=>(by (cases h;done)),fun _=>hno⟩
theorem abd {n : Nat} {u : Value} {ts : List Ty} {s : ac8} (hu : u.oneCell' = true) (h0 : s ≠ []) (hs : s.length ≤ 1000) (hn : n ≤ 999) : bn ac7 183 [Ag [u],S s,S [110],I (n + 1 : Nat)] G (cx ts ((bj s).map fun x=>(.nd 110 (bz x.1) 0 [],x.2)) [110]):=by
 have cx_ng0:=d7 (G:=G) (s:=s) oM
 cases hg : bj s with
 | none =>
  rw [hg] at cx_ng0
  have cx_ng : an ac7 78 [S s] G (· = Tu [I 0,S [],Bo false]):=cx_ng0
  clear cx_ng0
  refine jB [(0,_),(1,_),(2,_),(3,_)] Tryz.func183 Tryz.ntmps183 fun B hok hB hW=>?_
  repeat' (first | refine jX ?_ | (refine jo ?_;first | refine jO fun _=>?_ | refine ar F ?_ | refine jV (al F F) ?_ | refine ab F F F cx_ng F ?_ | refine ab F F F (eS oM) F ?_) | refine ak F F (aC ‹_›) ?_ | refine ac F F ?_ | refine ad F F ?_)
  all_goals refine jZ (vs:=[_,_,_]) F ⟨F,F,F,trivial⟩ F ⟨Gh.le.refl _,F,?_⟩
  all_goals (rw [aD];exact ⟨_,_,_,F,fun h=>(by cases h),fun _=>rfl⟩)
 | some z =>
  obtain ⟨m,r⟩:=z
  obtain ⟨h1,h2,_⟩:=cn hg
  have hl:=bE hg
  rw [hg] at cx_ng0
  have cx_ng : an ac7 78 [S s] G (· = Tu [I m,S r,Bo true]):=cx_ng0
  clear cx_ng0
  have hdg:=(ix m.toNat (Nat.le_refl _) h1).2
  refine jB [(0,_),(1,_),(2,_),(3,_)] Tryz.func183 Tryz.ntmps183 fun B hok hB hW=>?_
  repeat' (first | refine jX ?_ | (refine jo ?_;first | refine jO fun _=>?_ | refine ar F ?_ | refine jV (al F F) ?_ | refine ab F F F cx_ng F ?_ | refine ab F F F (eS oM) F ?_) | refine ak F F (aC ‹_›) ?_ | refine ac F F ?_ | refine ad F F ?_)
  all_goals
   rename_i xr y
   refine Nx.sealC (b:=y) fun G2 hG2 hsy=>?_
   refine jZ (vs:=[_,_,_]) F ⟨F,F,F,trivial⟩ F ⟨hG2,F,?_⟩
   rw [aD]
   exact ⟨_,_,_,F,fun _=>⟨_,y,F,F,.leaf 110 _ _ _ _ hsy (.inl ⟨F,F,F,hdg⟩)⟩,fun h=>(by cases h)⟩
theorem abf {n : Nat} {u : Value} {ts : List Ty} {s : ac8} {e : UInt8} (hu : u.oneCell' = true) (hs : s.length ≤ 1000) (hn : n ≤ 999) : bn ac7 183 [Ag [u],S (e :: s),S [102],I (n + 1 : Nat)] G (cx ts ((bX (e :: s)).map fun x=>(.nd 102 (if x.1 = true then [121,101,115] else [110,111]) 0 [],x.2)) [102]):=by
 have he0 : bt (e :: s) (Int.toNat 0) = e.toNat:=bi e s
 have hel : (e :: s).length = s.length + 1:=rfl
 by_cases h1 : e.toNat = 1
 ·obtain rfl : e = 1:=bm h1 dC
  have he0 : bt (1 :: s) (Int.toNat 0) = 1:=bi 1 s
  rw [rv]
  refine jB [(0,_),(1,_),(2,_),(3,_)] Tryz.func183 Tryz.ntmps183 fun B hok hB hW=>?_
  repeat' (first | refine jX ?_ | (refine jo ?_;first | refine jO fun _=>?_ | refine ar F ?_) | refine ak F F F ?_ | refine ac F F ?_ | refine ad F F ?_ | (refine aj (am (id:=14) _ (fun _ h=>h) ai ?_);refine jW 8 [0,2,3,8,9] (aa 13 781) ?_;refine jA 1 F ?_;(refine jF fun _=>?_);refine jS (aa 13 783) ?_;(refine jG (aa 13 799) 4 F (aA F F oM) ?_);(refine jG (aa 13 831) 5 F (aq F F F) ?_);(refine jG (aa 13 895) 6 F (al F F) ?_);refine jA 7 F ?_;(refine jO fun _=>?_);refine jS (aa 13 1023) ?_;refine jT 0 [10,11,12] (aa 13 8191) ?_;refine jQ ?_))
  all_goals
   rename_i y
   refine Nx.sealC (b:=y) fun G2 hG2 hsy=>?_
   refine jZ (vs:=[_,_,_]) F ⟨F,F,F,trivial⟩ F ⟨hG2,F,?_⟩
   rw [aD]
   exact ⟨_,_,_,F,fun _=>⟨.nd 102 [121,101,115] 0 [],y,F,F,.leaf 102 _ _ _ _ hsy (.inr (.inr ⟨F,F,F,.inl F⟩))⟩,fun h=>(by cases h)⟩
 ·by_cases h0 : e.toNat = 0
  ·obtain rfl : e = 0:=bm h0 dC
   have he0 : bt (0 :: s) (Int.toNat 0) = 0:=bi 0 s
   rw [nS]
   refine jB [(0,_),(1,_),(2,_),(3,_)] Tryz.func183 Tryz.ntmps183 fun B hok hB hW=>?_
   repeat' (first | refine jX ?_ | (refine jo ?_;first | refine jO fun _=>?_ | refine ar F ?_) | refine ak F F F ?_ | refine ac F F ?_ | refine ad F F ?_ | (refine aj (am (id:=14) _ (fun _ h=>h) ai ?_);refine jW 8 [0,2,3,8,9] (aa 13 781) ?_;refine jA 1 F ?_;(refine jF fun _=>?_);refine jS (aa 13 783) ?_;(refine jG (aa 13 799) 4 F (aA F F oM) ?_);(refine jG (aa 13 831) 5 F (aq F F F) ?_);(refine jG (aa 13 895) 6 F (al F F) ?_);refine jA 7 F ?_;(refine jO fun _=>?_);refine jS (aa 13 1023) ?_;refine jT 0 [10,11,12] (aa 13 8191) ?_;refine jQ ?_))
   all_goals
    rename_i y
    refine Nx.sealC (b:=y) fun G2 hG2 hsy=>?_
    refine jZ (vs:=[_,_,_]) F ⟨F,F,F,trivial⟩ F ⟨hG2,F,?_⟩
    rw [aD]
    exact ⟨_,_,_,F,fun _=>⟨.nd 102 [110,111] 0 [],y,F,F,.leaf 102 _ _ _ _ hsy (.inr (.inr ⟨F,F,F,.inr F⟩))⟩,fun h=>(by cases h)⟩
  ·have e1 : bX (e :: s) = none:=mh h0 h1
   rw [e1]
   have h2 : ¬ ((e.toNat : Nat) : Int) < 2:=oM
   refine jB [(0,_),(1,_),(2,_),(3,_)] Tryz.func183 Tryz.ntmps183 fun B hok hB hW=>?_
   repeat' (first | refine jX ?_ | (refine jo ?_;first | refine jO fun _=>?_ | refine ar F ?_) | refine ak F F F ?_ | (refine ac F (by first | rfl | (refine decide_eq_true ?_;(omega))) ?_) | refine ad F F ?_)
   all_goals refine jZ (vs:=[_,_,_]) F ⟨F,F,F,trivial⟩ F ⟨Gh.le.refl _,F,?_⟩
   all_goals (rw [aD];exact ⟨_,_,_,F,fun h=>(by cases h),fun _=>rfl⟩)
theorem aba {n : Nat} {u : Value} {ts : List Ty} {s : ac8} (hu : u.oneCell' = true) (h0 : s ≠ []) (hs : s.length ≤ 1000) (hn : n ≤ 999) : bn ac7 183 [Ag [u], S s, S [116], I (n + 1 : Nat)] G (cx ts (match b5 s with
      | none=>none
      | some (p,r)=>if df (39 :: (p ++ [39])) = true then some (.nd 116 p 0 [],r) else none) [116]):=by
  have cx_tk0:=ot (G:=G) (s:=s) oM
  cases hg : b5 s with
  | none =>
    rw [hg] at cx_tk0
    have cx_tk : an ac7 203 [S s] G (· = Tu [S [],S [],Bo false]):=cx_tk0
    clear cx_tk0
    refine jB [(0,_),(1,_),(2,_),(3,_)] Tryz.func183 Tryz.ntmps183 fun B hok hB hW=>?_
    repeat' (first | refine jX ?_ | (refine jo ?_;first | refine jO fun _=>?_ | refine ar F ?_ | refine jV (al F F) ?_ | refine ab F F F cx_tk F ?_) | (refine ak F F (by first | rfl | (refine decide_eq_false ?_;(assumption))) ?_) | refine ac F F ?_ | refine ad F F ?_)
    all_goals refine jZ (vs:=[_,_,_]) F ⟨F,F,F,trivial⟩ F ⟨Gh.le.refl _,F,?_⟩
    all_goals (rw [aD];exact ⟨_,_,_,F,fun h=>(by cases h),fun _=>rfl⟩)
  | some z =>
    obtain ⟨p,r⟩:=z
    have hl:=d4 hg
    rw [hg] at cx_tk0
    have cx_tk : an ac7 203 [S s] G (· = Tu [S p,S r,Bo true]):=cx_tk0
    clear cx_tk0
    have htx : [39] ++ p ++ [39] = 39 :: (p ++ [39]):=by simp
    have cx_tx:=e9 (G:=G) (s:=[39] ++ p ++ [39]) (by simp only [List.length_append,List.length_cons,List.length_nil];omega)
    dsimp only
    refine jB [(0,_),(1,_),(2,_),(3,_)] Tryz.func183 Tryz.ntmps183 fun B hok hB hW=>?_
    repeat' (first | refine jX ?_ | (refine jo ?_;first | refine jO fun _=>?_ | refine aG F ?_ | refine ar F ?_ | refine jV (al F F) ?_ | refine ab F F F cx_tk F ?_ | (refine ab F F F (e9 ?_) F ?_;(focus ((simp;omega);done)))) | refine ax F F F ?_ | refine ak F F (aC ‹_›) ?_ | refine ac F F ?_ | refine ad F F ?_)
    all_goals
      rename_i y
      refine Nx.sealC (b:=y) fun G2 hG2 hsy=>?_
      refine jZ (vs:=[_,_,_]) F ⟨F,F,F,trivial⟩ F ⟨hG2,F,?_⟩
      rw [aD,htx]
      rw [htx] at hsy
      refine ⟨_,_,_,F,fun h=>?_,fun h=>?_⟩
      · exact ⟨_,y,F,by rw [if_pos h],.leaf 116 _ _ _ _ hsy (.inr (.inl ⟨F,F,F⟩))⟩
      · rw [if_neg (by rw [h];decide)]
theorem abc {n : Nat} {u : Value} {vs : List bS} {k s : ac8} {e : UInt8} (hR : lT n u vs) (h : SchR G u vs) (hk : aO (ag vs) (63 :: k) = true) (hs : s.length ≤ 999) (hn : n ≤ 999) :
  bn ac7 183 [Ag [u],S (e :: s),S (63 :: k),I (n + 1 : Nat)] G (cx (ag vs) (rb (ag vs) (n + 1) (63 :: k) (e :: s)) (63 :: k)):=by
 have edn : ((n + 1 : Nat) : Int) - 1 = (n : Nat):=oM
 have he0 : bt (e :: s) (Int.toNat 0) = e.toNat:=bi e s
 have hel : (e :: s).length = s.length + 1:=rfl
 have hk0 : bt (63 :: k) (Int.toNat 0) = 63:=bi 63 k
 have hkl2 : (63 :: k).length = k.length + 1:=rfl
 rw [vz]
 by_cases h1 : e.toNat = 1
 ·have e1 : bX (e :: s) = some (true,s):=by rw [bX,if_neg oM,if_pos h1]
  rw [e1]
  dsimp only
  have cx_gt:=hR G k s h (dz (.inr rfl) hk) oM
  rw [← edn] at cx_gt
  refine jB [(0,_),(1,_),(2,_),(3,_)] Tryz.func183 Tryz.ntmps183 fun B hok hB hW=>?_
  repeat' (first | refine jM ?_ | (refine jo ?_;first | refine jO fun _=>?_ | refine ar F ?_ | refine jV (al F F) ?_ | refine jF fun _=>?_) | refine ak F F F ?_ | refine ac F F ?_ | (refine ad F (by first | rfl | (refine decide_eq_false ?_;(omega))) ?_) | (refine aj (am (id:=25) _ (fun _ h=>h) ai ?_);refine jW 9 [1,2,3,4,5,6] (aa 15 126) ?_;(refine jG (aa 15 127) 0 F (bD F F F F) ?_);refine jA 7 F ?_;(refine aK F F F cx_gt F ?_;rintro _ G hle ⟨q1,r1,ok1,rfl,hyes,hno⟩;skip);refine jS (aa 15 255) ?_;refine jT 0 [8,9,10,11,12,13,14] (aa 15 32767) ?_;refine jQ ?_))
  all_goals
   rename_i y1 y8
   refine Nx.sealC (b:=y1) fun G2 hG2 hs1=>?_
   refine Nx.sealC (b:=y8) fun G3 hG3 hsg=>?_
   refine jZ (vs:=[_,_,_]) F ⟨F,F,F,trivial⟩ F ⟨((hle.trans hG2).trans hG3),F,?_⟩
   rw [aD]
   refine ⟨_,_,_,F,fun hb=>?_,fun hb=>by rw [hno hb];rfl⟩
   obtain ⟨w,wb,rfl,hf,hrep⟩:=hyes hb
   exact ⟨.nd 63 [] 0 [w],y8,F,by rw [hf];rfl,.opt k y8 y1 wb 1 w (Nat.le_refl _) hsg (hs1.mono hG3) (hrep.mono (hG2.trans hG3))⟩
 ·by_cases h0 : e.toNat = 0
  ·have e1 : bX (e :: s) = some (false,s):=by rw [bX,if_pos h0]
   rw [e1]
   refine jB [(0,_),(1,_),(2,_),(3,_)] Tryz.func183 Tryz.ntmps183 fun B hok hB hW=>?_
   repeat' (first | refine jM ?_ | (refine jo ?_;first | refine jO fun _=>?_ | refine ar F ?_) | refine ak F F F ?_ | (refine ac F (by first | rfl | (refine decide_eq_true ?_;(omega))) ?_) | refine ad F F ?_ | (refine aj (am (id:=22) _ (fun _ h=>h) ai ?_);refine jW 5 [0,3,4] (aa 8 25) ?_;(refine jG (aa 8 27) 1 F (al F F) ?_);refine jA 2 F ?_;(refine jO fun _=>?_);refine jS (aa 8 31) ?_;refine jT 0 [5,6,7] (aa 8 255) ?_;refine jQ ?_))
   all_goals
    rename_i y
    refine Nx.sealC (b:=y) fun G2 hG2 hsy=>?_
    refine jZ (vs:=[_,_,_]) F ⟨F,F,F,trivial⟩ F ⟨hG2,F,?_⟩
    rw [aD]
    exact ⟨_,_,_,F,fun _=>⟨_,y,F,F,.non k y hsy⟩,fun h=>(by cases h)⟩
  ·rw [mh h0 h1]
   refine jB [(0,_),(1,_),(2,_),(3,_)] Tryz.func183 Tryz.ntmps183 fun B hok hB hW=>?_
   repeat' (first | refine jM ?_ | (refine jo ?_;first | refine jO fun _=>?_ | refine ar F ?_) | refine ak F F F ?_ | (refine ac F (by first | rfl | (refine decide_eq_true ?_;(omega))) ?_) | (refine ad F (by first | rfl | (refine decide_eq_false ?_;(omega))) ?_))
   all_goals refine jZ (vs:=[_,_,_]) F ⟨F,F,F,trivial⟩ F ⟨Gh.le.refl _,F,?_⟩
   all_goals (rw [aD];exact ⟨_,_,_,F,fun h=>(by cases h),fun _=>rfl⟩)
theorem kg {t : Ty} (hw : TyW t) : bR t.fields 0 = none:=by
 cases h : bR t.fields 0 with
 | none=>rfl
 | some d =>
  obtain ⟨j,hj,_,hjt,_⟩:=eA h
  have:=(hw.fld _ (bP hj)).tag
  omega
theorem tN {ts : List Ty} {k : ac8} {v : Value} {G' : Gh} (h : cx ts none k v G') : ∃ q1 r1,v = Tu [.pointer q1,S r1,Bo false]:=by
 obtain ⟨q,r,ok,rfl,h1,h2⟩:=h
 cases ok with
 | false=>exact ⟨q,r,F⟩
 | true=>obtain ⟨w,b,_,h3,_⟩:=h1 rfl;cases h3
theorem pR {ts : List Ty} {k r : ac8} {x : V} {v : Value} {G' : Gh} (h : cx ts (some (x,r)) k v G') : ∃ wb,v = Tu [Pt wb 0,S r,Bo true] ∧ RepR G' ts x k wb:=by
 obtain ⟨q,r,ok,rfl,h1,h2⟩:=h
 cases ok with
 | false=>cases h2 rfl
 | true =>
  obtain ⟨w,b,rfl,h3,h4⟩:=h1 rfl
  cases h3
  exact ⟨b,F,h4⟩
theorem fR {ts : List Ty} {k : ac8} {q : Option Addr} {r : ac8} {G' : Gh} {f : Option (V × ac8)} (h : f = none) : cx ts f k (Tu [.pointer q,S r,Bo false]) G':=⟨_,_,_,rfl,fun h=>(by cases h),fun _=>h⟩
theorem pd {ts : List Ty} {k : ac8} {b : Nat} {r : ac8} {G' : Gh} {f : Option (V × ac8)} {w : V} (h : f = some (w,r)) (hr : RepR G' ts w k b) : cx ts f k (Tu [Pt b 0,S r,Bo true]) G':=⟨_,_,_,rfl,fun _=>⟨w,b,rfl,h,hr⟩,fun h=>(by cases h)⟩
theorem og {n : Nat} {u : Value} {vs : List bS} {k s : ac8} (hR : lT n u vs) (h : SchR G u vs) (hk : aO (ag vs) k = true) (hs : s.length ≤ 1000) (hn : n ≤ 1000) (hf : cQ (rb (ag vs) n) k s = none) :
  bn ac7 154 [Ag [u],S s,S k,I (n : Nat)] G (fun v _=>∃ q,v = Tu [.pointer q,Bo false]):=by
 have hkk:=cT (db hk)
 have hop:=hR G k s h hk hs
 cases hg : rb (ag vs) n k s with
 | none =>
  rw [hg] at hop
  have cx_gt0 : bn ac7 183 [Ag [u],S s,S k,I (n : Nat)] G (fun v _=>∃ q1 r1,v = Tu [.pointer q1,S r1,Bo false]):=hop.mono fun v G' L' h=>⟨h.1,h.2.1,tN h.2.2⟩
  clear hop
  refine jB [(0,_),(1,_),(2,_),(3,_)] Tryz.func154 Tryz.ntmps154 fun B hok hB hW=>?_
  repeat' (first | refine jR ?_ | (refine jo ?_;first | refine jO fun _=>?_ | refine aB F ?_ | refine ar F ?_ | (refine aK F F F cx_gt0 F ?_;rintro _ G hle ⟨q1,r1,rfl⟩;skip)) | refine ak F F F ?_)
  all_goals refine jZ (vs:=[_,_]) F ⟨F,F,trivial⟩ F ⟨hle,F,?_⟩
  all_goals exact ⟨_,F⟩
 | some x =>
  obtain ⟨w,r⟩:=x
  rw [hg] at hop
  have cx_gt1 : bn ac7 183 [Ag [u],S s,S k,I (n : Nat)] G (fun v G'=>∃ wb,v = Tu [Pt wb 0,S r,Bo true] ∧ RepR G' (ag vs) w k wb):=hop.mono fun v G' L' h=>⟨h.1,h.2.1,pR h.2.2⟩
  clear hop
  cases r with
  | nil=>rw [gf hg] at hf;cases hf
  | cons e r =>
   refine jB [(0,_),(1,_),(2,_),(3,_)] Tryz.func154 Tryz.ntmps154 fun B hok hB hW=>?_
   repeat' (first | refine jR ?_ | (refine jo ?_;first | refine jO fun _=>?_ | refine aB F ?_ | refine aG F ?_ | (refine aK F F F cx_gt1 F ?_;rintro _ G hle ⟨wb,rfl,hrep⟩;skip)) | refine ax F F F ?_)
   all_goals refine jZ (vs:=[_,_]) F ⟨F,F,trivial⟩ F ⟨hle,F,?_⟩
   all_goals exact ⟨_,F⟩
theorem lG {n : Nat} {u : Value} {vs : List bS} {k s : ac8} {w : V} (hR : lT n u vs) (h : SchR G u vs) (hk : aO (ag vs) k = true) (hs : s.length ≤ 1000) (hn : n ≤ 1000) (hf : cQ (rb (ag vs) n) k s = some w) :
  bn ac7 154 [Ag [u],S s,S k,I (n : Nat)] G (fun v G'=>∃ wb,v = Tu [Pt wb 0,Bo true] ∧ RepR G' (ag vs) w k wb):=by
 have hop:=hR G k s h hk hs
 rw [cO hf] at hop
 have cx_gt1 : bn ac7 183 [Ag [u],S s,S k,I (n : Nat)] G (fun v G'=>∃ wb,v = Tu [Pt wb 0,S [],Bo true] ∧ RepR G' (ag vs) w k wb):=hop.mono fun v G' L' h=>⟨h.1,h.2.1,pR h.2.2⟩
 clear hop
 refine jB [(0,_),(1,_),(2,_),(3,_)] Tryz.func154 Tryz.ntmps154 fun B hok hB hW=>?_
 repeat' (first | refine jR ?_ | (refine jo ?_;first | refine jO fun _=>?_ | refine aB F ?_ | refine aG F ?_ | (refine aK F F F cx_gt1 F ?_;rintro _ G hle ⟨wb,rfl,hrep⟩;skip)) | refine ax F F F ?_)
 all_goals refine jZ (vs:=[_,_]) F ⟨F,F,trivial⟩ F ⟨hle,F,?_⟩
 all_goals exact ⟨_,F,hrep⟩
abbrev vq : TypeId:=100
abbrev acP : TypeId:=199
theorem zf {n : Nat} {u : Value} {vs : List bS} {k s : ac8} {m : Nat} (hR : lT n u vs) (h : SchR G u vs) (hk : aO (ag vs) (91 :: k) = true) (hs : s.length ≤ 1000) (hn : n ≤ 999) (hm : m ≤ 999999) :
  bn ac7 204 [Ag [u],S s,S (91 :: k),I (m : Nat),I (n + 1 : Nat)] G (cx (ag vs) (if m ≤ 20 then (bG (rb (ag vs) n k) m s []).map fun x=>(.nd 91 [] 0 x.1,x.2) else none) (91 :: k)):=by
 have edn : ((n + 1 : Nat) : Int) - 1 = (n : Nat):=oM
 have hki:=dz (.inl rfl) hk
 have hkk:=cT (db hk)
 have hkl:=hkk.2
 simp only [List.length_cons] at hkl
 have hkl2 : (91 :: k).length = k.length + 1:=rfl
 by_cases h20 : m ≤ 20
 case neg =>
  rw [if_neg h20]
  refine jB [(0,_),(1,_),(2,_),(3,_),(4,_)] Tryz.func204 Tryz.ntmps204 fun B hok hB hW=>?_
  repeat' (first | refine jR ?_ | (refine jo ?_;first | refine jO fun _=>?_ | refine jV (al F F) ?_) | refine ac F (ay oM) ?_)
  all_goals refine jZ (vs:=[_,_,_]) F ⟨F,F,F,trivial⟩ F ⟨Gh.le.refl _,F,?_⟩
  all_goals exact fR F
 rw [if_pos h20]
 refine jB [(0,_),(1,_),(2,_),(3,_),(4,_)] Tryz.func204 Tryz.ntmps204 fun B hok hB hW=>?_
 repeat' (first | refine jR ?_ | (refine jo ?_;first | refine jO fun _=>?_ | refine jV (al F F) ?_) | refine ad F (aC oM) ?_)
 rename_i xr y
 refine Nx.addNil vq 1 ?_
 refine aT (ι:=List V × List Nat × Option Addr × Nat × ac8 × Gh) (fun q=>((q.2.1.length = q.1.length ∧ ∀ i,i < q.1.length → RepR q.2.2.2.2.2 (ag vs) (ae q.1 i) k (ae q.2.1 i)) ∧ Gh.le G q.2.2.2.2.2) ∧ (bG (rb (ag vs) n k) m s [] = bG (rb (ag vs) n k) (m - q.1.length) q.2.2.2.2.1 q.1 ∧ q.1.length ≤ m) ∧ q.2.2.2.2.1.length ≤ s.length) (fun q=>[(1,S q.2.2.2.2.1),(2,S (91 :: k)),(3,I (m : Nat)),(4,I (n + 1 : Nat)),(5,Pt xr 0),(13,Pt y 0),(14,I (q.1.length : Nat))]) (fun q=>q.2.2.2.2.2) (fun q=>[.acc (.slice q.2.2.1 q.1.length q.2.2.2.1) vq 1 q.1.length (aE eK q.2.1),.blk y (.cells (List.toArray [S (91 :: k),S [],aI,.slice q.2.2.1 q.1.length q.2.2.2.1]) qj (0,0)),.blk xr (.cells (List.toArray [u]) acP (0,0))]) (fun q=>m - q.1.length) ([],[],none,0,s,G) ?_ tU F aZ (fun q Hq=>?_)
 ·exact ⟨⟨⟨F,fun i hi=>absurd hi (by simp)⟩,Gh.le.refl _⟩,⟨F,Nat.zero_le _⟩,Nat.le_refl _⟩
 obtain ⟨ws,bs,a,cap,t,Gq⟩:=q
 dsimp only at Hq ⊢
 obtain ⟨⟨⟨hbl,hreps⟩,hgq⟩,⟨hit,hwm⟩,htl⟩:=Hq
 by_cases hi : ws.length < m
 case neg =>
  have e0 : m - ws.length = 0:=oM
  rw [e0,bG] at hit
  repeat' (first | refine jR ?_ | refine ad F (aC oM) ?_)
  all_goals
   refine Nx.sealS (v:=.slice a ws.length cap) fun G2 hG2 hsl=>?_
   refine Nx.sealC (b:=y) fun G3 hG3 hsg=>?_
   refine jZ (vs:=[_,_,_]) F ⟨F,F,F,trivial⟩ F ⟨((hgq.trans hG2).trans hG3),F,?_⟩
   exact pd (by rw [hit];rfl) (.lst k y ws bs a cap hsg (hsl.mono hG3) hbl (fun i hi=>(hreps i hi).mono (hG2.trans hG3)))
 obtain ⟨m',hm'⟩ : ∃ m',m - ws.length = m' + 1:=⟨m - ws.length - 1,oM⟩
 rw [hm'] at hit
 have hop:=hR Gq k t (h.mono hgq) hki oM
 rw [← edn] at hop
 cases hf : rb (ag vs) n k t with
 | none =>
  rw [hf] at hop
  have cx_gt0 : bn ac7 183 [Ag [u],S t,S k,I (((n + 1 : Nat) : Int) - 1)] Gq (fun v _=>∃ q1 r1,v = Tu [.pointer q1,S r1,Bo false]):=hop.mono fun v G' L' h=>⟨h.1,h.2.1,tN h.2.2⟩
  clear hop
  have hno2:=oS (m:=m') (acc:=ws) hf
  repeat' (first | refine jR ?_ | (refine ac F (by first | rfl | (refine decide_eq_true ?_;(omega))) ?_) | (refine aj (am (id:=7) _ (fun _ h=>h) ai ?_);refine jW 9 [1,2,3,4,5] (aa 14 62) ?_;(refine jG (aa 14 63) 0 F (bD F F F F) ?_);refine jA 6 F ?_;(refine aK F F F cx_gt0 F ?_;rintro _ G hle ⟨q1,r1,rfl⟩;skip);refine jS (aa 14 127) ?_;refine jT 0 [7,8,9,10,11,12,13] (aa 14 16383) ?_;refine jQ ?_))
  all_goals refine jZ (vs:=[_,_,_]) F ⟨F,F,F,trivial⟩ F ⟨(hgq.trans hle),F,?_⟩
  all_goals exact fR (by rw [hit,hno2];rfl)
 | some z =>
  obtain ⟨w,r'⟩:=z
  rw [hf] at hop
  have cx_gt1 : bn ac7 183 [Ag [u],S t,S k,I (((n + 1 : Nat) : Int) - 1)] Gq (fun v G'=>∃ wb,v = Tu [Pt wb 0,S r',Bo true] ∧ RepR G' (ag vs) w k wb):=hop.mono fun v G' L' h=>⟨h.1,h.2.1,pR h.2.2⟩
  clear hop
  have hsh:=oQ _ _ _ _ _ hf
  have hstep:=mg (m:=m') (acc:=ws) hf
  have hwl1 : (ws ++ [w]).length = ws.length + 1:=by simp
  have hm2 : m - (ws ++ [w]).length = m':=by rw [hwl1];omega
  repeat' (first | refine jM ?_ | (refine jo ?_;first | refine ah F ?_ | refine jF fun _=>?_ | refine bY F F F F F F F F F oM fun _ _=>?_ | refine jD F F F ?_) | refine ac F (ay oM) ?_ | refine ad F F ?_ | (refine aj (am (id:=7) _ (fun _ h=>h) ai ?_);refine jW 9 [1,2,3,4,5] (aa 14 62) ?_;(refine jG (aa 14 63) 0 F (bD F F F F) ?_);refine jA 6 F ?_;(refine aK F F F cx_gt1 F ?_;rintro _ G hle ⟨wb,rfl,hrep⟩;skip);refine jS (aa 14 127) ?_;refine jT 0 [7,8,9,10,11,12,13] (aa 14 16383) ?_;refine jQ ?_))
  have hgl:=hgq.trans hle
  have hrow : aE eK bs ++ [Pt wb 0] = aE eK (bs ++ [wb]):=(co eK bs wb).symm
  have hbl1 : (bs ++ [wb]).length = (ws ++ [w]).length:=by simp [hbl]
  have hrp : ∀ i,i < (ws ++ [w]).length → RepR G (ag vs) (ae (ws ++ [w]) i) k (ae (bs ++ [wb]) i):=fun i hi=>by
   by_cases h1 : i < ws.length
   ·have e1 : ae (ws ++ [w]) i = ae ws i:=by rw [aW hi,aW h1,List.getElem_append_left h1]
    have e2 : ae (bs ++ [wb]) i = ae bs i:=by rw [aW oM,aW oM,List.getElem_append_left oM]
    rw [e1,e2];exact (hreps i h1).mono hle
   ·have h2 : i = ws.length:=oM
    have e1 : ae (ws ++ [w]) i = w:=by rw [aW hi];simp [h2]
    have e2 : ae (bs ++ [wb]) i = wb:=by rw [aW oM];simp [h2,hbl]
    rw [e1,e2];exact hrep
  rename_i y0 y1 yc
  rw [hrow]
  refine Nx.re (d:=14) (v':=I ((ws ++ [w]).length : Nat)) F (congrArg (Value.int .i64) (by rw [hwl1];omega)) ?_
  exact aY (ws ++ [w],bs ++ [wb],some ⟨y1,0,none⟩,yc,r',G) ⟨⟨⟨hbl1,hrp⟩,hgl⟩,⟨(by dsimp only;rw [hit,hstep,hm2]),(by dsimp only;omega)⟩,(by dsimp only;omega)⟩ (by dsimp only;omega) tU rfl (by rw [hwl1];repeat (first | exact List.Sublist.refl _ | apply List.Sublist.cons_cons | apply List.Sublist.cons))
theorem abe {n : Nat} {u : Value} {vs : List bS} {k s : ac8} {e : UInt8} (hR : lT n u vs) (h : SchR G u vs) (hk : aO (ag vs) (91 :: k) = true) (hs : s.length ≤ 999) (hn : n ≤ 999) (hkl : k.length ≤ 1000) :
  bn ac7 183 [Ag [u],S (e :: s),S (91 :: k),I (n + 1 : Nat)] G (cx (ag vs) (rb (ag vs) (n + 1) (91 :: k) (e :: s)) (91 :: k)):=by
 have hel : (e :: s).length = s.length + 1:=rfl
 have hk0 : bt (91 :: k) (Int.toNat 0) = 91:=bi 91 k
 have hkl2 : (91 :: k).length = k.length + 1:=rfl
 rw [vA]
 have cx_ng0:=d7 (G:=G) (s:=e :: s) oM
 cases hg : bj (e :: s) with
 | none =>
  rw [hg] at cx_ng0
  have cx_ng : an ac7 78 [S (e :: s)] G (· = Tu [I 0,S [],Bo false]):=cx_ng0
  refine jB [(0,_),(1,_),(2,_),(3,_)] Tryz.func183 Tryz.ntmps183 fun B hok hB hW=>?_
  repeat' (first | refine jM ?_ | (refine jo ?_;first | refine jO fun _=>?_ | refine ar F ?_ | refine ab F F F cx_ng F ?_) | refine ak F F F ?_ | refine ac F F ?_ | refine ad F F ?_)
  all_goals refine jZ (vs:=[_,_,_]) F ⟨F,F,F,trivial⟩ F ⟨Gh.le.refl _,F,?_⟩
  all_goals exact fR F
 | some z =>
  obtain ⟨m0,r⟩:=z
  obtain ⟨h0,h1,_⟩:=cn hg
  have hl:=bE hg
  rw [hg] at cx_ng0
  obtain ⟨m,rfl⟩ : ∃ m : Nat,m0 = (m : Int):=⟨m0.toNat,oM⟩
  have cx_ng : an ac7 78 [S (e :: s)] G (· = Tu [I (m : Nat),S r,Bo true]):=cx_ng0
  clear cx_ng0
  have cx_som:=zf (G:=G) (m:=m) (s:=r) hR h hk oM hn oM
  have hres : (if (m : Int) ≤ 20 then (bG (rb (ag vs) n k) (m : Int).toNat r []).map (fun x=>(V.nd 91 [] 0 x.1,x.2)) else none) = if m ≤ 20 then (bG (rb (ag vs) n k) m r []).map (fun x=>(V.nd 91 [] 0 x.1,x.2)) else none:=by
   rw [Int.toNat_natCast]
   by_cases h20 : m ≤ 20
   ·rw [if_pos h20,if_pos oM]
   ·rw [if_neg h20,if_neg oM]
  dsimp only
  rw [hres]
  generalize (if m ≤ 20 then (bG (rb (ag vs) n k) m r []).map (fun x=>(V.nd 91 [] 0 x.1,x.2)) else none) = o at cx_som ⊢
  refine jB [(0,_),(1,_),(2,_),(3,_)] Tryz.func183 Tryz.ntmps183 fun B hok hB hW=>?_
  repeat' (first | refine jM ?_ | (refine jo ?_;first | refine jO fun _=>?_ | refine ar F ?_ | refine aB F ?_ | refine ab F F F cx_ng F ?_ | (refine aK F F F cx_som F ?_;rintro _ G hle ⟨q1,r1,ok1,rfl,hyes,hno⟩;skip)) | refine ak F F F ?_ | refine ac F F ?_ | refine ad F F ?_)
  all_goals refine jZ (vs:=[_,_,_]) F ⟨F,F,F,trivial⟩ F ⟨hle,F,?_⟩
  all_goals (rw [aD];exact ⟨_,_,_,F,hyes,hno⟩)
abbrev vt : TypeId:=3
abbrev vr : TypeId:=100
abbrev aby : TypeId:=199
abbrev abx : TypeId:=110
def o6 (gs : List (Fld × V)) : List V:=gs.map c7
theorem wr {n : Nat} {u : Value} {vs : List bS} {a : Option Addr} {ca : Nat} {nm : ac8} {fs : List Fld} {k s : ac8} (hR : lT n u vs) (h : SchR G u vs) (hw : SchW (ag vs)) (hr : dX vs (64 :: k) = some ((a,ca),⟨82,nm,fs⟩)) (hk : d1 (64 :: k) = true) (hkl : k.length ≤ 999) (hs : s.length ≤ 1000) (hn : n ≤ 999) :
  bn ac7 215 [Ag [u],S s,S (64 :: k),Ag [U8 (82 : Nat),S nm,.slice a fs.length ca],I (n + 1 : Nat)] G (cx (ag vs) ((bN (ag vs) (rb (ag vs) n) ⟨82,nm,fs⟩ (s.length + 1) 0 s []).map fun x=>(.nd 82 [] 0 x.1,x.2)) (64 :: k)):=by
 have edn : ((n + 1 : Nat) : Int) - 1 = (n : Nat):=oM
 have hkl2 : (64 :: k).length = k.length + 1:=rfl
 have hvl : vs.length ≤ 8:=by have:=hw.len;unfold ag at this;simpa using this
 have href:=dS vs (64 :: k)
 rw [hr] at href
 have hxm:=eF hr
 have hxt : (⟨82,nm,fs⟩ : Ty) ∈ ag vs:=List.mem_map_of_mem hxm
 have hTW:=hw.ty _ hxt
 have hfl:=hTW.len
 dsimp only at hfl
 refine jB [(0,_),(1,_),(2,_),(3,_),(4,_)] Tryz.func215 Tryz.ntmps215 fun B hok hB hW=>?_
 repeat' (first | refine jR ?_ | (refine jo ?_;first | refine jO fun _=>?_ | refine jV (al F F) ?_))
 rename_i xr xt y
 refine Nx.addNil vt 1 (Nx.addNil vr 1 ?_)
 refine aT (ι:=List (Fld × V) × List Nat × Option Addr × Nat × Option Addr × Nat × ac8 × Nat × Int × Gh) (fun q=>((q.2.1.length = q.1.length ∧ (∀ i,i < q.1.length → (ae q.1 i).1 ∈ fs) ∧ ∀ i,i < q.1.length → RepR q.2.2.2.2.2.2.2.2.2 (ag vs) (ae q.1 i).2 (ae q.1 i).1.kind (ae q.2.1 i)) ∧ Gh.le G q.2.2.2.2.2.2.2.2.2) ∧ (bN (ag vs) (rb (ag vs) n) ⟨82,nm,fs⟩ (s.length + 1) 0 s [] = bN (ag vs) (rb (ag vs) n) ⟨82,nm,fs⟩ q.2.2.2.2.2.2.2.1 q.2.2.2.2.2.2.2.2.1 q.2.2.2.2.2.2.1 (o6 q.1) ∧ q.2.2.2.2.2.2.1.length < q.2.2.2.2.2.2.2.1) ∧ q.1.length + q.2.2.2.2.2.2.1.length ≤ s.length ∧ (0 ≤ q.2.2.2.2.2.2.2.2.1 ∧ q.2.2.2.2.2.2.2.2.1 ≤ 999999)) (fun q=>[(1,S q.2.2.2.2.2.2.1),(2,S (64 :: k)),(4,I (n + 1 : Nat)),(5,Pt xr 0),(8,Pt xt 0),(13,Pt y 0),(14,I q.2.2.2.2.2.2.2.2.1)]) (fun q=>q.2.2.2.2.2.2.2.2.2) (fun q=>[.acc (.slice q.2.2.2.2.1 q.1.length q.2.2.2.2.2.1) vr 1 q.1.length (aE eK q.2.1),.acc (.slice q.2.2.1 q.1.length q.2.2.2.1) vt 1 q.1.length (aE gu (q.1.map fun p=>p.1.tag)),.blk y (.cells (List.toArray [S (64 :: k),S [82],.slice q.2.2.1 q.1.length q.2.2.2.1,.slice q.2.2.2.2.1 q.1.length q.2.2.2.2.2.1]) qj (0,0)),.blk xt (.cells (List.toArray [U8 (82 : Nat),S nm,.slice a fs.length ca]) abx (0,0)),.blk xr (.cells (List.toArray [u]) aby (0,0))]) (fun q=>q.2.2.2.2.2.2.1.length) ([],[],none,0,none,0,s,s.length + 1,0,G) ?_ tU F aZ (fun q Hq=>?_)
 ·exact ⟨⟨⟨F,fun i hi=>absurd hi (by simp),fun i hi=>absurd hi (by simp)⟩,Gh.le.refl _⟩,⟨F,Nat.lt_succ_self _⟩,by simp,Int.le_refl 0,by show (0 : Int) ≤ 999999;omega⟩
 obtain ⟨gs,bs,a1,c1,a2,c2,t,m,la,Gq⟩:=q
 dsimp only at Hq ⊢
 obtain ⟨⟨⟨hbl,hfm,hreps⟩,hgq⟩,⟨hit,htm⟩,hwt,hla0,hla1⟩:=Hq
 obtain ⟨m,rfl⟩ : ∃ m',m = m' + 1:=⟨m - 1,oM⟩
 have cx_ng0:=d7 (G:=Gq) (s:=t) oM
 cases hg : bj t with
 | none =>
  rw [hg] at cx_ng0
  have cx_ng : an ac7 78 [S t] Gq (· = Tu [I 0,S [],Bo false]):=cx_ng0
  clear cx_ng0
  rw [oX hg] at hit
  repeat' (first | refine jR ?_ | (refine jo ?_;refine ab F F F cx_ng F ?_) | refine ac F F ?_)
  all_goals refine jZ (vs:=[_,_,_]) F ⟨F,F,F,trivial⟩ F ⟨hgq,F,?_⟩
  all_goals exact fR (by rw [hit];rfl)
 | some z =>
  obtain ⟨tg,r⟩:=z
  obtain ⟨h0,h1,_⟩:=cn hg
  have hl:=bE hg
  rw [hg] at cx_ng0
  have cx_ng : an ac7 78 [S t] Gq (· = Tu [I tg,S r,Bo true]):=cx_ng0
  clear cx_ng0
  by_cases htz : tg = 0
  ·subst htz
   rw [ru hg] at hit
   repeat' (first | refine jR ?_ | (refine jo ?_;refine ab F F F cx_ng F ?_) | refine ac F F ?_ | refine ad F F ?_)
   all_goals
    refine Nx.sealS (v:=.slice a1 gs.length c1) fun G2 hG2 hs1=>?_
    refine Nx.sealS (v:=.slice a2 gs.length c2) fun G3 hG3 hs2=>?_
    refine Nx.sealC (b:=y) fun G4 hG4 hsg=>?_
    refine jZ (vs:=[_,_,_]) F ⟨F,F,F,trivial⟩ F ⟨(((hgq.trans hG2).trans hG3).trans hG4),F,?_⟩
    exact pd (by rw [hit];rfl) (.recd (64 :: k) y ⟨82,nm,fs⟩ gs bs a1 a2 c1 c2 ⟨href.symm,rfl⟩ hsg ((hs1.mono hG3).mono hG4) (hs2.mono hG4) hbl hfm (fun i hi=>(hreps i hi).mono ((hG2.trans hG3).trans hG4)))
  have cx_tk0:=ot (G:=Gq) (s:=r) oM
  cases ht : b5 r with
  | none =>
   rw [ht] at cx_tk0
   have cx_tk : an ac7 203 [S r] Gq (· = Tu [S [],S [],Bo false]):=cx_tk0
   clear cx_tk0
   rw [ld hg htz ht] at hit
   repeat' (first | refine jR ?_ | (refine jo ?_;first | refine aG F ?_ | refine ab F F F cx_ng F ?_ | refine ab F F F cx_tk F ?_) | refine ax F F F ?_ | refine ac F F ?_ | (refine ad F (by first | rfl | (refine decide_eq_false ?_;(assumption))) ?_))
   all_goals refine jZ (vs:=[_,_,_]) F ⟨F,F,F,trivial⟩ F ⟨hgq,F,?_⟩
   all_goals exact fR (by rw [hit];rfl)
  | some z =>
   obtain ⟨p,r'⟩:=z
   have hl2:=d4 ht
   rw [ht] at cx_tk0
   have cx_tk : an ac7 203 [S r] Gq (· = Tu [S p,S r',Bo true]):=cx_tk0
   clear cx_tk0
   by_cases hlast : tg ≤ la
   ·rw [oW hg htz ht hlast] at hit
    repeat' (first | refine jR ?_ | (refine jo ?_;first | refine ar F ?_ | refine ab F F F cx_ng F ?_ | refine ab F F F cx_tk F ?_) | refine ak F F F ?_ | refine ac F (ay ‹_›) ?_ | (refine ad F (by first | rfl | (refine decide_eq_false ?_;(assumption))) ?_))
    all_goals refine jZ (vs:=[_,_,_]) F ⟨F,F,F,trivial⟩ F ⟨hgq,F,?_⟩
    all_goals exact fR (by rw [hit];rfl)
   have cx_f0:=hX (G:=Gq) (x:=((a,ca),⟨82,nm,fs⟩)) (tag:=tg) ((h.mono hgq).fl _ hxm) (by dsimp only;omega)
   cases hd : bR fs tg with
   | none =>
    rw [hd] at cx_f0
    have cx_fld : an ac7 185 [Ag [U8 (82 : Nat),S nm,.slice a fs.length ca],I tg] Gq (· = Tu [Ag [I 0,S [],S [],S []],Bo false]):=cx_f0
    clear cx_f0
    rw [nC hg htz ht hlast hd] at hit
    repeat' (first | refine jR ?_ | (refine jo ?_;first | refine ar F ?_ | refine aB F ?_ | refine jL fun _=>?_ | refine jC F F F ?_ | refine ab F F F cx_ng F ?_ | refine ab F F F cx_tk F ?_ | refine ab F F F cx_fld F ?_) | refine ak F F F ?_ | refine ac F F ?_ | (refine ad F (by first | rfl | (refine decide_eq_false ?_;(assumption))) ?_))
    all_goals exact aY (gs,bs,a1,c1,a2,c2,r',m,tg,Gq) ⟨⟨⟨hbl,hfm,hreps⟩,hgq⟩,⟨hit,by dsimp only;omega⟩,by dsimp only;omega,h0,h1⟩ (by dsimp only;omega) tU rfl sB
   | some d =>
    rw [hd] at cx_f0
    have cx_fld : an ac7 185 [Ag [U8 (82 : Nat),S nm,.slice a fs.length ca],I tg] Gq (· = Tu [Ag [I d.tag,S d.name,S d.kind,S d.stand],Bo true]):=cx_f0
    clear cx_f0
    have hdm : d ∈ fs:=List.mem_of_find?_eq_some hd
    have hdt : d.tag = tg:=(iv hd).1
    have hdk : aO (ag vs) d.kind = true:=dT hw hxt (by dsimp only;omega) hdm
    cases hf : cQ (rb (ag vs) n) d.kind p with
    | none =>
     have cx_wh0:=og (G:=Gq) hR (h.mono hgq) hdk oM oM hf
     rw [← edn] at cx_wh0
     rw [oV hg htz ht hlast hd hf] at hit
     repeat' (first | refine jM ?_ | (refine jo ?_;first | refine ar F ?_ | refine ah F ?_ | refine aB F ?_ | refine jL fun _=>?_ | refine jC F F F ?_ | refine ab F F F cx_ng F ?_ | refine ab F F F cx_tk F ?_ | refine ab F F F cx_fld F ?_ | (refine aK F F F cx_wh0 F ?_;rintro _ G hle ⟨q1,rfl⟩;skip)) | refine ak F F F ?_ | refine ac F F ?_ | (refine ad F (by first | rfl | (refine decide_eq_false ?_;(assumption))) ?_))
     all_goals refine jZ (vs:=[_,_,_]) F ⟨F,F,F,trivial⟩ F ⟨(hgq.trans hle),F,?_⟩
     all_goals exact fR (by rw [hit];rfl)
    | some w =>
     have cx_wh1:=lG (G:=Gq) hR (h.mono hgq) hdk oM oM hf
     rw [← edn] at cx_wh1
     have htot:=je _ _ _ _ _ (cO hf)
     simp only [List.length_nil] at htot
     rw [oU hg htz ht hlast hd hf] at hit
     repeat' (first | refine jM ?_ | (refine jo ?_;first | refine ar F ?_ | refine ah F ?_ | refine aB F ?_ | refine jL fun _=>?_ | refine jC F F F ?_ | refine ab F F F cx_ng F ?_ | refine ab F F F cx_tk F ?_ | refine ab F F F cx_fld F ?_ | (refine aK F F F cx_wh1 F ?_;rintro _ G hle ⟨wb,rfl,hrep⟩;skip)) | refine ak F F F ?_ | (refine ad F (by first | rfl | (refine decide_eq_false ?_;(assumption))) ?_))
     have hgl:=hgq.trans hle
     have cx_out:=iy hw hrep oM
     have cx_sta:=om (f:=d) (h.mono hgl) hw hdk
     have hl' : (gs ++ [(d,w)]).length = gs.length + 1:=by simp
     have hbl' : (bs ++ [wb]).length = (gs ++ [(d,w)]).length:=by simp [hbl]
     by_cases heq : w.out = cW (ag vs) d
     ·rw [if_pos heq] at hit
      repeat' (first | refine jR ?_ | (refine ad F ?_ ?_;(focus ((simp [*];done);done))) | (refine aj (am (id:=18) _ (fun _ h=>h) ai ?_);refine jT 5 [0,2] (aa 7 5) ?_;(refine jG (aa 7 13) 3 F (aq F F F) ?_);(refine jG (aa 7 29) 4 F (bD F F F F) ?_);refine jA 1 F ?_;(refine ab F F F cx_out F ?_);refine jS (aa 7 31) ?_;refine jA 5 F ?_;(refine ab F F F cx_sta F ?_);refine jS (aa 7 63) ?_;refine jT 0 [6] (aa 7 127) ?_;refine jQ ?_))
      all_goals exact aY (gs,bs,a1,c1,a2,c2,r',m,tg,G) ⟨⟨⟨hbl,hfm,fun i hi=>(hreps i hi).mono hle⟩,hgl⟩,⟨hit,by dsimp only;omega⟩,by dsimp only;omega,h0,h1⟩ (by dsimp only;omega) tU rfl sB
     ·rw [if_neg heq] at hit
      have hnth : ∀ i,i < (gs ++ [(d,w)]).length → (i < gs.length ∧ ae (gs ++ [(d,w)]) i = ae gs i ∧ ae (bs ++ [wb]) i = ae bs i) ∨ (ae (gs ++ [(d,w)]) i = (d,w) ∧ ae (bs ++ [wb]) i = wb):=fun i hi=>by
       by_cases h1 : i < gs.length
       ·exact .inl ⟨h1,by rw [aW hi,aW h1,List.getElem_append_left h1],by rw [aW oM,aW oM,List.getElem_append_left oM]⟩
       ·have h2 : i = gs.length:=oM
        exact .inr ⟨by rw [aW hi];simp [h2],by rw [aW oM];simp [h2,hbl]⟩
      have hfm' : ∀ i,i < (gs ++ [(d,w)]).length → (ae (gs ++ [(d,w)]) i).1 ∈ fs:=fun i hi=>by
       rcases hnth i hi with ⟨h1,h2,_⟩ | ⟨h2,_⟩
       ·rw [h2];exact hfm i h1
       ·rw [h2];exact hdm
      have hreps' : ∀ i,i < (gs ++ [(d,w)]).length → RepR G (ag vs) (ae (gs ++ [(d,w)]) i).2 (ae (gs ++ [(d,w)]) i).1.kind (ae (bs ++ [wb]) i):=fun i hi=>by
       rcases hnth i hi with ⟨h1,h2,h3⟩ | ⟨h2,h3⟩
       ·rw [h2,h3];exact (hreps i h1).mono hle
       ·rw [h2,h3];exact hrep
      have hnd : o6 (gs ++ [(d,w)]) = o6 gs ++ [.nd 61 [] d.tag [w]]:=by simp [o6]
      have hrow1 : aE gu (gs.map fun p=>p.1.tag) ++ [I tg] = aE gu ((gs ++ [(d,w)]).map fun p=>p.1.tag):=by rw [← hdt,List.map_append];exact (co gu _ d.tag).symm
      have hrow2 : aE eK bs ++ [Pt wb 0] = aE eK (bs ++ [wb]):=(co eK bs wb).symm
      repeat' (first | refine jR ?_ | (refine jo ?_;first | refine ah F ?_ | refine jD F F F ?_ | refine jF fun _=>?_ | refine bY F F F F F F F F F oM fun _ _=>?_) | refine ac F (ay ‹_›) ?_ | (refine aj (am (id:=18) _ (fun _ h=>h) ai ?_);refine jT 5 [0,2] (aa 7 5) ?_;(refine jG (aa 7 13) 3 F (aq F F F) ?_);(refine jG (aa 7 29) 4 F (bD F F F F) ?_);refine jA 1 F ?_;(refine ab F F F cx_out F ?_);refine jS (aa 7 31) ?_;refine jA 5 F ?_;(refine ab F F F cx_sta F ?_);refine jS (aa 7 63) ?_;refine jT 0 [6] (aa 7 127) ?_;refine jQ ?_))
      all_goals
       rename_i _ y1 yc1 _ y2 yc2
       rw [hrow1,hrow2]
       exact aY (gs ++ [(d,w)],bs ++ [wb],some ⟨y1,0,none⟩,yc1,some ⟨y2,0,none⟩,yc2,r',m,tg,G) ⟨⟨⟨hbl',hfm',hreps'⟩,hgl⟩,⟨(by dsimp only;rw [hit,hnd]),(by dsimp only;omega)⟩,(by dsimp only;omega),h0,h1⟩ (by dsimp only;omega) tU rfl (by rw [hl'];repeat (first | exact List.Sublist.refl _ | apply List.Sublist.cons_cons | apply List.Sublist.cons))
theorem abg {n : Nat} {u : Value} {vs : List bS} {a : Option Addr} {ca : Nat} {nm : ac8} {fs : List Fld} {k s : ac8} (h : SchR G u vs) (hw : SchW (ag vs)) (hr : dX vs (64 :: k) = some ((a,ca),⟨69,nm,fs⟩)) (hk : d1 (64 :: k) = true) (hkl : k.length ≤ 999) (hs : s.length ≤ 1000) (hn : n ≤ 999) :
  bn ac7 205 [Ag [u],S s,S (64 :: k),I (n + 1 : Nat)] G (cx (ag vs) (bZ (ag vs) (rb (ag vs) n) ⟨69,nm,fs⟩ s) (64 :: k)):=by
 have hk0 : bt (64 :: k) (Int.toNat 0) = 64:=bi 64 k
 have hkl2 : (64 :: k).length = k.length + 1:=rfl
 have hvl : vs.length ≤ 8:=by have:=hw.len;unfold ag at this;simpa using this
 have href:=dS vs (64 :: k)
 rw [hr] at href
 have cx_rf:=gI (G:=G) (k:=64 :: k) h oM hk oM
 rw [hr] at cx_rf
 have cx_rf : an ac7 141 [u,S (64 :: k)] G (· = Tu [Ag [U8 (69 : Nat),S nm,.slice a fs.length ca],Bo true]):=cx_rf
 have hxm:=eF hr
 have hxt : (⟨69,nm,fs⟩ : Ty) ∈ ag vs:=List.mem_map_of_mem hxm
 have hTW:=hw.ty _ hxt
 have hfl:=hTW.len
 dsimp only at hfl
 have hrd : bZ (ag vs) (rb (ag vs) n) ⟨69,nm,fs⟩ s = match bj s with
   | none=>none
   | some (m,r)=>match bR fs m with
    | none=>none
    | some d=>some (.nd 69 [] d.tag [],r):=by
  unfold bZ
  rw [if_neg (by simp)]
  rcases bj s with _ | ⟨m,r⟩
  ·rfl
  ·dsimp only
   rcases bR fs m with _ | d
   ·rfl
   ·dsimp only;rw [if_pos rfl]
 rw [hrd]
 have cx_ng0:=d7 (G:=G) (s:=s) oM
 cases hg : bj s with
 | none =>
  rw [hg] at cx_ng0
  have cx_ng : an ac7 78 [S s] G (· = Tu [I 0,S [],Bo false]):=cx_ng0
  clear cx_ng0
  have cx_f0:=hX (G:=G) (x:=((a,ca),⟨69,nm,fs⟩)) (tag:=0) (h.fl _ hxm) (by dsimp only;omega)
  have hd : bR fs 0 = none:=kg hTW
  rw [hd] at cx_f0
  have cx_fld : an ac7 185 [Ag [U8 (69 : Nat),S nm,.slice a fs.length ca],I 0] G (· = Tu [Ag [I 0,S [],S [],S []],Bo false]):=cx_f0
  refine jB [(0,_),(1,_),(2,_),(3,_)] Tryz.func205 Tryz.ntmps205 fun B hok hB hW=>?_
  repeat' (first | refine jR ?_ | (refine jo ?_;first | refine jO fun _=>?_ | refine ah F ?_ | refine aB F ?_ | refine jL fun _=>?_ | refine jC F F F ?_ | refine aG F ?_ | refine ab F F F cx_rf F ?_ | refine ab F F F cx_ng F ?_ | refine ab F F F cx_fld F ?_) | refine ax F F F ?_ | refine ac F F ?_ | refine ad F F ?_)
  all_goals refine jZ (vs:=[_,_,_]) F ⟨F,F,F,trivial⟩ F ⟨Gh.le.refl _,F,?_⟩
  all_goals exact fR F
 | some z =>
  obtain ⟨m,r⟩:=z
  obtain ⟨h1,h2,_⟩:=cn hg
  have hl:=bE hg
  rw [hg] at cx_ng0
  have cx_ng : an ac7 78 [S s] G (· = Tu [I m,S r,Bo true]):=cx_ng0
  clear cx_ng0
  have cx_f0:=hX (G:=G) (x:=((a,ca),⟨69,nm,fs⟩)) (tag:=m) (h.fl _ hxm) (by dsimp only;omega)
  dsimp only
  cases hd : bR fs m with
  | none =>
   rw [hd] at cx_f0
   have cx_fld : an ac7 185 [Ag [U8 (69 : Nat),S nm,.slice a fs.length ca],I m] G (· = Tu [Ag [I 0,S [],S [],S []],Bo false]):=cx_f0
   refine jB [(0,_),(1,_),(2,_),(3,_)] Tryz.func205 Tryz.ntmps205 fun B hok hB hW=>?_
   repeat' (first | refine jR ?_ | (refine jo ?_;first | refine jO fun _=>?_ | refine ah F ?_ | refine aB F ?_ | refine jL fun _=>?_ | refine jC F F F ?_ | refine ar F ?_ | refine ab F F F cx_rf F ?_ | refine ab F F F cx_ng F ?_ | refine ab F F F cx_fld F ?_) | refine ak F F F ?_ | refine ac F F ?_ | refine ad F F ?_)
   all_goals refine jZ (vs:=[_,_,_]) F ⟨F,F,F,trivial⟩ F ⟨Gh.le.refl _,F,?_⟩
   all_goals exact fR F
  | some d =>
   rw [hd] at cx_f0
   have cx_fld : an ac7 185 [Ag [U8 (69 : Nat),S nm,.slice a fs.length ca],I m] G (· = Tu [Ag [I d.tag,S d.name,S d.kind,S d.stand],Bo true]):=cx_f0
   have hdm : d ∈ fs:=List.mem_of_find?_eq_some hd
   have hdt : d.tag = m:=(iv hd).1
   refine jB [(0,_),(1,_),(2,_),(3,_)] Tryz.func205 Tryz.ntmps205 fun B hok hB hW=>?_
   repeat' (first | refine jR ?_ | (refine jo ?_;first | refine jO fun _=>?_ | refine ah F ?_ | refine aB F ?_ | refine jL fun _=>?_ | refine jC F F F ?_ | refine ar F ?_ | refine jF fun _=>?_ | refine jV (al F F) ?_ | refine ab F F F cx_rf F ?_ | refine ab F F F cx_ng F ?_ | refine ab F F F cx_fld F ?_) | refine ak F F F ?_ | refine ac F F ?_ | refine ad F F ?_)
   all_goals
    rename_i y1 y8
    refine Nx.sealC (b:=y1) fun G2 hG2 hs1=>?_
    refine Nx.sealC (b:=y8) fun G3 hG3 hsg=>?_
    refine jZ (vs:=[_,_,_]) F ⟨F,F,F,trivial⟩ F ⟨(hG2.trans hG3),F,?_⟩
    rw [← hdt] at hs1
    exact pd F (.enm (64 :: k) y8 y1 ⟨69,nm,fs⟩ d ⟨href.symm,F⟩ hdm hsg (hs1.mono hG3))
theorem aa9 {n : Nat} {u : Value} {vs : List bS} {a : Option Addr} {ca : Nat} {nm : ac8} {fs : List Fld} {k s : ac8} (hR : lT n u vs) (h : SchR G u vs) (hw : SchW (ag vs)) (hr : dX vs (64 :: k) = some ((a,ca),⟨85,nm,fs⟩)) (hk : d1 (64 :: k) = true) (hkl : k.length ≤ 999) (hs : s.length ≤ 1000) (hn : n ≤ 999) :
  bn ac7 205 [Ag [u],S s,S (64 :: k),I (n + 1 : Nat)] G (cx (ag vs) (bZ (ag vs) (rb (ag vs) n) ⟨85,nm,fs⟩ s) (64 :: k)):=by
 have edn : ((n + 1 : Nat) : Int) - 1 = (n : Nat):=oM
 have hk0 : bt (64 :: k) (Int.toNat 0) = 64:=bi 64 k
 have hkl2 : (64 :: k).length = k.length + 1:=rfl
 have hvl : vs.length ≤ 8:=by have:=hw.len;unfold ag at this;simpa using this
 have href:=dS vs (64 :: k)
 rw [hr] at href
 have cx_rf:=gI (G:=G) (k:=64 :: k) h oM hk oM
 rw [hr] at cx_rf
 have cx_rf : an ac7 141 [u,S (64 :: k)] G (· = Tu [Ag [U8 (85 : Nat),S nm,.slice a fs.length ca],Bo true]):=cx_rf
 have hxm:=eF hr
 have hxt : (⟨85,nm,fs⟩ : Ty) ∈ ag vs:=List.mem_map_of_mem hxm
 have hTW:=hw.ty _ hxt
 have hfl:=hTW.len
 dsimp only at hfl
 have hrd : bZ (ag vs) (rb (ag vs) n) ⟨85,nm,fs⟩ s = match bj s with
   | none=>none
   | some (m,r)=>match bR fs m with
    | none=>none
    | some d=>match b5 r with
     | none=>none
     | some (p,r')=>(cQ (rb (ag vs) n) d.kind p).map fun v=>(.nd 85 [] d.tag [v],r'):=by
  unfold bZ
  rw [if_neg (by simp)]
  rcases bj s with _ | ⟨m,r⟩
  ·rfl
  ·dsimp only
   rcases bR fs m with _ | d
   ·rfl
   ·dsimp only;rw [if_neg (by simp)]
    all_goals (rcases b5 r with _ | ⟨p,r'⟩ <;> rfl)
 rw [hrd]
 have cx_ng0:=d7 (G:=G) (s:=s) oM
 cases hg : bj s with
 | none =>
  rw [hg] at cx_ng0
  have cx_ng : an ac7 78 [S s] G (· = Tu [I 0,S [],Bo false]):=cx_ng0
  clear cx_ng0
  have cx_f0:=hX (G:=G) (x:=((a,ca),⟨85,nm,fs⟩)) (tag:=0) (h.fl _ hxm) (by dsimp only;omega)
  have hd : bR fs 0 = none:=kg hTW
  rw [hd] at cx_f0
  have cx_fld : an ac7 185 [Ag [U8 (85 : Nat),S nm,.slice a fs.length ca],I 0] G (· = Tu [Ag [I 0,S [],S [],S []],Bo false]):=cx_f0
  refine jB [(0,_),(1,_),(2,_),(3,_)] Tryz.func205 Tryz.ntmps205 fun B hok hB hW=>?_
  repeat' (first | refine jR ?_ | (refine jo ?_;first | refine jO fun _=>?_ | refine ah F ?_ | refine aB F ?_ | refine jL fun _=>?_ | refine jC F F F ?_ | refine aG F ?_ | refine ab F F F cx_rf F ?_ | refine ab F F F cx_ng F ?_ | refine ab F F F cx_fld F ?_) | refine ax F F F ?_ | refine ac F F ?_ | refine ad F F ?_)
  all_goals refine jZ (vs:=[_,_,_]) F ⟨F,F,F,trivial⟩ F ⟨Gh.le.refl _,F,?_⟩
  all_goals exact fR F
 | some z =>
  obtain ⟨m,r⟩:=z
  obtain ⟨h1,h2,_⟩:=cn hg
  have hl:=bE hg
  rw [hg] at cx_ng0
  have cx_ng : an ac7 78 [S s] G (· = Tu [I m,S r,Bo true]):=cx_ng0
  clear cx_ng0
  have cx_f0:=hX (G:=G) (x:=((a,ca),⟨85,nm,fs⟩)) (tag:=m) (h.fl _ hxm) (by dsimp only;omega)
  dsimp only
  cases hd : bR fs m with
  | none =>
   rw [hd] at cx_f0
   have cx_fld : an ac7 185 [Ag [U8 (85 : Nat),S nm,.slice a fs.length ca],I m] G (· = Tu [Ag [I 0,S [],S [],S []],Bo false]):=cx_f0
   refine jB [(0,_),(1,_),(2,_),(3,_)] Tryz.func205 Tryz.ntmps205 fun B hok hB hW=>?_
   repeat' (first | refine jR ?_ | (refine jo ?_;first | refine jO fun _=>?_ | refine ah F ?_ | refine aB F ?_ | refine jL fun _=>?_ | refine jC F F F ?_ | refine ar F ?_ | refine ab F F F cx_rf F ?_ | refine ab F F F cx_ng F ?_ | refine ab F F F cx_fld F ?_) | refine ak F F F ?_ | refine ac F F ?_ | refine ad F F ?_)
   all_goals refine jZ (vs:=[_,_,_]) F ⟨F,F,F,trivial⟩ F ⟨Gh.le.refl _,F,?_⟩
   all_goals exact fR F
  | some d =>
   rw [hd] at cx_f0
   have cx_fld : an ac7 185 [Ag [U8 (85 : Nat),S nm,.slice a fs.length ca],I m] G (· = Tu [Ag [I d.tag,S d.name,S d.kind,S d.stand],Bo true]):=cx_f0
   have hdm : d ∈ fs:=List.mem_of_find?_eq_some hd
   have hdt : d.tag = m:=(iv hd).1
   have hdk : aO (ag vs) d.kind = true:=dT hw hxt (by dsimp only;omega) hdm
   have cx_tk0:=ot (G:=G) (s:=r) oM
   dsimp only
   cases ht : b5 r with
   | none =>
    rw [ht] at cx_tk0
    have cx_tk : an ac7 203 [S r] G (· = Tu [S [],S [],Bo false]):=cx_tk0
    refine jB [(0,_),(1,_),(2,_),(3,_)] Tryz.func205 Tryz.ntmps205 fun B hok hB hW=>?_
    repeat' (first | refine jR ?_ | (refine jo ?_;first | refine jO fun _=>?_ | refine ah F ?_ | refine aB F ?_ | refine jL fun _=>?_ | refine jC F F F ?_ | refine ar F ?_ | refine ab F F F cx_rf F ?_ | refine ab F F F cx_ng F ?_ | refine ab F F F cx_fld F ?_ | refine ab F F F cx_tk F ?_) | refine ak F F F ?_ | refine ac F F ?_ | refine ad F F ?_)
    all_goals refine jZ (vs:=[_,_,_]) F ⟨F,F,F,trivial⟩ F ⟨Gh.le.refl _,F,?_⟩
    all_goals exact fR F
   | some y =>
    obtain ⟨p,r'⟩:=y
    have hl2:=d4 ht
    rw [ht] at cx_tk0
    have cx_tk : an ac7 203 [S r] G (· = Tu [S p,S r',Bo true]):=cx_tk0
    dsimp only
    cases hf : cQ (rb (ag vs) n) d.kind p with
    | none =>
     have cx_wh0:=og (G:=G) hR h hdk oM oM hf
     rw [← edn] at cx_wh0
     refine jB [(0,_),(1,_),(2,_),(3,_)] Tryz.func205 Tryz.ntmps205 fun B hok hB hW=>?_
     repeat' (first | refine jM ?_ | (refine jo ?_;first | refine jO fun _=>?_ | refine ah F ?_ | refine aB F ?_ | refine jL fun _=>?_ | refine jC F F F ?_ | refine ar F ?_ | refine jF fun _=>?_ | refine jV (al F F) ?_ | refine ab F F F cx_rf F ?_ | refine ab F F F cx_ng F ?_ | refine ab F F F cx_fld F ?_ | refine ab F F F cx_tk F ?_ | (refine aK F F F cx_wh0 F ?_;rintro _ G hle ⟨q1,rfl⟩;skip)) | refine ak F F F ?_ | refine ad F F ?_)
     all_goals refine jZ (vs:=[_,_,_]) F ⟨F,F,F,trivial⟩ F ⟨hle,F,?_⟩
     all_goals exact fR F
    | some w =>
     have cx_wh1:=lG (G:=G) hR h hdk oM oM hf
     rw [← edn] at cx_wh1
     refine jB [(0,_),(1,_),(2,_),(3,_)] Tryz.func205 Tryz.ntmps205 fun B hok hB hW=>?_
     repeat' (first | refine jM ?_ | (refine jo ?_;first | refine jO fun _=>?_ | refine ah F ?_ | refine aB F ?_ | refine jL fun _=>?_ | refine jC F F F ?_ | refine ar F ?_ | refine jF fun _=>?_ | refine jV (al F F) ?_ | refine ab F F F cx_rf F ?_ | refine ab F F F cx_ng F ?_ | refine ab F F F cx_fld F ?_ | refine ab F F F cx_tk F ?_ | (refine aK F F F cx_wh1 F ?_;rintro _ G hle ⟨wb,rfl,hrep⟩;skip)) | refine ak F F F ?_ | refine ad F F ?_)
     all_goals
      rename_i y1 y2 y8
      refine Nx.sealC (b:=y1) fun G2 hG2 hs1=>?_
      refine Nx.sealC (b:=y2) fun G3 hG3 hs2=>?_
      refine Nx.sealC (b:=y8) fun G4 hG4 hsg=>?_
      refine jZ (vs:=[_,_,_]) F ⟨F,F,F,trivial⟩ F ⟨(((hle.trans hG2).trans hG3).trans hG4),F,?_⟩
      rw [← hdt] at hs1
      exact pd F (.uni (64 :: k) y8 y1 y2 wb 1 ⟨85,nm,fs⟩ d w (Nat.le_refl _) ⟨href.symm,F⟩ hdm hsg ((hs1.mono hG3).mono hG4) (hs2.mono hG4) (hrep.mono ((hG2.trans hG3).trans hG4)))
theorem abb {n : Nat} {u : Value} {vs : List bS} {a : Option Addr} {ca : Nat} {nm : ac8} {fs : List Fld} {k s : ac8} (hR : lT n u vs) (h : SchR G u vs) (hw : SchW (ag vs)) (hr : dX vs (64 :: k) = some ((a,ca),⟨82,nm,fs⟩)) (hk : d1 (64 :: k) = true) (hkl : k.length ≤ 999) (hs : s.length ≤ 1000) (hn : n ≤ 999) :
  bn ac7 205 [Ag [u],S s,S (64 :: k),I (n + 1 : Nat)] G (cx (ag vs) (bZ (ag vs) (rb (ag vs) n) ⟨82,nm,fs⟩ s) (64 :: k)):=by
 have hk0 : bt (64 :: k) (Int.toNat 0) = 64:=bi 64 k
 have hkl2 : (64 :: k).length = k.length + 1:=rfl
 have hvl : vs.length ≤ 8:=by have:=hw.len;unfold ag at this;simpa using this
 have cx_rf:=gI (G:=G) (k:=64 :: k) h oM hk oM
 rw [hr] at cx_rf
 have cx_rf : an ac7 141 [u,S (64 :: k)] G (· = Tu [Ag [U8 (82 : Nat),S nm,.slice a fs.length ca],Bo true]):=cx_rf
 have cx_fds:=wr (G:=G) (s:=s) hR h hw hr hk hkl hs hn
 have hrd : bZ (ag vs) (rb (ag vs) n) ⟨82,nm,fs⟩ s = (bN (ag vs) (rb (ag vs) n) ⟨82,nm,fs⟩ (s.length + 1) 0 s []).map fun x=>(.nd 82 [] 0 x.1,x.2):=by
  unfold bZ;rw [if_pos rfl]
 rw [hrd]
 refine jB [(0,_),(1,_),(2,_),(3,_)] Tryz.func205 Tryz.ntmps205 fun B hok hB hW=>?_
 repeat' (first | refine jR ?_ | (refine jo ?_;first | refine jO fun _=>?_ | refine ah F ?_ | refine aB F ?_ | refine jL fun _=>?_ | refine jC F F F ?_ | refine ab F F F cx_rf F ?_ | (refine aK F F F cx_fds F ?_;rintro _ G hle ⟨q1,r1,ok1,rfl,hyes,hno⟩;skip)) | refine ac F F ?_)
 all_goals refine jZ (vs:=[_,_,_]) F ⟨F,F,F,trivial⟩ F ⟨hle,F,?_⟩
 all_goals (rw [aD];exact ⟨_,_,_,F,hyes,hno⟩)
def gD (s k b : ac8) : Option V:=match aQ s with
 | some ts=>if aO ts k = true ∧ b.length ≤ 600 then (match cQ (rb ts 12) k b with
  | some v=>if v.out.length ≤ 400 then some v else none
  | none=>none) else none
 | none=>none
def iH (s k b : ac8) : Option V:=match aQ s with
 | some ts=>if aO ts k = true ∧ b.length ≤ 600 then (match cQ (rb ts 13) k b with
  | some v=>if v.out.length ≤ 400 ∧ v.deep ≤ 12 then some v else none
  | none=>none) else none
 | none=>none
def cr (s k b : ac8) : Option V:=match aQ s with
 | some ts=>if aO ts k = true ∧ b.length ≤ 600 then jq ts k b else none
 | none=>none
theorem pP {s k b : ac8} {v : V} (h : gD s k b = some v) : ∃ ts,aQ s = some ts ∧ aO ts k = true ∧ b.length ≤ 600 ∧ cQ (rb ts 12) k b = some v ∧ v.out.length ≤ 400:=by
 unfold gD at h
 split at h
 ·rename_i ts hs
  split at h
  ·rename_i hk
   split at h
   ·rename_i u hu
    split at h
    ·cases h;exact ⟨ts,hs,hk.1,hk.2,hu,by assumption⟩
    ·cases h
   ·cases h
  ·cases h
 ·cases h
theorem pQ {s k b : ac8} {v : V} (h : iH s k b = some v) : ∃ ts,aQ s = some ts ∧ aO ts k = true ∧ b.length ≤ 600 ∧ cQ (rb ts 13) k b = some v ∧ v.out.length ≤ 400 ∧ v.deep ≤ 12:=by
 unfold iH at h
 split at h
 ·rename_i ts hs
  split at h
  ·rename_i hk
   split at h
   ·rename_i u hu
    split at h
    ·rename_i hc
     cases h;exact ⟨ts,hs,hk.1,hk.2,hu,hc.1,hc.2⟩
    ·cases h
   ·cases h
  ·cases h
 ·cases h
theorem kq {s k b : ac8} {v : V} (h : cr s k b = some v) : ∃ ts,aQ s = some ts ∧ aO ts k = true ∧ b.length ≤ 600 ∧ OfK ts k v ∧ v.deep ≤ 12 ∧ v.out.length ≤ 400 ∧ v.bys = b:=by
 unfold cr at h
 split at h
 ·rename_i ts hs
  split at h
  ·rename_i hk
   obtain ⟨h1,h2,h3,h4⟩:=(lF (cH hs) oM).1 h
   exact ⟨ts,hs,hk.1,hk.2,h1,h2,h3,h4⟩
  ·cases h
 ·cases h
theorem v4 {s k : ac8} {ts : List Ty} {v : V} (hs : aQ s = some ts) (hk : aO ts k = true) (h : OfK ts k v) (hd : v.deep ≤ 12) (ho : v.out.length ≤ 400) (hb : v.bys.length ≤ 600) : cr s k v.bys = some v:=by
 unfold cr
 rw [hs]
 dsimp only
 rw [if_pos ⟨hk,hb⟩]
 exact (lF (cH hs) oM).2 ⟨h,hd,ho,F⟩
theorem pc {s k b : ac8} {v : V} (h : gD s k b = some v) : cr s k b = if v.bys = b then some v else none:=by
 obtain ⟨ts,hs,hk,hb,hr,ho⟩:=pP h
 have hr2:=cO hr
 unfold cr jq
 rw [hs]
 dsimp only
 rw [if_pos ⟨hk,hb⟩,hr2]
 dsimp only
 by_cases h1 : v.bys = b
 ·rw [if_pos h1,if_pos ⟨h1,ho⟩]
 ·rw [if_neg h1,if_neg fun h=>h1 h.1]
theorem tL {s k b : ac8} (h : gD s k b = none) : cr s k b = none:=by
 cases hc : cr s k b with
 | none=>rfl
 | some v =>
  obtain ⟨ts,hs,hk,hb,h1,h2,h3,rfl⟩:=kq hc
  have:=oR (cH hs) 12 h1 h2 oM []
  rw [List.append_nil] at this
  unfold gD at h
  rw [hs] at h
  dsimp only at h
  rw [if_pos ⟨hk,hb⟩,gf this] at h
  dsimp only at h
  rw [if_pos h3] at h
  cases h
theorem uU {s k b : ac8} {v : V} (h : cr s k b = some v) : gD s k b = some v:=by
 cases hg : gD s k b with
 | none=>rw [tL hg] at h;cases h
 | some u =>
  rw [pc hg] at h
  split at h
  ·exact h
  ·cases h
theorem uJ {s k b : ac8} {v : V} (h : iH s k b = some v) : cr s k b = if v.bys = b then some v else none:=by
 obtain ⟨ts,hs,hk,hb,hr,ho,hd⟩:=pQ h
 have hr2:=cO hr
 unfold cr
 rw [hs]
 dsimp only
 rw [if_pos ⟨hk,hb⟩]
 by_cases h1 : v.bys = b
 ·rw [if_pos h1]
  exact (sm (cH hs) oM).2 ⟨hr2,hd,ho,h1⟩
 ·rw [if_neg h1]
  cases hc : jq ts k b with
  | none=>rfl
  | some u =>
   obtain ⟨g1,g2,g3,g4⟩:=(sm (cH hs) oM).1 hc
   rw [hr2] at g1
   simp only [Option.some.injEq,Prod.mk.injEq,and_true] at g1
   subst g1
   exact absurd g4 h1
theorem lE {s k b : ac8} {v : V} (h : cr s k b = some v) : iH s k b = some v:=by
 obtain ⟨ts,hs,hk,hb,h1,h2,h3,rfl⟩:=kq h
 have:=oR (cH hs) 13 h1 oM oM []
 rw [List.append_nil] at this
 unfold iH
 rw [hs]
 dsimp only
 rw [if_pos ⟨hk,hb⟩,gf this]
 dsimp only
 rw [if_pos ⟨h3,h2⟩]
theorem yB {s k b : ac8} (h : iH s k b = none) : cr s k b = none:=by
 cases hc : cr s k b with
 | none=>rfl
 | some v=>rw [lE hc] at h;cases h
theorem wU {s k : ac8} {v : V} {ts : List Ty} (hs : aQ s = some ts) (hk : aO ts k = true) (h : OfK ts k v) (hd : v.deep ≤ 12) (ho : v.out.length ≤ 400) : ff s k v.out = some v:=by
 unfold ff
 rw [hs]
 dsimp only
 rw [if_pos hk]
 exact nN (cH hs) h ho hd
theorem nJ {s k : ac8} {v : V} {ts : List Ty} (hs : aQ s = some ts) (hk : aO ts k = true) (h : OfK ts k v) (hd : v.deep ≤ 12) (ho : v.out.length ≤ 400) : c6 s k v.out = if v.bys.length ≤ 600 then some v.bys else none:=by
 unfold c6
 rw [wU hs hk h hd ho]
theorem v3 {s k b : ac8} {v : V} (h : cr s k b = some v) : c6 s k v.out = some b:=by
 obtain ⟨ts,hs,hk,hb,h1,h2,h3,rfl⟩:=kq h
 rw [nJ hs hk h1 h2 h3,if_pos hb]
theorem mj {s k w b : ac8} (h : c6 s k w = some b) : ∃ v,cr s k b = some v ∧ v.out = w:=by
 unfold c6 at h
 split at h
 ·rename_i u hu
  split at h
  ·rename_i hl
   cases h
   obtain ⟨ts,hs,hk,hv,ht,hw⟩:=lq hu
   obtain ⟨h4,h5,h6⟩:=qe hv
   exact ⟨u,v4 hs hk (oA hv) h6 (by rw [h4];exact h5) hl,h4⟩
  ·cases h
 ·cases h
theorem abh {n : Nat} {u : Value} {ts : List Ty} {k s : ac8} {c e : UInt8} (hc : c = 64) (hu : u.oneCell' = true)
  (cx_typ : bn ac7 205 [Ag [u],S (e :: s),S (c :: k),I (n + 1 : Nat)] G (cx ts (rb ts (n + 1) (c :: k) (e :: s)) (c :: k))) (hs : s.length ≤ 999) (hkl : k.length ≤ 1000) (hn : n ≤ 999) :
  bn ac7 183 [Ag [u],S (e :: s),S (c :: k),I (n + 1 : Nat)] G (cx ts (rb ts (n + 1) (c :: k) (e :: s)) (c :: k)):=by
 have hel : (e :: s).length = s.length + 1:=rfl
 have hkl2 : (c :: k).length = k.length + 1:=rfl
 subst hc
 have hk0 : bt (64 :: k) (Int.toNat 0) = 64:=bi 64 k
 refine jB [(0,_),(1,_),(2,_),(3,_)] Tryz.func183 Tryz.ntmps183 fun B hok hB hW=>?_
 repeat' (first | refine jM ?_ | (refine jo ?_;first | refine jO fun _=>?_ | refine ar F ?_ | refine aB F ?_ | (refine aK F F F cx_typ F ?_;rintro _ G hle ⟨q1,r1,ok1,rfl,hyes,hno⟩;skip)) | refine ak F F F ?_ | refine ad F F ?_)
 all_goals refine jZ (vs:=[_,_,_]) F ⟨F,F,F,trivial⟩ F ⟨hle,F,?_⟩
 all_goals (rw [aD];exact ⟨_,_,_,F,hyes,hno⟩)
theorem lr {u : Value} {vs : List bS} (hw : SchW (ag vs)) : ∀ n,n ≤ 1000 → lT n u vs
 | 0,_=>fun G k s _ _ _=>wn (.inr rfl) oM
 | n + 1,hn=>fun G k s h hk hs=>by
  have hR:=lr (u:=u) (vs:=vs) hw n oM
  have hkk:=cT (db hk)
  have hvl : vs.length ≤ 8:=by have:=hw.len;unfold ag at this;simpa using this
  match s,hs with
  | [],_=>exact wn (.inl F) hn
  | e :: s,hs =>
   have hs1:=hs
   simp only [List.length_cons] at hs
   match k,hk,hkk with
   | [],hk,_=>cases hk
   | c :: k,hk,hkk =>
    have hkl:=hkk.2
    simp only [List.length_cons] at hkl
    by_cases h1 : c.toNat = 91
    ·obtain rfl : c = 91:=bm h1 dC
     exact abe hR h hk oM oM oM
    by_cases h2 : c.toNat = 63
    ·obtain rfl : c = 63:=bm h2 dC
     exact abc hR h hk oM oM
    have h91 : ¬ (c.toNat = 91 ∨ c.toNat = 63):=fun h=>by rcases h with h | h <;> omega
    cases hr : a7 (ag vs) (c :: k) with
    | some t =>
     obtain ⟨r,e1⟩:=fp hr
     simp only [List.cons.injEq] at e1
     obtain ⟨rfl,rfl⟩:=e1
     have href:=dS vs (64 :: k)
     rcases hrv : dX vs (64 :: k) with _ | x
     ·rw [hrv,hr] at href;cases href
     obtain ⟨⟨a,ca⟩,⟨so,nm,fs⟩⟩:=x
     have hso:=(hw.ty _ (List.mem_map_of_mem (eF hrv))).sort
     dsimp only at hso
     rw [hrv] at href
     refine abh F h.sl.one ?_ oM oM oM
     rw [wT href.symm]
     rcases hso with rfl | rfl | rfl
     ·exact abb hR h hw hrv hkk.1 oM hs1 oM
     ·exact aa9 hR h hw hrv hkk.1 oM hs1 oM
     ·exact abg h hw hrv hkk.1 oM hs1 oM
    | none =>
     rcases eG hk h91 hr with e1 | e1 | e1
     ·simp only [List.cons.injEq] at e1
      obtain ⟨rfl,rfl⟩:=e1
      rw [aad hr]
      exact abd h.sl.one (by simp) hs1 oM
     ·simp only [List.cons.injEq] at e1
      obtain ⟨rfl,rfl⟩:=e1
      rw [aab hr]
      exact aba h.sl.one (by simp) hs1 oM
     ·simp only [List.cons.injEq] at e1
      obtain ⟨rfl,rfl⟩:=e1
      rw [aae hr]
      exact abf h.sl.one oM oM
theorem t8 {s k b : ac8} (h : s.length ≤ 1048576 ∧ k.length ≤ 1048576 ∧ b.length ≤ 1048576) (hg : gD s k b = none) : bn ac7 113 [S s,S k,S b] G (fun v _=>∃ u q,v = Tu [u,.pointer q,Bo false]):=by
 by_cases hk : bQ s k = true
 case neg =>
  have hk2 : bQ s k = false:=by simpa using hk
  have cx_lk1 : ∀ G,bn ac7 62 [S s,S k] G (fun v _=>∃ u,v = Tu [u,Bo false]):=fun G=>by
   refine (eh (G:=G) (s:=s) (k:=k) oM oM).mono ?_
   rintro v G' L' ⟨h1,h2,u,vs,rfl,_⟩
   exact ⟨h1,h2,u,by rw [hk2]⟩
  refine jB [(0,_),(1,_),(2,_)] Tryz.func113 Tryz.ntmps113 fun B hok hB hW=>?_
  repeat' (first | refine jR ?_ | (refine jo ?_;first | refine aG F ?_ | (refine aK F F F (cx_lk1 _) F ?_;rintro _ G hle ⟨u1,rfl⟩;skip)) | refine ax F F F ?_ | refine ac F F ?_)
  all_goals refine jZ (vs:=[_,_,_]) F ⟨F,F,F,trivial⟩ F ⟨hle,F,?_⟩
  all_goals exact ⟨_,_,F⟩
 obtain ⟨ts,hs,hki,hw⟩:=ik hk
 have cx_lka : ∀ G,bn ac7 62 [S s,S k] G (fun v G'=>∃ a c vs,v = Tu [.slice a vs.length c,Bo true] ∧ SchR G' (.slice a vs.length c) vs ∧ ag vs = ts):=fun G=>by
  refine (eh (G:=G) (s:=s) (k:=k) oM oM).mono ?_
  rintro v G' L' ⟨h1,h2,u,vs,rfl,h4,_,h6⟩
  obtain ⟨_,⟨rfl,h0⟩ | ⟨b,o,cap,rfl,_,_⟩⟩:=h4.sl
  ·exact ⟨h1,h2,none,0,vs,by rw [hk,h0],by rw [h0];exact h4,h6 ts hs hki⟩
  ·exact ⟨h1,h2,_,cap,vs,by rw [hk],h4,h6 ts hs hki⟩
 by_cases hl : b.length ≤ 600
 case neg =>
  refine jB [(0,_),(1,_),(2,_)] Tryz.func113 Tryz.ntmps113 fun B hok hB hW=>?_
  repeat' (first | refine jR ?_ | (refine jo ?_;first | refine ar F ?_ | (refine aK F F F (cx_lka _) F ?_;rintro _ G hle ⟨av1,cv1,vs1,rfl,hR1,hT1⟩;skip)) | refine ak F F F ?_ | refine ac F (ay oM) ?_)
  all_goals refine jZ (vs:=[_,_,_]) F ⟨F,F,F,trivial⟩ F ⟨hle,F,?_⟩
  all_goals exact ⟨_,_,F⟩
 unfold gD at hg
 rw [hs] at hg
 dsimp only at hg
 rw [if_pos ⟨hki,hl⟩] at hg
 refine jB [(0,_),(1,_),(2,_)] Tryz.func113 Tryz.ntmps113 fun B hok hB hW=>?_
 repeat' (first | refine jR ?_ | (refine jo ?_;first | refine ar F ?_ | refine jV (al F F) ?_ | (refine aK F F F (cx_lka _) F ?_;rintro _ G hle ⟨av1,cv1,vs1,rfl,hR1,hT1⟩;skip)) | refine ak F F F ?_ | refine ad F (aC oM) ?_)
 subst hT1
 have hle0:=hle
 cases hf : cQ (rb (ag vs1) 12) k b with
 | none =>
  have cx_wh0:=og (lr (u:=.slice av1 vs1.length cv1) (vs:=vs1) hw 12 oM) hR1 hki oM oM hf
  repeat' (first | refine jR ?_ | (refine jo ?_;(refine aK F F F cx_wh0 F ?_;rintro _ G hle ⟨q1,rfl⟩;skip)) | refine ac F F ?_)
  all_goals refine jZ (vs:=[_,_,_]) F ⟨F,F,F,trivial⟩ F ⟨(hle0.trans hle),F,?_⟩
  all_goals exact ⟨_,_,F⟩
 | some v =>
  rw [hf] at hg
  have htot:=je _ _ _ _ _ (cO hf)
  simp only [List.length_nil] at htot
  have hvn : cg (ag vs1) k v.out = none:=sZ hw (lb _ _ _ _ (cO hf)).1 fun h=>by dsimp only at hg;rw [if_pos h.1] at hg;cases hg
  have cx_wh1:=lG (lr (u:=.slice av1 vs1.length cv1) (vs:=vs1) hw 12 oM) hR1 hki oM oM hf
  refine jo ?_
  refine aK F F F cx_wh1 F ?_
  rintro _ G2 hle2 ⟨wb,rfl,hrep⟩
  have hR2:=hR1.mono hle2
  have cx_out:=iy hw hrep oM
  have cx_bk:=sx (k:=k) (s:=v.out) hw hR2 hki
  rw [hvn] at cx_bk
  repeat' (first | refine jR ?_ | (refine jo ?_;first | refine ab F F F cx_out F ?_ | (refine aK F F F cx_bk F ?_;rintro _ G hle rfl;skip)) | refine ad F F ?_)
  all_goals refine jZ (vs:=[_,_,_]) F ⟨F,F,F,trivial⟩ F ⟨((hle0.trans hle2).trans hle),F,?_⟩
  all_goals exact ⟨_,_,F⟩
theorem t7 {s k b : ac8} {v : V} (h : s.length ≤ 1048576 ∧ k.length ≤ 1048576 ∧ b.length ≤ 1048576) (hg : gD s k b = some v) : bn ac7 113 [S s,S k,S b] G (fun r G'=>∃ a c vs wb,r = Tu [.slice a vs.length c,Pt wb 0,Bo true] ∧ SchR G' (.slice a vs.length c) vs ∧ aQ s = some (ag vs) ∧ RepR G' (ag vs) v k wb):=by
 obtain ⟨ts,hs,hki,hl,hf,ho⟩:=pP hg
 have hw:=cH hs
 have hk : bQ s k = true:=by unfold bQ;rw [hs];exact hki
 have cx_lka : ∀ G,bn ac7 62 [S s,S k] G (fun v G'=>∃ a c vs,v = Tu [.slice a vs.length c,Bo true] ∧ SchR G' (.slice a vs.length c) vs ∧ ag vs = ts):=fun G=>by
  refine (eh (G:=G) (s:=s) (k:=k) oM oM).mono ?_
  rintro v G' L' ⟨h1,h2,u,vs,rfl,h4,_,h6⟩
  obtain ⟨_,⟨rfl,h0⟩ | ⟨b,o,cap,rfl,_,_⟩⟩:=h4.sl
  ·exact ⟨h1,h2,none,0,vs,by rw [hk,h0],by rw [h0];exact h4,h6 ts hs hki⟩
  ·exact ⟨h1,h2,_,cap,vs,by rw [hk],h4,h6 ts hs hki⟩
 have htot:=je _ _ _ _ _ (cO hf)
 simp only [List.length_nil] at htot
 obtain ⟨hk1,hd⟩:=lb _ _ _ _ (cO hf)
 have hvs:=nN hw hk1 ho hd
 refine jB [(0,_),(1,_),(2,_)] Tryz.func113 Tryz.ntmps113 fun B hok hB hW=>?_
 repeat' (first | refine jR ?_ | (refine jo ?_;first | refine ar F ?_ | refine jV (al F F) ?_ | (refine aK F F F (cx_lka _) F ?_;rintro _ G hle ⟨av1,cv1,vs1,rfl,hR1,hT1⟩;skip)) | refine ak F F F ?_ | refine ad F (aC oM) ?_)
 subst hT1
 have hle0:=hle
 have cx_wh1:=lG (lr (u:=.slice av1 vs1.length cv1) (vs:=vs1) hw 12 oM) hR1 hki oM oM hf
 refine jo ?_
 refine aK F F F cx_wh1 F ?_
 rintro _ G2 hle2 ⟨wb,rfl,hrep⟩
 have hR2:=hR1.mono hle2
 have cx_out:=iy hw hrep oM
 have cx_bk:=sx (k:=k) (s:=v.out) hw hR2 hki
 rw [hvs] at cx_bk
 repeat' (first | refine jR ?_ | (refine jo ?_;first | refine ab F F F cx_out F ?_ | (refine aK F F F cx_bk F ?_;rintro _ G hle rfl;skip)) | refine ad F F ?_)
 all_goals refine jZ (vs:=[_,_,_]) F ⟨F,F,F,trivial⟩ F ⟨((hle0.trans hle2).trans hle),F,?_⟩
 all_goals exact ⟨_,_,_,_,F,hR2.mono hle,hs,hrep.mono hle⟩
theorem tK {s k b : ac8} {v : V} (h : gD s k b = some v) : v.wf ∧ v.tot ≤ 60000:=by
 obtain ⟨ts,hs,hki,hl,hf,ho⟩:=pP h
 have htot:=je _ _ _ _ _ (cO hf)
 simp only [List.length_nil] at htot
 obtain ⟨hk1,hd⟩:=lb _ _ _ _ (cO hf)
 exact ⟨(rh (nN (cH hs) hk1 ho hd)).1,oM⟩
theorem tl {s k b : ac8} (h : s.length ≤ 1048576 ∧ k.length ≤ 1048576 ∧ b.length ≤ 1048576) : an ac7 80 [S s,S k,S b] G (· = kM ((gD s k b).map V.out)):=by
 cases hg : gD s k b with
 | none =>
  have cx_l50:=t8 (G:=G) h hg
  refine jB (Post:=fun v G' L'=>G' = G ∧ L' = [] ∧ _) [(0,_),(1,_),(2,_)] Tryz.func80 Tryz.ntmps80 fun B hok hB hW=>?_
  repeat' (first | refine jR ?_ | (refine jo ?_;(refine aK F F F cx_l50 F ?_;rintro _ G hle ⟨u5,q5,rfl⟩;skip)) | refine ac F F ?_)
  all_goals refine Nx.base hok hB ?_
  all_goals refine jY (vs:=[_,_]) ?_
  all_goals rfl
 | some v =>
  obtain ⟨hwf,htot⟩:=tK hg
  have cx_l5:=t7 (G:=G) h hg
  refine jB (Post:=fun v G' L'=>G' = G ∧ L' = [] ∧ _) [(0,_),(1,_),(2,_)] Tryz.func80 Tryz.ntmps80 fun B hok hB hW=>?_
  repeat' (first | refine jR ?_ | (refine jo ?_;(refine aK F F F cx_l5 F ?_;rintro _ G hle ⟨a5,c5,vs5,wb5,rfl,hR5,hs5,hrep5⟩;skip)) | refine ad F F ?_)
  have cx_out:=iy (cH hs5) hrep5 oM
  repeat' (first | refine jR ?_ | (refine jo ?_;refine ab F F F cx_out F ?_))
  all_goals refine Nx.base hok hB ?_
  all_goals refine jY (vs:=[_,_]) ?_
  all_goals rfl
theorem q6 {s k b : ac8} (h : s.length ≤ 1048576 ∧ k.length ≤ 1048576 ∧ b.length ≤ 1048576) : an ac7 79 [S s,S k,S b] G (· = Bo (cr s k b).isSome):=by
 cases hg : gD s k b with
 | none =>
  have cx_l50:=t8 (G:=G) h hg
  rw [tL hg]
  refine jB (Post:=fun v G' L'=>G' = G ∧ L' = [] ∧ _) [(0,_),(1,_),(2,_)] Tryz.func79 Tryz.ntmps79 fun B hok hB hW=>?_
  repeat' (first | refine jR ?_ | (refine jo ?_;first | refine ar F ?_ | (refine aK F F F cx_l50 F ?_;rintro _ G hle ⟨u5,q5,rfl⟩;skip)) | refine ak F F F ?_)
  all_goals refine Nx.base hok hB ?_
  all_goals refine jY (vs:=[_]) ?_
  all_goals rfl
 | some v =>
  obtain ⟨hwf,htot⟩:=tK hg
  have hl5:=t7 (G:=G) h hg
  have hres : (cr s k b).isSome = decide (v.bys = b):=by
   rw [pc hg]
   by_cases h1 : v.bys = b
   ·rw [if_pos h1,decide_eq_true h1];rfl
   ·rw [if_neg h1,decide_eq_false h1];rfl
  rw [hres]
  refine jB (Post:=fun v G' L'=>G' = G ∧ L' = [] ∧ _) [(0,_),(1,_),(2,_)] Tryz.func79 Tryz.ntmps79 fun B hok hB hW=>?_
  repeat' (refine jR ?_)
  refine jo ?_
  refine aK F F F hl5 F ?_
  rintro _ G2 hle ⟨a5,c5,vs5,wb5,rfl,hR5,hs5,hrep5⟩
  have cx_bys:=wA (cH hs5) hrep5 hwf oM
  generalize v.bys = vb at cx_bys ⊢
  clear hrep5 hR5 hg hwf htot hres hl5
  repeat' (first | refine jR ?_ | (refine jo ?_;first | refine aG F ?_ | refine ab F F F cx_bys F ?_) | refine ax F F F ?_)
  all_goals refine Nx.base hok hB ?_
  all_goals refine jY (vs:=[_]) ?_
  all_goals rfl
def prF (p : Pr) : List Value:=[S p.1,S p.2]
instance : RowF prF 2:=⟨fun _=>rfl⟩
abbrev tPr : TypeId:=211
instance : PK ac7 tPr:=PK.mk' (N:=ac7.types.size - 1) (st:=9) (fs:=bC ac7 tPr) kR kR kR kR kR kR kR kR kR kR kR kR
abbrev tPi : TypeId:=225
instance : PK ac7 tPi:=PK.mk' (N:=ac7.types.size - 1) (st:=9) (fs:=bC ac7 tPi) kR kR kR kR kR kR kR kR kR kR kR kR
abbrev Mt:=ac8 × ac8 × ac8
def eL (m : Mt) : List Value:=[S m.1,S m.2.1,S m.2.2]
instance : RowF eL 3:=⟨fun _=>rfl⟩
abbrev gP (m : Mt) : Prop:=m.1.length ≤ 1048576 ∧ m.2.1.length ≤ 1048576 ∧ m.2.2.length ≤ 1048576
def mn (ss : ac8) (m : Mt) : Bool:=bQ ss m.2.1 && bQ ss m.2.2 && ce m.1
def dw (s : ac8) (a : List Mt) (i : Nat) : Bool:=mn s (ae a i) && (i == 0 || Op.bytesLess (ae a (i - 1)).1 (ae a i).1)
def cL (s : ac8) (a : List Mt) : Bool:=(aQ s).isSome && decide (a.length ≤ 6) && (List.range a.length).all (dw s a)
theorem oD {s : ac8} {a : List Mt} {i : Nat} (hi : i < a.length) (h : dw s a i = false) : cL s a = false:=by
 unfold cL
 rw [Bool.and_eq_false_iff];right
 rw [List.all_eq_false]
 exact ⟨i,List.mem_range.2 hi,by rw [h];simp⟩
theorem tu {s : ac8} {a : List Mt} (hs : (aQ s).isSome = true) (h6 : a.length ≤ 6) (h : ∀ k,k < a.length → dw s a k = true) : cL s a = true:=by
 unfold cL
 rw [hs,decide_eq_true h6]
 simp only [Bool.true_and,List.all_eq_true,List.mem_range]
 exact h
abbrev tSv : TypeId:=25
theorem jx {s : ac8} {u : Value} {a : List Mt} (h : s.length ≤ 1048576) (hu : be G u 3 a.length (aE eL a)) (hn : a.length ≤ 1048576) (ha : ∀ x ∈ a,gP x) :
  an ac7 37 [Ag [S s,u]] G (· = Bo (cL s a)):=by
 have hs : s.length ≤ 10000000:=oM
 refine jB (Post:=fun v G' L'=>G' = G ∧ L' = [] ∧ _) [(0,_)] Tryz.func37 Tryz.ntmps37 fun B hok hB hW=>?_
 repeat' (first | refine jR ?_ | (refine jo ?_;first | refine jO fun _=>?_ | refine ah F ?_ | refine jV (d2 F aS) ?_ | refine aG F ?_ | refine ar F ?_ | refine ab F F F (nG ‹_›) F ?_) | refine jj F F (fun _=>?_) (fun _=>?_) | refine ac F F ?_ | refine cB F (fun _=>?_) (fun _=>?_))
 ·rename_i h1
  refine Nx.base hok hB ?_
  refine jY (vs:=[_]) ?_
  have h2 : (aQ s).isSome = false:=by simpa using h1
  unfold cL;rw [h2];rfl
 ·rename_i h1
  refine Nx.base hok hB ?_
  refine jY (vs:=[_]) ?_
  have h2 : decide (a.length ≤ 6) = false:=by simp;omega
  unfold cL;rw [h2];simp
 rename_i x h1 h2
 refine aT (ι:=Nat × Gh) (fun i=>(i.1 ≤ a.length ∧ Gh.le G i.2) ∧ ∀ k,k < i.1 → dw s a k = true) (fun i=>[(1,Pt x 0),(3,I i.1)]) (fun i=>i.2) (fun i=>[.blk x (.cells #[S s,u] tSv (0,0))]) (fun i=>a.length - i.1) (0,G) ?_ tU F aZ (fun i Hi=>?_)
 ·exact ⟨⟨Nat.zero_le _,Gh.le.refl _⟩,fun k hk=>absurd hk (by simp)⟩
 obtain ⟨i,G1⟩:=i
 dsimp only at Hi ⊢
 obtain ⟨⟨hi1,hg⟩,hgood⟩:=Hi
 by_cases hi : i < a.length
 ·obtain ⟨ba,oa,ca,rfl,sa⟩:=(hu.mono hg).expl oM
  have hx:=ha _ (bP hi)
  cases e1 : bQ s (ae a i).2.1 <;> cases e2 : bQ s (ae a i).2.2 <;> cases e3 : ce (ae a i).1
  all_goals
   have cx_lk1 : ∀ G,bn ac7 62 [S s,S (ae a i).2.1] G (fun v _=>∃ u,v = Tu [u,Bo (bQ s (ae a i).2.1)]):=fun G=>by
    refine (eh (G:=G) hs oM).mono ?_
    rintro v G' L' ⟨h1,h2,u,vs,rfl,_⟩
    exact ⟨h1,h2,u,F⟩
   have cx_lk2 : ∀ G,bn ac7 62 [S s,S (ae a i).2.2] G (fun v _=>∃ u,v = Tu [u,Bo (bQ s (ae a i).2.2)]):=fun G=>by
    refine (eh (G:=G) hs oM).mono ?_
    rintro v G' L' ⟨h1,h2,u,vs,rfl,_⟩
    exact ⟨h1,h2,u,F⟩
   have cx_nm2 : ∀ G,an ac7 70 [S (ae a i).1] G (· = Bo (ce (ae a i).1)):=fun G=>fa oM
   rw [e1] at cx_lk1
   rw [e2] at cx_lk2
   rw [e3] at cx_nm2
  case true.true.true =>
   rcases i with _ | j
   ·repeat' (first | refine jM ?_ | (refine jo ?_;first | refine ah F ?_ | (refine jV (cM F F aS ?_) ?_;focus omega) | refine jV (av F) ?_ | refine jV (aA F F oM) ?_ | refine jL fun _=>?_ | refine jC F F F ?_ | (refine aK F F F (cx_lk1 _) F ?_;rintro _ G hle ⟨u1,rfl⟩;((try have sa:=b7.mono sa hle);(try have hg:=Gh.le.trans hg hle))) | (refine aK F F F (cx_lk2 _) F ?_;rintro _ G hle ⟨u2,rfl⟩;((try have sa:=b7.mono sa hle);(try have hg:=Gh.le.trans hg hle)))) | refine ac F (ay oM) ?_ | refine ad F F ?_ | (refine aj (am (id:=9) _ (fun _ h=>h) ai ?_);refine jT 25 [0,1,2] (aa 28 7) ?_;(try (refine Nx.re (d:=49) (v':=Bo false) F (congrArg Value.bool F) ?_));refine jT 23 [3,4] (aa 28 31) ?_;(refine jG (aa 28 63) 5 F (aJ F F F) ?_);refine jT 21 [6] (aa 28 127) ?_;(try (refine Nx.re (d:=53) (v':=Bo false) F (congrArg Value.bool F) ?_));refine jT 20 [7] (aa 28 255) ?_;(refine jG (aa 28 511) 8 F (aq F F F) ?_);(refine jA 9 F ?_;(refine ab F F F (cx_nm2 _) F ?_);refine jS (aa 28 1023) ?_);refine jT 17 [10] (aa 28 2047) ?_;(refine jG (aa 28 4095) 11 F (aJ F F F) ?_);refine jT 15 [12] (aa 28 8191) ?_;(try (refine Nx.re (d:=59) (v':=Bo false) F (congrArg Value.bool F) ?_));refine jT 12 [13,14,15] (aa 28 65535) ?_;(try (refine Nx.re (d:=62) (v':=Bo false) F (congrArg Value.bool F) ?_));refine jT 8 [16,18,19,23] (aa 28 9306111) ?_;(refine jN (aa 28 9437183) 17 F ?_);(refine jN (aa 28 10485759) 20 F ?_);refine jT 5 [21] (aa 28 12582911) ?_;(refine jN (aa 28 16777215) 22 F ?_);(refine jN (aa 28 33554431) 24 F ?_);refine jT 2 [25] (aa 28 67108863) ?_;(refine jG (aa 28 134217727) 26 F (aJ F F F) ?_);(refine jG (aa 28 268435455) 27 F (aJ F F F) ?_);refine jQ ?_))
    refine aY (1,G) ⟨⟨by dsimp only;omega,hg⟩,fun k hk=>?_⟩ (by dsimp only;omega) tU rfl sB
    have : k = 0:=by dsimp only at hk;omega
    subst this
    simp [dw,mn,e1,e2,e3]
   ·have ej : ((((j + 1 : Nat) : Int) - 1).toNat) = j:=oM
    cases e5 : Op.bytesLess (ae a j).1 (ae a (j + 1)).1
    ·have hb : dw s a (j + 1) = false:=by simp [dw,e5]
     have e6 : Op.bytesLess (ae a (((j + 1 : Nat) : Int) - 1).toNat).1 (ae a (j + 1)).1 = false:=by rw [ej];exact e5
     repeat' (first | refine jR ?_ | (refine jo ?_;first | refine ah F ?_ | (refine jV (cM F F aS ?_) ?_;focus omega) | refine jV (av F) ?_ | refine jV (aA F F oM) ?_ | refine jL fun _=>?_ | refine jC F F F ?_ | (refine aK F F F (cx_lk1 _) F ?_;rintro _ G hle ⟨u1,rfl⟩;((try have sa:=b7.mono sa hle);(try have hg:=Gh.le.trans hg hle))) | (refine aK F F F (cx_lk2 _) F ?_;rintro _ G hle ⟨u2,rfl⟩;((try have sa:=b7.mono sa hle);(try have hg:=Gh.le.trans hg hle)))) | (refine ac F ?_ ?_;(focus ((first | (refine decide_eq_true ?_;(omega)) | (simp [*];done));done))) | (refine aj (am (id:=9) _ (fun _ h=>h) ai ?_);refine jT 25 [0,1,2] (aa 28 7) ?_;(try (refine Nx.re (d:=49) (v':=Bo false) F (congrArg Value.bool F) ?_));refine jT 23 [3,4] (aa 28 31) ?_;(refine jG (aa 28 63) 5 F (aJ F F F) ?_);refine jT 21 [6] (aa 28 127) ?_;(try (refine Nx.re (d:=53) (v':=Bo false) F (congrArg Value.bool F) ?_));refine jT 20 [7] (aa 28 255) ?_;(refine jG (aa 28 511) 8 F (aq F F F) ?_);(refine jA 9 F ?_;(refine ab F F F (cx_nm2 _) F ?_);refine jS (aa 28 1023) ?_);refine jT 17 [10] (aa 28 2047) ?_;(refine jG (aa 28 4095) 11 F (aJ F F F) ?_);refine jT 15 [12] (aa 28 8191) ?_;(try (refine Nx.re (d:=59) (v':=Bo false) F (congrArg Value.bool F) ?_));refine jT 12 [13,14,15] (aa 28 65535) ?_;(try ((refine Nx.re (d:=62) (v':=Bo true) F (congrArg Value.bool (ay oM)) ?_)));refine jW 8 [16,18,19,23] (aa 28 9306111) ?_;(refine jG (aa 28 9437183) 17 F (aq F F F) ?_);(refine jG (aa 28 10485759) 20 F (aN F F oM) ?_);refine jT 5 [21] (aa 28 12582911) ?_;((refine jG (aa 28 16777215) 22 F (bO F F aS ?_ F F) ?_;focus omega));(refine jG (aa 28 33554431) 24 F (aq F F F) ?_);refine jT 2 [25] (aa 28 67108863) ?_;(refine jG (aa 28 134217727) 26 F (a6 F F F) ?_);(refine jG (aa 28 268435455) 27 F (aJ F F F) ?_);refine jQ ?_))
     all_goals refine Nx.base hok hB ?_
     all_goals refine jY (vs:=[_]) ?_
     all_goals rw [aw,oD hi hb]
    ·have hb : dw s a (j + 1) = true:=by simp [dw,mn,e1,e2,e3,e5]
     have e6 : Op.bytesLess (ae a (((j + 1 : Nat) : Int) - 1).toNat).1 (ae a (j + 1)).1 = true:=by rw [ej];exact e5
     repeat' (first | refine jM ?_ | (refine jo ?_;first | refine ah F ?_ | (refine jV (cM F F aS ?_) ?_;focus omega) | refine jV (av F) ?_ | refine jV (aA F F oM) ?_ | refine jL fun _=>?_ | refine jC F F F ?_ | (refine aK F F F (cx_lk1 _) F ?_;rintro _ G hle ⟨u1,rfl⟩;((try have sa:=b7.mono sa hle);(try have hg:=Gh.le.trans hg hle))) | (refine aK F F F (cx_lk2 _) F ?_;rintro _ G hle ⟨u2,rfl⟩;((try have sa:=b7.mono sa hle);(try have hg:=Gh.le.trans hg hle)))) | refine ac F (ay oM) ?_ | (refine ad F ?_ ?_;(focus ((simp [*];done);done))) | (refine aj (am (id:=9) _ (fun _ h=>h) ai ?_);refine jT 25 [0,1,2] (aa 28 7) ?_;(try (refine Nx.re (d:=49) (v':=Bo false) F (congrArg Value.bool F) ?_));refine jT 23 [3,4] (aa 28 31) ?_;(refine jG (aa 28 63) 5 F (aJ F F F) ?_);refine jT 21 [6] (aa 28 127) ?_;(try (refine Nx.re (d:=53) (v':=Bo false) F (congrArg Value.bool F) ?_));refine jT 20 [7] (aa 28 255) ?_;(refine jG (aa 28 511) 8 F (aq F F F) ?_);(refine jA 9 F ?_;(refine ab F F F (cx_nm2 _) F ?_);refine jS (aa 28 1023) ?_);refine jT 17 [10] (aa 28 2047) ?_;(refine jG (aa 28 4095) 11 F (aJ F F F) ?_);refine jT 15 [12] (aa 28 8191) ?_;(try (refine Nx.re (d:=59) (v':=Bo false) F (congrArg Value.bool F) ?_));refine jT 12 [13,14,15] (aa 28 65535) ?_;(try ((refine Nx.re (d:=62) (v':=Bo true) F (congrArg Value.bool (ay oM)) ?_)));refine jW 8 [16,18,19,23] (aa 28 9306111) ?_;(refine jG (aa 28 9437183) 17 F (aq F F F) ?_);(refine jG (aa 28 10485759) 20 F (aN F F oM) ?_);refine jT 5 [21] (aa 28 12582911) ?_;((refine jG (aa 28 16777215) 22 F (bO F F aS ?_ F F) ?_;focus omega));(refine jG (aa 28 33554431) 24 F (aq F F F) ?_);refine jT 2 [25] (aa 28 67108863) ?_;(refine jG (aa 28 134217727) 26 F (a6 F F F) ?_);(refine jG (aa 28 268435455) 27 F (aJ F F F) ?_);refine jQ ?_))
     all_goals
      refine aY (j + 1 + 1,G) ⟨⟨by dsimp only;omega,hg⟩,fun k hk=>?_⟩ (by dsimp only;omega) tU rfl sB
      rcases Nat.lt_or_ge k (j + 1) with h1 | h1
      ·exact hgood k h1
      ·have : k = j + 1:=by dsimp only at hk;omega
       subst this;exact hb
  all_goals
   have hb : dw s a i = false:=by simp [dw,mn,e1,e2,e3]
   repeat' (first | refine jR ?_ | (refine jo ?_;first | refine ah F ?_ | (refine jV (cM F F aS ?_) ?_;focus omega) | refine jV (av F) ?_ | refine jV (aA F F oM) ?_ | refine jL fun _=>?_ | refine jC F F F ?_ | (refine aK F F F (cx_lk1 _) F ?_;rintro _ G hle ⟨u1,rfl⟩;((try have sa:=b7.mono sa hle);(try have hg:=Gh.le.trans hg hle))) | (refine aK F F F (cx_lk2 _) F ?_;rintro _ G hle ⟨u2,rfl⟩;((try have sa:=b7.mono sa hle);(try have hg:=Gh.le.trans hg hle)))) | (refine ac F (by first | rfl | (refine decide_eq_true ?_;(omega))) ?_) | (refine aj (am (id:=9) _ (fun _ h=>h) ai ?_);refine jT 25 [0,1,2] (aa 28 7) ?_;(try (first | refine Nx.re (d:=49) (v':=Bo true) F (congrArg Value.bool F) ?_ | refine Nx.re (d:=49) (v':=Bo false) F (congrArg Value.bool F) ?_));refine jT 23 [3,4] (aa 28 31) ?_;(first | refine jG (aa 28 63) 5 F (a6 F F F) ?_ | refine jG (aa 28 63) 5 F (aJ F F F) ?_);refine jT 21 [6] (aa 28 127) ?_;(try (first | refine Nx.re (d:=53) (v':=Bo true) F (congrArg Value.bool F) ?_ | refine Nx.re (d:=53) (v':=Bo false) F (congrArg Value.bool F) ?_));refine jT 20 [7] (aa 28 255) ?_;(first | refine jG (aa 28 511) 8 F (aq F F F) ?_ | refine jN (aa 28 511) 8 F ?_);(first | refine jN (aa 28 1023) 9 F ?_ | (refine jA 9 F ?_;(refine ab F F F (cx_nm2 _) F ?_);refine jS (aa 28 1023) ?_));refine jT 17 [10] (aa 28 2047) ?_;(first | refine jG (aa 28 4095) 11 F (a6 F F F) ?_ | refine jG (aa 28 4095) 11 F (aJ F F F) ?_);refine jT 15 [12] (aa 28 8191) ?_;(try (refine Nx.re (d:=59) (v':=Bo true) F (congrArg Value.bool F) ?_));refine jT 12 [13,14,15] (aa 28 65535) ?_;(try (fail));refine jT 8 [16,18,19,23] (aa 28 9306111) ?_;(refine jN (aa 28 9437183) 17 F ?_);(refine jN (aa 28 10485759) 20 F ?_);refine jT 5 [21] (aa 28 12582911) ?_;(refine jN (aa 28 16777215) 22 F ?_);(refine jN (aa 28 33554431) 24 F ?_);refine jT 2 [25] (aa 28 67108863) ?_;(refine jN (aa 28 134217727) 26 F ?_);(refine jG (aa 28 268435455) 27 F (a6 F F F) ?_);refine jQ ?_))
   refine Nx.base hok hB ?_
   refine jY (vs:=[_]) ?_
   rw [aw,oD hi hb]
 ·repeat' (first | refine jR ?_ | (refine jo ?_;first | refine ah F ?_ | refine jV (d2 F aS) ?_) | refine ad F (aC oM) ?_)
  refine Nx.base hok hB ?_
  refine jY (vs:=[_]) ?_
  rw [aw,tu (by simpa using h1) oM (fun k hk=>hgood k oM)]
abbrev acK : TypeId:=25
theorem gL {s : ac8} {u : Value} {a : List Mt} (h : s.length ≤ 1048576) (hu : be G u 3 a.length (aE eL a)) (hn : a.length ≤ 1048576) (ha : ∀ x ∈ a,gP x) :
  an ac7 32 [Ag [S s,u]] G (· = Bo (cL s a)):=by
 have hs : s.length ≤ 10000000:=oM
 refine jB (Post:=fun v G' L'=>G' = G ∧ L' = [] ∧ _) [(0,_)] Tryz.func32 Tryz.ntmps32 fun B hok hB hW=>?_
 repeat' (first | refine jR ?_ | (refine jo ?_;first | refine jO fun _=>?_ | refine ah F ?_ | refine jV (d2 F aS) ?_ | refine aG F ?_ | refine ar F ?_ | refine ab F F F (te oM) F ?_) | refine jj F F (fun _=>?_) (fun _=>?_) | refine ac F F ?_ | refine cB F (fun _=>?_) (fun _=>?_))
 ·rename_i h1
  refine Nx.base hok hB ?_
  refine jY (vs:=[_]) ?_
  have h2 : (aQ s).isSome = false:=by simpa using h1
  unfold cL;rw [h2];rfl
 ·rename_i h1
  refine Nx.base hok hB ?_
  refine jY (vs:=[_]) ?_
  have h2 : decide (a.length ≤ 6) = false:=by simp;omega
  unfold cL;rw [h2];simp
 rename_i x h1 h2
 refine aT (ι:=Nat × Gh) (fun i=>(i.1 ≤ a.length ∧ Gh.le G i.2) ∧ ∀ k,k < i.1 → dw s a k = true) (fun i=>[(1,Pt x 0),(22,u),(23,I a.length),(24,I i.1)]) (fun i=>i.2) (fun i=>[.blk x (.cells #[S s,u] acK (0,0))]) (fun i=>a.length - i.1) (0,G) ?_ tU F aZ (fun i Hi=>?_)
 ·exact ⟨⟨Nat.zero_le _,Gh.le.refl _⟩,fun k hk=>absurd hk (by simp)⟩
 obtain ⟨i,G1⟩:=i
 dsimp only at Hi ⊢
 obtain ⟨⟨hi1,hg⟩,hgood⟩:=Hi
 by_cases hi : i < a.length
 ·obtain ⟨ba,oa,ca,rfl,sa⟩:=(hu.mono hg).expl oM
  have hx:=ha _ (bP hi)
  cases e1 : bQ s (ae a i).2.1 <;> cases e2 : bQ s (ae a i).2.2 <;> cases e3 : ce (ae a i).1
  all_goals
   have cx_bo1 : ∀ G,bn ac7 52 [S s,S (ae a i).2.1] G (fun v _=>∃ p a' b c,v = Tu [p,Ag [S a',S b,S c],Bo (bQ s (ae a i).2.1)]):=fun G=>by
    refine (jw (G:=G) hs oM).mono ?_
    rintro v G' L' ⟨h1,h2,⟨h3,p,a',b,c,rfl⟩ | ⟨b,qs,rfl,h3,h4,_⟩⟩
    ·exact ⟨h1,h2,p,a',b,c,by rw [h3]⟩
    ·exact ⟨h1,h2,_,_,_,_,by unfold bQ;rw [h3];dsimp only;rw [h4];rfl⟩
   have cx_bo2 : ∀ G,bn ac7 52 [S s,S (ae a i).2.2] G (fun v _=>∃ p a' b c,v = Tu [p,Ag [S a',S b,S c],Bo (bQ s (ae a i).2.2)]):=fun G=>by
    refine (jw (G:=G) hs oM).mono ?_
    rintro v G' L' ⟨h1,h2,⟨h3,p,a',b,c,rfl⟩ | ⟨b,qs,rfl,h3,h4,_⟩⟩
    ·exact ⟨h1,h2,p,a',b,c,by rw [h3]⟩
    ·exact ⟨h1,h2,_,_,_,_,by unfold bQ;rw [h3];dsimp only;rw [h4];rfl⟩
   have cx_nm2 : ∀ G,an ac7 66 [S (ae a i).1] G (· = Bo (ce (ae a i).1)):=fun G=>dg oM
   rw [e1] at cx_bo1
   rw [e2] at cx_bo2
   rw [e3] at cx_nm2
  case true.true.true =>
   rcases i with _ | j
   ·repeat' (first | refine jM ?_ | (refine jo ?_;first | refine ah F ?_ | (refine jV (cM F F aS ?_) ?_;focus omega) | refine jV (aA F F oM) ?_ | refine jL fun _=>?_ | refine jC F F F ?_ | (refine aK F F F (cx_bo1 _) F ?_;rintro _ G hle ⟨p1,a1,b1,c1,rfl⟩;((try have sa:=b7.mono sa hle);(try have hg:=Gh.le.trans hg hle))) | (refine aK F F F (cx_bo2 _) F ?_;rintro _ G hle ⟨p2,a2,b2,c2,rfl⟩;((try have sa:=b7.mono sa hle);(try have hg:=Gh.le.trans hg hle)))) | refine ac F (ay oM) ?_ | refine ad F F ?_ | (refine aj (am (id:=8) _ (fun _ h=>h) ai ?_);refine jT 25 [0,1,2] (aa 28 7) ?_;(try (refine Nx.re (d:=49) (v':=Bo false) F (congrArg Value.bool F) ?_));refine jT 23 [3,4] (aa 28 31) ?_;(refine jG (aa 28 63) 5 F (aJ F F F) ?_);refine jT 21 [6] (aa 28 127) ?_;(try (refine Nx.re (d:=53) (v':=Bo false) F (congrArg Value.bool F) ?_));refine jT 20 [7] (aa 28 255) ?_;(refine jG (aa 28 511) 8 F (aq F F F) ?_);(refine jA 9 F ?_;(refine ab F F F (cx_nm2 _) F ?_);refine jS (aa 28 1023) ?_);refine jT 17 [10] (aa 28 2047) ?_;(refine jG (aa 28 4095) 11 F (aJ F F F) ?_);refine jT 15 [12] (aa 28 8191) ?_;(try (refine Nx.re (d:=59) (v':=Bo false) F (congrArg Value.bool F) ?_));refine jT 12 [13,14,15] (aa 28 65535) ?_;(try (refine Nx.re (d:=62) (v':=Bo false) F (congrArg Value.bool F) ?_));refine jT 8 [16,18,19,23] (aa 28 9306111) ?_;(refine jN (aa 28 9437183) 17 F ?_);(refine jN (aa 28 10485759) 20 F ?_);refine jT 5 [21] (aa 28 12582911) ?_;(refine jN (aa 28 16777215) 22 F ?_);(refine jN (aa 28 33554431) 24 F ?_);refine jT 2 [25] (aa 28 67108863) ?_;(refine jG (aa 28 134217727) 26 F (aJ F F F) ?_);(refine jG (aa 28 268435455) 27 F (aJ F F F) ?_);refine jQ ?_))
    refine aY (1,G) ⟨⟨by dsimp only;omega,hg⟩,fun k hk=>?_⟩ (by dsimp only;omega) tU rfl sB
    have : k = 0:=by dsimp only at hk;omega
    subst this
    simp [dw,mn,e1,e2,e3]
   ·have ej : ((((j + 1 : Nat) : Int) - 1).toNat) = j:=oM
    cases e5 : Op.bytesLess (ae a j).1 (ae a (j + 1)).1
    ·have hb : dw s a (j + 1) = false:=by simp [dw,e5]
     have e6 : Op.bytesLess (ae a (((j + 1 : Nat) : Int) - 1).toNat).1 (ae a (j + 1)).1 = false:=by rw [ej];exact e5
     repeat' (first | refine jR ?_ | (refine jo ?_;first | refine ah F ?_ | (refine jV (cM F F aS ?_) ?_;focus omega) | refine jV (aA F F oM) ?_ | refine jL fun _=>?_ | refine jC F F F ?_ | (refine aK F F F (cx_bo1 _) F ?_;rintro _ G hle ⟨p1,a1,b1,c1,rfl⟩;((try have sa:=b7.mono sa hle);(try have hg:=Gh.le.trans hg hle))) | (refine aK F F F (cx_bo2 _) F ?_;rintro _ G hle ⟨p2,a2,b2,c2,rfl⟩;((try have sa:=b7.mono sa hle);(try have hg:=Gh.le.trans hg hle)))) | (refine ac F ?_ ?_;(focus ((first | (refine decide_eq_true ?_;(omega)) | (simp [*];done));done))) | (refine aj (am (id:=8) _ (fun _ h=>h) ai ?_);refine jT 25 [0,1,2] (aa 28 7) ?_;(try (refine Nx.re (d:=49) (v':=Bo false) F (congrArg Value.bool F) ?_));refine jT 23 [3,4] (aa 28 31) ?_;(refine jG (aa 28 63) 5 F (aJ F F F) ?_);refine jT 21 [6] (aa 28 127) ?_;(try (refine Nx.re (d:=53) (v':=Bo false) F (congrArg Value.bool F) ?_));refine jT 20 [7] (aa 28 255) ?_;(refine jG (aa 28 511) 8 F (aq F F F) ?_);(refine jA 9 F ?_;(refine ab F F F (cx_nm2 _) F ?_);refine jS (aa 28 1023) ?_);refine jT 17 [10] (aa 28 2047) ?_;(refine jG (aa 28 4095) 11 F (aJ F F F) ?_);refine jT 15 [12] (aa 28 8191) ?_;(try (refine Nx.re (d:=59) (v':=Bo false) F (congrArg Value.bool F) ?_));refine jT 12 [13,14,15] (aa 28 65535) ?_;(try ((refine Nx.re (d:=62) (v':=Bo true) F (congrArg Value.bool (ay oM)) ?_)));refine jW 8 [16,18,19,23] (aa 28 9306111) ?_;(refine jG (aa 28 9437183) 17 F (aq F F F) ?_);(refine jG (aa 28 10485759) 20 F (aN F F oM) ?_);refine jT 5 [21] (aa 28 12582911) ?_;((refine jG (aa 28 16777215) 22 F (bO F F aS ?_ F F) ?_;focus omega));(refine jG (aa 28 33554431) 24 F (aq F F F) ?_);refine jT 2 [25] (aa 28 67108863) ?_;(refine jG (aa 28 134217727) 26 F (a6 F F F) ?_);(refine jG (aa 28 268435455) 27 F (aJ F F F) ?_);refine jQ ?_))
     all_goals refine Nx.base hok hB ?_
     all_goals refine jY (vs:=[_]) ?_
     all_goals rw [aw,oD hi hb]
    ·have hb : dw s a (j + 1) = true:=by simp [dw,mn,e1,e2,e3,e5]
     have e6 : Op.bytesLess (ae a (((j + 1 : Nat) : Int) - 1).toNat).1 (ae a (j + 1)).1 = true:=by rw [ej];exact e5
     repeat' (first | refine jM ?_ | (refine jo ?_;first | refine ah F ?_ | (refine jV (cM F F aS ?_) ?_;focus omega) | refine jV (aA F F oM) ?_ | refine jL fun _=>?_ | refine jC F F F ?_ | (refine aK F F F (cx_bo1 _) F ?_;rintro _ G hle ⟨p1,a1,b1,c1,rfl⟩;((try have sa:=b7.mono sa hle);(try have hg:=Gh.le.trans hg hle))) | (refine aK F F F (cx_bo2 _) F ?_;rintro _ G hle ⟨p2,a2,b2,c2,rfl⟩;((try have sa:=b7.mono sa hle);(try have hg:=Gh.le.trans hg hle)))) | refine ac F (ay oM) ?_ | (refine ad F ?_ ?_;(focus ((simp [*];done);done))) | (refine aj (am (id:=8) _ (fun _ h=>h) ai ?_);refine jT 25 [0,1,2] (aa 28 7) ?_;(try (refine Nx.re (d:=49) (v':=Bo false) F (congrArg Value.bool F) ?_));refine jT 23 [3,4] (aa 28 31) ?_;(refine jG (aa 28 63) 5 F (aJ F F F) ?_);refine jT 21 [6] (aa 28 127) ?_;(try (refine Nx.re (d:=53) (v':=Bo false) F (congrArg Value.bool F) ?_));refine jT 20 [7] (aa 28 255) ?_;(refine jG (aa 28 511) 8 F (aq F F F) ?_);(refine jA 9 F ?_;(refine ab F F F (cx_nm2 _) F ?_);refine jS (aa 28 1023) ?_);refine jT 17 [10] (aa 28 2047) ?_;(refine jG (aa 28 4095) 11 F (aJ F F F) ?_);refine jT 15 [12] (aa 28 8191) ?_;(try (refine Nx.re (d:=59) (v':=Bo false) F (congrArg Value.bool F) ?_));refine jT 12 [13,14,15] (aa 28 65535) ?_;(try ((refine Nx.re (d:=62) (v':=Bo true) F (congrArg Value.bool (ay oM)) ?_)));refine jW 8 [16,18,19,23] (aa 28 9306111) ?_;(refine jG (aa 28 9437183) 17 F (aq F F F) ?_);(refine jG (aa 28 10485759) 20 F (aN F F oM) ?_);refine jT 5 [21] (aa 28 12582911) ?_;((refine jG (aa 28 16777215) 22 F (bO F F aS ?_ F F) ?_;focus omega));(refine jG (aa 28 33554431) 24 F (aq F F F) ?_);refine jT 2 [25] (aa 28 67108863) ?_;(refine jG (aa 28 134217727) 26 F (a6 F F F) ?_);(refine jG (aa 28 268435455) 27 F (aJ F F F) ?_);refine jQ ?_))
     all_goals
      refine aY (j + 1 + 1,G) ⟨⟨by dsimp only;omega,hg⟩,fun k hk=>?_⟩ (by dsimp only;omega) tU rfl sB
      rcases Nat.lt_or_ge k (j + 1) with h1 | h1
      ·exact hgood k h1
      ·have : k = j + 1:=by dsimp only at hk;omega
       subst this;exact hb
  all_goals
   have hb : dw s a i = false:=by simp [dw,mn,e1,e2,e3]
   repeat' (first | refine jR ?_ | (refine jo ?_;first | refine ah F ?_ | (refine jV (cM F F aS ?_) ?_;focus omega) | refine jV (aA F F oM) ?_ | refine jL fun _=>?_ | refine jC F F F ?_ | (refine aK F F F (cx_bo1 _) F ?_;rintro _ G hle ⟨p1,a1,b1,c1,rfl⟩;((try have sa:=b7.mono sa hle);(try have hg:=Gh.le.trans hg hle))) | (refine aK F F F (cx_bo2 _) F ?_;rintro _ G hle ⟨p2,a2,b2,c2,rfl⟩;((try have sa:=b7.mono sa hle);(try have hg:=Gh.le.trans hg hle)))) | (refine ac F (by first | rfl | (refine decide_eq_true ?_;(omega))) ?_) | (refine aj (am (id:=8) _ (fun _ h=>h) ai ?_);refine jT 25 [0,1,2] (aa 28 7) ?_;(try (first | refine Nx.re (d:=49) (v':=Bo true) F (congrArg Value.bool F) ?_ | refine Nx.re (d:=49) (v':=Bo false) F (congrArg Value.bool F) ?_));refine jT 23 [3,4] (aa 28 31) ?_;(first | refine jG (aa 28 63) 5 F (a6 F F F) ?_ | refine jG (aa 28 63) 5 F (aJ F F F) ?_);refine jT 21 [6] (aa 28 127) ?_;(try (first | refine Nx.re (d:=53) (v':=Bo true) F (congrArg Value.bool F) ?_ | refine Nx.re (d:=53) (v':=Bo false) F (congrArg Value.bool F) ?_));refine jT 20 [7] (aa 28 255) ?_;(first | refine jG (aa 28 511) 8 F (aq F F F) ?_ | refine jN (aa 28 511) 8 F ?_);(first | refine jN (aa 28 1023) 9 F ?_ | (refine jA 9 F ?_;(refine ab F F F (cx_nm2 _) F ?_);refine jS (aa 28 1023) ?_));refine jT 17 [10] (aa 28 2047) ?_;(first | refine jG (aa 28 4095) 11 F (a6 F F F) ?_ | refine jG (aa 28 4095) 11 F (aJ F F F) ?_);refine jT 15 [12] (aa 28 8191) ?_;(try (refine Nx.re (d:=59) (v':=Bo true) F (congrArg Value.bool F) ?_));refine jT 12 [13,14,15] (aa 28 65535) ?_;(try (fail));refine jT 8 [16,18,19,23] (aa 28 9306111) ?_;(refine jN (aa 28 9437183) 17 F ?_);(refine jN (aa 28 10485759) 20 F ?_);refine jT 5 [21] (aa 28 12582911) ?_;(refine jN (aa 28 16777215) 22 F ?_);(refine jN (aa 28 33554431) 24 F ?_);refine jT 2 [25] (aa 28 67108863) ?_;(refine jN (aa 28 134217727) 26 F ?_);(refine jG (aa 28 268435455) 27 F (a6 F F F) ?_);refine jQ ?_))
   refine Nx.base hok hB ?_
   refine jY (vs:=[_]) ?_
   rw [aw,oD hi hb]
 ·repeat' (first | refine jR ?_ | refine ad F (aC oM) ?_)
  refine Nx.base hok hB ?_
  refine jY (vs:=[_]) ?_
  rw [aw,tu (by simpa using h1) oM (fun k hk=>hgood k oM)]
def cS (a : List Mt) (x : ac8) : Option Mt:=a.find? fun m=>decide (m.1 = x)
theorem rI {a : List Mt} {x : ac8} {i : Nat} (hi : i < a.length) (hno : ∀ k,k < i → (ae a k).1 ≠ x) (h : (ae a i).1 = x) : cS a x = some (ae a i) :=
 pT hi (fun k hk=>by simpa using hno k hk) (by simpa using h)
theorem rH {a : List Mt} {x : ac8} (hno : ∀ k,k < a.length → (ae a k).1 ≠ x) : cS a x = none:=tP fun k hk=>by simpa using hno k hk
abbrev zM : Mt:=([],[],[])
abbrev acQ : TypeId:=42
abbrev acM : TypeId:=25
theorem kV {s x : ac8} {u : Value} {a : List Mt} (hu : be G u 3 a.length (aE eL a)) (hn : a.length ≤ 1048576) :
  an ac7 29 [Ag [S s,u],S x] G (· = Tu [Ag (eL ((cS a x).getD zM)),Bo (cS a x).isSome]):=by
 refine jE [(0,_),(1,_)] Tryz.func29 Tryz.ntmps29 fun B hB=>?_
 repeat' (first | refine jR ?_ | (refine jo ?_;first | refine jO fun _=>?_ | refine jL fun _=>?_))
 rename_i x2 x4
 refine aT (ι:=Nat) (fun i=>i ≤ a.length ∧ ∀ k,k < i → (ae a k).1 ≠ x) (fun i=>[(1,S x),(2,Pt x2 0),(4,Pt x4 0),(6,I i)]) (fun _=>G) (fun i=>[.blk x4 (.cells (List.toArray [S [],S [],S []]) acQ (0,0)),.blk x2 (.cells (List.toArray [S s,u]) acM (0,0))]) (fun i=>a.length - i) 0 ?_ tU F aZ (fun i Hi=>?_)
 ·exact ⟨Nat.zero_le _,fun k hk=>absurd hk oM⟩
 by_cases hi : i < a.length
 ·obtain ⟨ba,oa,ca,rfl,sa⟩:=hu.expl oM
  repeat' (first | refine jM ?_ | (refine jo ?_;first | refine ah F ?_ | (refine jV (cM F F aS ?_) ?_;focus omega) | (refine jV (bO F F aS ?_ F F) ?_;focus omega) | refine jV (av F) ?_ | refine jV (aA F F oM) ?_ | refine jC F F F ?_) | refine ac F (ay oM) ?_ | refine cB F (fun _=>?_) (fun _=>?_))
  ·rename_i he
   refine jZ (vs:=[_,_]) F ⟨aF F F F F,F,trivial⟩ F ⟨F,F,?_⟩
   rw [rI hi Hi.2 he];rfl
  ·rename_i he
   refine aY (i + 1) ⟨oM,fun k hk=>?_⟩ oM tU F aZ
   rcases Nat.lt_or_ge k i with h3 | h3
   ·exact Hi.2 k h3
   ·have : k = i:=oM
    subst this;exact he
 ·repeat' (first | refine jR ?_ | (refine jo ?_;first | refine ah F ?_ | refine jV (d2 F aS) ?_ | refine jC F F F ?_ | refine jV (al F F) ?_) | refine ad F (aC oM) ?_)
  refine jZ (vs:=[_,_]) F ⟨aF F F F F,F,trivial⟩ F ⟨F,F,?_⟩
  rw [rH fun k hk=>Hi.2 k oM];rfl
abbrev acR : TypeId:=42
abbrev acN : TypeId:=25
theorem hC {s x : ac8} {u : Value} {a : List Mt} (hu : be G u 3 a.length (aE eL a)) (hn : a.length ≤ 1048576) :
  an ac7 31 [Ag [S s,u],S x] G (· = Tu [Ag (eL ((cS a x).getD zM)),Bo (cS a x).isSome]):=by
 refine jE [(0,_),(1,_)] Tryz.func31 Tryz.ntmps31 fun B hB=>?_
 repeat' (first | refine jR ?_ | (refine jo ?_;first | refine jO fun _=>?_ | refine jL fun _=>?_ | refine ah F ?_ | refine jV (d2 F aS) ?_))
 rename_i x2 x4
 refine aT (ι:=Nat) (fun i=>i ≤ a.length ∧ ∀ k,k < i → (ae a k).1 ≠ x) (fun i=>[(1,S x),(2,Pt x2 0),(4,Pt x4 0),(9,u),(10,I a.length),(11,I i)]) (fun _=>G) (fun i=>[.blk x4 (.cells (List.toArray [S [],S [],S []]) acR (0,0)),.blk x2 (.cells (List.toArray [S s,u]) acN (0,0))]) (fun i=>a.length - i) 0 ?_ tU F aZ (fun i Hi=>?_)
 ·exact ⟨Nat.zero_le _,fun k hk=>absurd hk oM⟩
 by_cases hi : i < a.length
 ·obtain ⟨ba,oa,ca,rfl,sa⟩:=hu.expl oM
  repeat' (first | refine jM ?_ | (refine jo ?_;first | refine jL fun _=>?_ | refine ah F ?_ | (refine jV (cM F F aS ?_) ?_;focus omega) | refine aB F ?_ | refine jV (aA F F oM) ?_ | refine jC F F F ?_) | refine ac F (ay oM) ?_ | refine cB F (fun _=>?_) (fun _=>?_))
  ·rename_i he
   refine jZ (vs:=[_,_]) F ⟨aF F F F F,F,trivial⟩ F ⟨F,F,?_⟩
   rw [rI hi Hi.2 he];rfl
  ·rename_i he
   refine aY (i + 1) ⟨oM,fun k hk=>?_⟩ oM tU F sB
   rcases Nat.lt_or_ge k i with h3 | h3
   ·exact Hi.2 k h3
   ·have : k = i:=oM
    subst this;exact he
 ·repeat' (first | refine jR ?_ | (refine jo ?_;first | refine jC F F F ?_ | refine jV (al F F) ?_) | refine ad F (aC oM) ?_)
  refine jZ (vs:=[_,_]) F ⟨aF F F F F,F,trivial⟩ F ⟨F,F,?_⟩
  rw [rH fun k hk=>Hi.2 k oM];rfl
def bW (s : ac8) (a : List Mt) (n : Int) (x : ac8) (out : Bool) (w : ac8) : ac8 × Bool:=match cS a x with
 | some m=>if cL s a = true ∧ 0 ≤ n ∧ n ≤ 999 then (match c6 s (bif out then m.2.2 else m.2.1) w with
  | some b=>(fZ (aX n ++ (bif out then [0] else aX x.length ++ x) ++ b),mz (aX n ++ (bif out then [0] else aX x.length ++ x) ++ b))
  | none=>([],false)) else ([],false)
 | none=>([],false)
theorem jh {s x : ac8} {a : List Mt} {m : Mt} (h : cL s a = true) (hf : cS a x = some m) : x.length ≤ 3:=by
 have hm:=List.mem_of_find?_eq_some hf
 have he : m.1 = x:=by have:=List.find?_some hf;simpa using this
 obtain ⟨i,hi,e⟩:=List.getElem_of_mem hm
 unfold cL at h
 simp only [Bool.and_eq_true,List.all_eq_true,List.mem_range] at h
 have h1:=h.2 i hi
 unfold dw mn at h1
 simp only [Bool.and_eq_true] at h1
 have h2:=h1.1.2
 rw [aW hi,e,he] at h2
 unfold ce at h2
 simp only [Bool.and_eq_true,decide_eq_true_eq] at h2
 exact h2.2.2
theorem eH {n : Int} {b : Bool} (h : decide (0 ≤ n ∧ n ≤ 999) = b) : (decide (0 ≤ n) && decide (n ≤ 999)) = b:=by
 rw [← h];simp
theorem qU {s k w hd : ac8} {u : Value} {n : Int} (h : (s.length ≤ 1048576 ∧ k.length ≤ 1048576 ∧ w.length ≤ 1048576) ∧ hd.length ≤ 1000) :
  an ac7 38 [Ag [S s,u],I n,S hd,S k,S w] G (· = match c6 s k w with
   | some b=>if 0 ≤ n ∧ n ≤ 999 then Tu [S (fZ (aX n ++ hd ++ b)),Bo (mz (aX n ++ hd ++ b))] else Tu [S [],Bo false]
   | none=>Tu [S [],Bo false]):=by
 obtain ⟨h,hh⟩:=h
 have cx_bp1:=tj (G:=G) h
 cases e1 : c6 s k w with
 | none =>
  rw [e1] at cx_bp1
  dsimp only [Option.getD,Option.isSome] at cx_bp1 ⊢
  refine jE [(0,_),(1,_),(2,_),(3,_),(4,_)] Tryz.func38 Tryz.ntmps38 fun B hB=>?_
  repeat' (first | refine jR ?_ | (refine jo ?_;first | refine jO fun _=>?_ | refine ah F ?_ | refine aG F ?_ | refine ab F F F cx_bp1 F ?_) | refine ax F F F ?_ | refine ac F F ?_)
  all_goals refine jY (vs:=[_,_]) ?_
  all_goals rfl
 | some b =>
  have hbl:=lQ e1
  rw [e1] at cx_bp1
  dsimp only [Option.getD,Option.isSome] at cx_bp1 ⊢
  by_cases hn : 0 ≤ n ∧ n ≤ 999
  ·have cx_nin : an ac7 72 [I n,I 0,I 999] G (· = Bo true):=by
    rw [← eH (decide_eq_true hn)];exact mJ
   have hl3:=bx (n:=n) oM
   rw [if_pos hn]
   have hl4 : (aX n ++ hd ++ b).length ≤ 9000000000000000000:=by simp;omega
   refine jE [(0,_),(1,_),(2,_),(3,_),(4,_)] Tryz.func38 Tryz.ntmps38 fun B hB=>?_
   repeat' (first | refine jX ?_ | (refine jo ?_;first | refine jO fun _=>?_ | refine ah F ?_ | refine ar F ?_ | refine ab F F F cx_bp1 F ?_ | refine ab F F F cx_nin F ?_ | refine ab F F F (dy oM) F ?_ | refine ab F F F (kG ‹_›) F ?_) | refine ak F F F ?_ | refine ad F F ?_)
   all_goals refine jY (vs:=[_,_]) ?_
   all_goals rfl
  ·have cx_nin : an ac7 72 [I n,I 0,I 999] G (· = Bo false):=by
    rw [← eH (decide_eq_false hn)];exact mJ
   rw [if_neg hn]
   refine jE [(0,_),(1,_),(2,_),(3,_),(4,_)] Tryz.func38 Tryz.ntmps38 fun B hB=>?_
   repeat' (first | refine jR ?_ | (refine jo ?_;first | refine jO fun _=>?_ | refine ah F ?_ | refine ar F ?_ | refine ab F F F cx_bp1 F ?_ | refine ab F F F cx_nin F ?_) | refine ak F F F ?_ | refine ac F F ?_)
   all_goals refine jY (vs:=[_,_]) ?_
   all_goals rfl
theorem vd {s x w : ac8} {u : Value} {a : List Mt} {n : Int} (h : s.length ≤ 1048576) (hu : be G u 3 a.length (aE eL a)) (hn : a.length ≤ 1048576) (ha : ∀ x ∈ a,gP x) (hw : x.length ≤ 1048576 ∧ w.length ≤ 1048576) :
  an ac7 10 [Ag [S s,u],I n,S x,S w] G (· = Tu [S (bW s a n x false w).1,Bo (bW s a n x false w).2]):=by
 have cx_f0:=kV (s:=s) (x:=x) hu hn
 unfold bW
 cases hf : cS a x with
 | none =>
  rw [hf] at cx_f0
  have cx_find : an ac7 29 [Ag [S s,u],S x] G (· = Tu [Ag [S [],S [],S []],Bo false]):=cx_f0
  refine jE [(0,_),(1,_),(2,_),(3,_)] Tryz.func10 Tryz.ntmps10 fun B hB=>?_
  repeat' (first | refine jR ?_ | (refine jo ?_;first | refine jO fun _=>?_ | refine aB F ?_ | refine jL fun _=>?_ | refine jC F F F ?_ | refine aG F ?_ | refine ab F F F cx_find F ?_) | refine ax F F F ?_ | refine ac F F ?_)
  all_goals refine jY (vs:=[_,_]) ?_
  all_goals rfl
 | some m =>
  rw [hf] at cx_f0
  have cx_find : an ac7 29 [Ag [S s,u],S x] G (· = Tu [Ag [S m.1,S m.2.1,S m.2.2],Bo true]):=cx_f0
  have hxm:=ha _ (List.mem_of_find?_eq_some hf)
  have cx_so:=jx h hu hn ha
  dsimp only
  cases e1 : cL s a with
  | false =>
   have cx_so1 : an ac7 37 [Ag [S s,u]] G (· = Bo false):=by rw [← e1];exact cx_so
   clear cx_so
   rw [if_neg (by simp)]
   refine jE [(0,_),(1,_),(2,_),(3,_)] Tryz.func10 Tryz.ntmps10 fun B hB=>?_
   repeat' (first | refine jR ?_ | (refine jo ?_;first | refine jO fun _=>?_ | refine aB F ?_ | refine jL fun _=>?_ | refine jC F F F ?_ | refine ar F ?_ | refine ab F F F cx_find F ?_ | refine ab F F F cx_so1 F ?_) | refine ak F F F ?_ | refine ac F F ?_)
   all_goals refine jY (vs:=[_,_]) ?_
   all_goals rfl
  | true =>
   have cx_so1 : an ac7 37 [Ag [S s,u]] G (· = Bo true):=by rw [← e1];exact cx_so
   clear cx_so
   have hx3:=jh e1 hf
   have hl3:=bx (n:=(x.length : Int)) oM
   have cx_mk:=qU (G:=G) (s:=s) (k:=m.2.1) (w:=w) (hd:=aX x.length ++ x) (u:=u) (n:=n) ⟨⟨h,oM,hw.2⟩,by simp;omega⟩
   dsimp only [cond]
   cases e2 : c6 s m.2.1 w with
   | none =>
    rw [e2] at cx_mk
    dsimp only at cx_mk
    refine jE [(0,_),(1,_),(2,_),(3,_)] Tryz.func10 Tryz.ntmps10 fun B hB=>?_
    repeat' (first | refine jR ?_ | (refine jo ?_;first | refine jO fun _=>?_ | refine aB F ?_ | refine jL fun _=>?_ | refine jC F F F ?_ | refine ar F ?_ | refine ab F F F cx_find F ?_ | refine ab F F F cx_so1 F ?_) | refine ak F F F ?_ | refine ad F F ?_ | (refine aj (am (id:=4) _ (fun _ h=>h) ai ?_);refine jT 8 [1,2,4,6] (aa 12 86) ?_;(refine jG (aa 12 87) 0 F (bD F F F F) ?_);(refine jG (aa 12 119) 5 F (aq F F F) ?_);refine jA 3 F ?_;(refine ab F F F (kU oM) F ?_);refine jS (aa 12 127) ?_;refine jA 7 F ?_;(refine ab F F F cx_mk F ?_);refine jS (aa 12 255) ?_;refine jT 0 [8,9,10,11] (aa 12 4095) ?_;refine jQ ?_))
    all_goals refine jY (vs:=[_,_]) ?_
    all_goals (split <;> rfl)
   | some b =>
    rw [e2] at cx_mk
    dsimp only at cx_mk
    by_cases hno : 0 ≤ n ∧ n ≤ 999
    ·rw [if_pos hno] at cx_mk
     rw [if_pos ⟨rfl,hno⟩]
     refine jE [(0,_),(1,_),(2,_),(3,_)] Tryz.func10 Tryz.ntmps10 fun B hB=>?_
     repeat' (first | refine jR ?_ | (refine jo ?_;first | refine jO fun _=>?_ | refine aB F ?_ | refine jL fun _=>?_ | refine jC F F F ?_ | refine ar F ?_ | refine ab F F F cx_find F ?_ | refine ab F F F cx_so1 F ?_) | refine ak F F F ?_ | refine ad F F ?_ | (refine aj (am (id:=4) _ (fun _ h=>h) ai ?_);refine jT 8 [1,2,4,6] (aa 12 86) ?_;(refine jG (aa 12 87) 0 F (bD F F F F) ?_);(refine jG (aa 12 119) 5 F (aq F F F) ?_);refine jA 3 F ?_;(refine ab F F F (kU oM) F ?_);refine jS (aa 12 127) ?_;refine jA 7 F ?_;(refine ab F F F cx_mk F ?_);refine jS (aa 12 255) ?_;refine jT 0 [8,9,10,11] (aa 12 4095) ?_;refine jQ ?_))
     all_goals refine jY (vs:=[_,_]) ?_
     all_goals rfl
    ·rw [if_neg hno] at cx_mk
     rw [if_neg fun h=>hno h.2]
     refine jE [(0,_),(1,_),(2,_),(3,_)] Tryz.func10 Tryz.ntmps10 fun B hB=>?_
     repeat' (first | refine jR ?_ | (refine jo ?_;first | refine jO fun _=>?_ | refine aB F ?_ | refine jL fun _=>?_ | refine jC F F F ?_ | refine ar F ?_ | refine ab F F F cx_find F ?_ | refine ab F F F cx_so1 F ?_) | refine ak F F F ?_ | refine ad F F ?_ | (refine aj (am (id:=4) _ (fun _ h=>h) ai ?_);refine jT 8 [1,2,4,6] (aa 12 86) ?_;(refine jG (aa 12 87) 0 F (bD F F F F) ?_);(refine jG (aa 12 119) 5 F (aq F F F) ?_);refine jA 3 F ?_;(refine ab F F F (kU oM) F ?_);refine jS (aa 12 127) ?_;refine jA 7 F ?_;(refine ab F F F cx_mk F ?_);refine jS (aa 12 255) ?_;refine jT 0 [8,9,10,11] (aa 12 4095) ?_;refine jQ ?_))
     all_goals refine jY (vs:=[_,_]) ?_
     all_goals rfl
theorem mM {s x w : ac8} {u : Value} {a : List Mt} {n : Int} (h : s.length ≤ 1048576) (hu : be G u 3 a.length (aE eL a)) (hn : a.length ≤ 1048576) (ha : ∀ x ∈ a,gP x) (hw : x.length ≤ 1048576 ∧ w.length ≤ 1048576) :
  an ac7 18 [Ag [S s,u],I n,S x,S w] G (· = Tu [S (bW s a n x true w).1,Bo (bW s a n x true w).2]):=by
 have cx_f0:=kV (s:=s) (x:=x) hu hn
 unfold bW
 cases hf : cS a x with
 | none =>
  rw [hf] at cx_f0
  have cx_find : an ac7 29 [Ag [S s,u],S x] G (· = Tu [Ag [S [],S [],S []],Bo false]):=cx_f0
  refine jE [(0,_),(1,_),(2,_),(3,_)] Tryz.func18 Tryz.ntmps18 fun B hB=>?_
  repeat' (first | refine jR ?_ | (refine jo ?_;first | refine jO fun _=>?_ | refine aB F ?_ | refine jL fun _=>?_ | refine jC F F F ?_ | refine aG F ?_ | refine ab F F F cx_find F ?_) | refine ax F F F ?_ | refine ac F F ?_)
  all_goals refine jY (vs:=[_,_]) ?_
  all_goals rfl
 | some m =>
  rw [hf] at cx_f0
  have cx_find : an ac7 29 [Ag [S s,u],S x] G (· = Tu [Ag [S m.1,S m.2.1,S m.2.2],Bo true]):=cx_f0
  have hxm:=ha _ (List.mem_of_find?_eq_some hf)
  have cx_so:=jx h hu hn ha
  dsimp only
  cases e1 : cL s a with
  | false =>
   have cx_so1 : an ac7 37 [Ag [S s,u]] G (· = Bo false):=by rw [← e1];exact cx_so
   clear cx_so
   rw [if_neg (by simp)]
   refine jE [(0,_),(1,_),(2,_),(3,_)] Tryz.func18 Tryz.ntmps18 fun B hB=>?_
   repeat' (first | refine jR ?_ | (refine jo ?_;first | refine jO fun _=>?_ | refine aB F ?_ | refine jL fun _=>?_ | refine jC F F F ?_ | refine ar F ?_ | refine ab F F F cx_find F ?_ | refine ab F F F cx_so1 F ?_) | refine ak F F F ?_ | refine ac F F ?_)
   all_goals refine jY (vs:=[_,_]) ?_
   all_goals rfl
  | true =>
   have cx_so1 : an ac7 37 [Ag [S s,u]] G (· = Bo true):=by rw [← e1];exact cx_so
   clear cx_so
   have cx_mk:=qU (G:=G) (s:=s) (k:=m.2.2) (w:=w) (hd:=[0]) (u:=u) (n:=n) ⟨⟨h,oM,hw.2⟩,by simp⟩
   dsimp only [cond]
   cases e2 : c6 s m.2.2 w with
   | none =>
    rw [e2] at cx_mk
    dsimp only at cx_mk
    refine jE [(0,_),(1,_),(2,_),(3,_)] Tryz.func18 Tryz.ntmps18 fun B hB=>?_
    repeat' (first | refine jR ?_ | (refine jo ?_;first | refine jO fun _=>?_ | refine ah F ?_ | refine aB F ?_ | refine jL fun _=>?_ | refine jC F F F ?_ | refine ar F ?_ | refine jF fun _=>?_ | refine jV (cX F F (by (repeat (first | exact BL.nil | apply BL.lit rfl));done)) ?_ | refine ab F F F cx_find F ?_ | refine ab F F F cx_so1 F ?_ | refine ab F F F cx_mk F ?_) | refine ak F F F ?_ | refine ad F F ?_)
    all_goals refine jY (vs:=[_,_]) ?_
    all_goals (split <;> rfl)
   | some b =>
    rw [e2] at cx_mk
    dsimp only at cx_mk
    by_cases hno : 0 ≤ n ∧ n ≤ 999
    ·rw [if_pos hno] at cx_mk
     rw [if_pos ⟨rfl,hno⟩]
     refine jE [(0,_),(1,_),(2,_),(3,_)] Tryz.func18 Tryz.ntmps18 fun B hB=>?_
     repeat' (first | refine jR ?_ | (refine jo ?_;first | refine jO fun _=>?_ | refine ah F ?_ | refine aB F ?_ | refine jL fun _=>?_ | refine jC F F F ?_ | refine ar F ?_ | refine jF fun _=>?_ | refine jV (cX F F (by (repeat (first | exact BL.nil | apply BL.lit rfl));done)) ?_ | refine ab F F F cx_find F ?_ | refine ab F F F cx_so1 F ?_ | refine ab F F F cx_mk F ?_) | refine ak F F F ?_ | refine ad F F ?_)
     all_goals refine jY (vs:=[_,_]) ?_
     all_goals rfl
    ·rw [if_neg hno] at cx_mk
     rw [if_neg fun h=>hno h.2]
     refine jE [(0,_),(1,_),(2,_),(3,_)] Tryz.func18 Tryz.ntmps18 fun B hB=>?_
     repeat' (first | refine jR ?_ | (refine jo ?_;first | refine jO fun _=>?_ | refine ah F ?_ | refine aB F ?_ | refine jL fun _=>?_ | refine jC F F F ?_ | refine ar F ?_ | refine jF fun _=>?_ | refine jV (cX F F (by (repeat (first | exact BL.nil | apply BL.lit rfl));done)) ?_ | refine ab F F F cx_find F ?_ | refine ab F F F cx_so1 F ?_ | refine ab F F F cx_mk F ?_) | refine ak F F F ?_ | refine ad F F ?_)
     all_goals refine jY (vs:=[_,_]) ?_
     all_goals rfl
theorem ve {s x w : ac8} {u : Value} {a : List Mt} {n : Int} (h : s.length ≤ 1048576) (hu : be G u 3 a.length (aE eL a)) (hn : a.length ≤ 1048576) (ha : ∀ x ∈ a,gP x) (hw : x.length ≤ 1048576 ∧ w.length ≤ 1048576) :
  an ac7 9 [Ag [S s,u],I n,S x,S w] G (· = Tu [S (bW s a n x false w).1,Bo (bW s a n x false w).2]):=by
 have cx_f0:=hC (s:=s) (x:=x) hu hn
 unfold bW
 cases hf : cS a x with
 | none =>
  rw [hf] at cx_f0
  have cx_find : an ac7 31 [Ag [S s,u],S x] G (· = Tu [Ag [S [],S [],S []],Bo false]):=cx_f0
  refine jE [(0,_),(1,_),(2,_),(3,_)] Tryz.func9 Tryz.ntmps9 fun B hB=>?_
  repeat' (first | refine jR ?_ | (refine jo ?_;first | refine jO fun _=>?_ | refine aB F ?_ | refine jL fun _=>?_ | refine jC F F F ?_ | refine aG F ?_ | refine ab F F F cx_find F ?_) | refine ax F F F ?_ | refine ac F F ?_)
  all_goals refine jY (vs:=[_,_]) ?_
  all_goals rfl
 | some m =>
  rw [hf] at cx_f0
  have cx_find : an ac7 31 [Ag [S s,u],S x] G (· = Tu [Ag [S m.1,S m.2.1,S m.2.2],Bo true]):=cx_f0
  have hxm:=ha _ (List.mem_of_find?_eq_some hf)
  have cx_so:=gL h hu hn ha
  dsimp only
  cases e1 : cL s a with
  | false =>
   have cx_so1 : an ac7 32 [Ag [S s,u]] G (· = Bo false):=by rw [← e1];exact cx_so
   clear cx_so
   rw [if_neg (by simp)]
   refine jE [(0,_),(1,_),(2,_),(3,_)] Tryz.func9 Tryz.ntmps9 fun B hB=>?_
   repeat' (first | refine jR ?_ | (refine jo ?_;first | refine jO fun _=>?_ | refine aB F ?_ | refine jL fun _=>?_ | refine jC F F F ?_ | refine aG F ?_ | refine ar F ?_ | refine ab F F F cx_find F ?_ | refine ab F F F cx_so1 F ?_) | refine ax F F F ?_ | refine ak F F F ?_ | refine ac F F ?_)
   all_goals refine jY (vs:=[_,_]) ?_
   all_goals rfl
  | true =>
   have cx_so1 : an ac7 32 [Ag [S s,u]] G (· = Bo true):=by rw [← e1];exact cx_so
   clear cx_so
   have hx3:=jh e1 hf
   by_cases hno : 0 ≤ n ∧ n ≤ 999
   ·have cx_nok : an ac7 33 [I n] G (· = Bo true):=by
     rw [← eH (decide_eq_true hno)];exact dJ
    rw [if_pos ⟨rfl,hno⟩]
    have cx_bp1:=kH (G:=G) (s:=s) (k:=m.2.1) (w:=w) ⟨h,oM,hw.2⟩
    dsimp only [cond]
    cases e2 : c6 s m.2.1 w with
    | none =>
     rw [e2] at cx_bp1
     dsimp only [Option.getD,Option.isSome] at cx_bp1 ⊢
     refine jE [(0,_),(1,_),(2,_),(3,_)] Tryz.func9 Tryz.ntmps9 fun B hB=>?_
     repeat' (first | refine jR ?_ | (refine jo ?_;first | refine jO fun _=>?_ | refine ah F ?_ | refine aB F ?_ | refine jL fun _=>?_ | refine jC F F F ?_ | refine ar F ?_ | refine ab F F F cx_find F ?_ | refine ab F F F cx_so1 F ?_ | refine ab F F F cx_nok F ?_ | refine ab F F F cx_bp1 F ?_) | refine ak F F F ?_ | refine ac F F ?_ | refine ad F F ?_)
     all_goals refine jY (vs:=[_,_]) ?_
     all_goals rfl
    | some b =>
     have hbl:=lQ e2
     rw [e2] at cx_bp1
     dsimp only [Option.getD,Option.isSome] at cx_bp1 ⊢
     have hl3:=bx (n:=n) oM
     have hl5:=bx (n:=(x.length : Int)) oM
     have hl4 : (aX n ++ (aX x.length ++ x) ++ b).length ≤ 9000000000000000000:=by simp;omega
     refine jE [(0,_),(1,_),(2,_),(3,_)] Tryz.func9 Tryz.ntmps9 fun B hB=>?_
     repeat' (first | refine jX ?_ | (refine jo ?_;first | refine jO fun _=>?_ | refine ah F ?_ | refine aB F ?_ | refine jL fun _=>?_ | refine jC F F F ?_ | refine ar F ?_ | refine ab F F F cx_find F ?_ | refine ab F F F cx_so1 F ?_ | refine ab F F F cx_nok F ?_ | refine ab F F F cx_bp1 F ?_ | refine ab F F F (eB oM) F ?_ | refine ab F F F (na oM) F ?_ | refine ab F F F (im ‹_›) F ?_) | refine ak F F F ?_ | refine ad F F ?_)
     all_goals refine jY (vs:=[_,_]) ?_
     all_goals rfl
   ·have cx_nok : an ac7 33 [I n] G (· = Bo false):=by
     rw [← eH (decide_eq_false hno)];exact dJ
    rw [if_neg fun h=>hno h.2]
    refine jE [(0,_),(1,_),(2,_),(3,_)] Tryz.func9 Tryz.ntmps9 fun B hB=>?_
    repeat' (first | refine jR ?_ | (refine jo ?_;first | refine jO fun _=>?_ | refine aB F ?_ | refine jL fun _=>?_ | refine jC F F F ?_ | refine ar F ?_ | refine ab F F F cx_find F ?_ | refine ab F F F cx_so1 F ?_ | refine ab F F F cx_nok F ?_) | refine ak F F F ?_ | refine ac F F ?_)
    all_goals refine jY (vs:=[_,_]) ?_
    all_goals rfl
theorem mN {s x w : ac8} {u : Value} {a : List Mt} {n : Int} (h : s.length ≤ 1048576) (hu : be G u 3 a.length (aE eL a)) (hn : a.length ≤ 1048576) (ha : ∀ x ∈ a,gP x) (hw : x.length ≤ 1048576 ∧ w.length ≤ 1048576) :
  an ac7 16 [Ag [S s,u],I n,S x,S w] G (· = Tu [S (bW s a n x true w).1,Bo (bW s a n x true w).2]):=by
 have cx_f0:=hC (s:=s) (x:=x) hu hn
 unfold bW
 cases hf : cS a x with
 | none =>
  rw [hf] at cx_f0
  have cx_find : an ac7 31 [Ag [S s,u],S x] G (· = Tu [Ag [S [],S [],S []],Bo false]):=cx_f0
  refine jE [(0,_),(1,_),(2,_),(3,_)] Tryz.func16 Tryz.ntmps16 fun B hB=>?_
  repeat' (first | refine jR ?_ | (refine jo ?_;first | refine jO fun _=>?_ | refine aB F ?_ | refine jL fun _=>?_ | refine jC F F F ?_ | refine aG F ?_ | refine ab F F F cx_find F ?_) | refine ax F F F ?_ | refine ac F F ?_)
  all_goals refine jY (vs:=[_,_]) ?_
  all_goals rfl
 | some m =>
  rw [hf] at cx_f0
  have cx_find : an ac7 31 [Ag [S s,u],S x] G (· = Tu [Ag [S m.1,S m.2.1,S m.2.2],Bo true]):=cx_f0
  have hxm:=ha _ (List.mem_of_find?_eq_some hf)
  have cx_so:=gL h hu hn ha
  dsimp only
  cases e1 : cL s a with
  | false =>
   have cx_so1 : an ac7 32 [Ag [S s,u]] G (· = Bo false):=by rw [← e1];exact cx_so
   clear cx_so
   rw [if_neg (by simp)]
   refine jE [(0,_),(1,_),(2,_),(3,_)] Tryz.func16 Tryz.ntmps16 fun B hB=>?_
   repeat' (first | refine jR ?_ | (refine jo ?_;first | refine jO fun _=>?_ | refine aB F ?_ | refine jL fun _=>?_ | refine jC F F F ?_ | refine aG F ?_ | refine ar F ?_ | refine ab F F F cx_find F ?_ | refine ab F F F cx_so1 F ?_) | refine ax F F F ?_ | refine ak F F F ?_ | refine ac F F ?_)
   all_goals refine jY (vs:=[_,_]) ?_
   all_goals rfl
  | true =>
   have cx_so1 : an ac7 32 [Ag [S s,u]] G (· = Bo true):=by rw [← e1];exact cx_so
   clear cx_so
   have hx3:=jh e1 hf
   by_cases hno : 0 ≤ n ∧ n ≤ 999
   ·have cx_nok : an ac7 33 [I n] G (· = Bo true):=by
     rw [← eH (decide_eq_true hno)];exact dJ
    rw [if_pos ⟨rfl,hno⟩]
    have cx_bp1:=kH (G:=G) (s:=s) (k:=m.2.2) (w:=w) ⟨h,oM,hw.2⟩
    dsimp only [cond]
    cases e2 : c6 s m.2.2 w with
    | none =>
     rw [e2] at cx_bp1
     dsimp only [Option.getD,Option.isSome] at cx_bp1 ⊢
     refine jE [(0,_),(1,_),(2,_),(3,_)] Tryz.func16 Tryz.ntmps16 fun B hB=>?_
     repeat' (first | refine jR ?_ | (refine jo ?_;first | refine jO fun _=>?_ | refine ah F ?_ | refine aB F ?_ | refine jL fun _=>?_ | refine jC F F F ?_ | refine ar F ?_ | refine ab F F F cx_find F ?_ | refine ab F F F cx_so1 F ?_ | refine ab F F F cx_nok F ?_ | refine ab F F F cx_bp1 F ?_) | refine ak F F F ?_ | refine ac F F ?_ | refine ad F F ?_)
     all_goals refine jY (vs:=[_,_]) ?_
     all_goals rfl
    | some b =>
     have hbl:=lQ e2
     rw [e2] at cx_bp1
     dsimp only [Option.getD,Option.isSome] at cx_bp1 ⊢
     have hl3:=bx (n:=n) oM
     skip
     have hl4 : (aX n ++ ([0]) ++ b).length ≤ 9000000000000000000:=by simp;omega
     refine jE [(0,_),(1,_),(2,_),(3,_)] Tryz.func16 Tryz.ntmps16 fun B hB=>?_
     repeat' (first | refine jX ?_ | (refine jo ?_;first | refine jO fun _=>?_ | refine ah F ?_ | refine aB F ?_ | refine jL fun _=>?_ | refine jC F F F ?_ | refine ar F ?_ | refine ab F F F cx_find F ?_ | refine ab F F F cx_so1 F ?_ | refine ab F F F cx_nok F ?_ | refine ab F F F cx_bp1 F ?_ | refine ab F F F (eB oM) F ?_ | refine ab F F F (im ‹_›) F ?_) | refine ak F F F ?_ | refine ad F F ?_)
     all_goals refine jY (vs:=[_,_]) ?_
     all_goals rfl
   ·have cx_nok : an ac7 33 [I n] G (· = Bo false):=by
     rw [← eH (decide_eq_false hno)];exact dJ
    rw [if_neg fun h=>hno h.2]
    refine jE [(0,_),(1,_),(2,_),(3,_)] Tryz.func16 Tryz.ntmps16 fun B hB=>?_
    repeat' (first | refine jR ?_ | (refine jo ?_;first | refine jO fun _=>?_ | refine aB F ?_ | refine jL fun _=>?_ | refine jC F F F ?_ | refine ar F ?_ | refine ab F F F cx_find F ?_ | refine ab F F F cx_so1 F ?_ | refine ab F F F cx_nok F ?_) | refine ak F F F ?_ | refine ac F F ?_)
    all_goals refine jY (vs:=[_,_]) ?_
    all_goals rfl
def cR (x : ac8) : Option (Int × ac8):=match em x with
 | some body=>(match bj body with
  | some (n,r)=>if n ≤ 999 then some (n,r) else none
  | none=>none)
 | none=>none
def il (s : ac8) (a : List Mt) (x : ac8) : Option (Int × ac8 × V):=match cR x with
 | some (n,r)=>(match b5 r with
  | some (nm,b)=>(match cS a nm with
   | some m=>if cL s a = true then (cr s m.2.1 b).map fun v=>(n,nm,v) else none
   | none=>none)
  | none=>none)
 | none=>none
def uV (o : Option (Int × ac8 × V)) : Value:=match o with
 | some (n,nm,v)=>Tu [I n,S nm,S v.out,Bo true]
 | none=>Tu [I 0,S [],S [],Bo false]
def hZ (s : ac8) (a : List Mt) (nm x : ac8) : Option (Int × Option V):=match cR x with
 | some (n,r)=>(match cS a nm with
  | some m=>if cL s a = true then (match bX r with
   | some (true,q)=>if q = [] then some (n,none) else none
   | some (false,q)=>(cr s m.2.2 q).map fun v=>(n,some v)
   | none=>none) else none
  | none=>none)
 | none=>none
def mR (o : Option (Int × Option V)) : Value:=match o with
 | some (n,some v)=>Tu [I n,S v.out,Bo true,Bo true]
 | some (n,none)=>Tu [I n,S [],Bo false,Bo true]
 | none=>Tu [I 0,S [],Bo false,Bo false]
theorem j7 {x r : ac8} {n : Int} (h : cR x = some (n,r)) : ∃ body,em x = some body ∧ bj body = some (n,r) ∧ 0 ≤ n ∧ n ≤ 999 ∧ r.length < body.length ∧ body.length ≤ 100:=by
 unfold cR at h
 split at h
 ·rename_i body hj
  split at h
  ·rename_i n' r' hg
   split at h
   ·cases h
    exact ⟨body,hj,hg,(cn hg).1,by assumption,bE hg,lj hj⟩
   ·cases h
  ·cases h
 ·cases h
theorem uZ {x r : ac8} {n : Int} (h : cR x = some (n,r)) : an ac7 47 [S x] G (· = Tu [I n,S r,Bo true]):=by
 obtain ⟨body,hj,hg,h0,h1,h2,h3⟩:=j7 h
 have cx_FramesGet:=wD (G:=G) hj
 have cx_ng0:=d7 (G:=G) (s:=body) oM
 rw [hg] at cx_ng0
 have cx_ng : an ac7 78 [S body] G (· = Tu [I n,S r,Bo true]):=cx_ng0
 refine jE [(0,_)] Tryz.func47 Tryz.ntmps47 fun B hB=>?_
 repeat' (first | refine jR ?_ | (refine jo ?_;first | refine aG F ?_ | refine ar F ?_ | refine jV (av F) ?_ | refine jV (aN F F oM) ?_ | refine jV (f9 F F F) ?_ | (refine dl F F F cx_FramesGet F ?_;rintro _ _ ⟨b,cap,rfl,rfl⟩;dsimp only [zA,fA]) | refine ab F F F cx_ng F ?_) | refine ax F F F ?_ | refine ak F F F ?_ | refine ad F F ?_)
 all_goals refine jY (vs:=[_,_,_]) ?_
 all_goals exact (aD _ _ _).trans (by rw [decide_eq_true h1])
theorem u3 {x : ac8} (hx : x.length ≤ 1048576) (h : cR x = none) : an ac7 47 [S x] G (fun v=>∃ n r,v = Tu [I n,S r,Bo false] ∧ r.length ≤ 100):=by
 cases hj : em x with
 | none =>
  have hFG:=abl (G:=G) (s:=x) hx hj
  refine jE [(0,_)] Tryz.func47 Tryz.ntmps47 fun B hB=>?_
  repeat' (refine jR ?_)
  refine jo ?_
  refine dl F F F hFG F ?_
  rintro _ _ ⟨ub,j1,t1,xs1,ok1,rfl,rfl,hbad⟩
  dsimp only [zA,fA]
  rcases hbad with rfl | h | h | h
  all_goals repeat' (first | refine jR ?_ | (refine jo ?_;first | refine aG F ?_ | refine ar F ?_ | refine jV (xW F) ?_) | (refine ax F F (by first | rfl | (refine decide_eq_true ?_;first | assumption | omega)) ?_) | refine dN F F (fun _=>?_) (fun _=>?_) | refine jj F F (fun _=>?_) (fun _=>?_) | (refine ac F (by first | rfl | (refine decide_eq_true ?_;(omega))) ?_))
  all_goals refine jY (vs:=[_,_,_]) ?_
  all_goals exact ⟨_,_,F,by simp⟩
 | some body =>
  have hbl:=lj hj
  have cx_FramesGet:=wD (G:=G) hj
  have cx_ng0:=d7 (G:=G) (s:=body) oM
  cases hg : bj body with
  | none =>
   rw [hg] at cx_ng0
   have cx_ng : an ac7 78 [S body] G (· = Tu [I 0,S [],Bo false]):=cx_ng0
   refine jE [(0,_)] Tryz.func47 Tryz.ntmps47 fun B hB=>?_
   repeat' (first | refine jR ?_ | (refine jo ?_;first | refine ar F ?_ | refine jV (av F) ?_ | refine jV (aN F F oM) ?_ | refine jV (f9 F F F) ?_ | (refine dl F F F cx_FramesGet F ?_;rintro _ _ ⟨b,cap,rfl,rfl⟩;dsimp only [zA,fA]) | refine ab F F F cx_ng F ?_) | refine ak F F F ?_ | refine ad F F ?_)
   all_goals refine jY (vs:=[_,_,_]) ?_
   all_goals exact ⟨_,_,F,by simp⟩
  | some z =>
   obtain ⟨n,r⟩:=z
   have hl:=bE hg
   rw [hg] at cx_ng0
   have cx_ng : an ac7 78 [S body] G (· = Tu [I n,S r,Bo true]):=cx_ng0
   have hn : ¬ n ≤ 999:=fun hn=>by unfold cR at h;rw [hj] at h;dsimp only at h;rw [hg] at h;dsimp only at h;rw [if_pos hn] at h;cases h
   refine jE [(0,_)] Tryz.func47 Tryz.ntmps47 fun B hB=>?_
   repeat' (first | refine jR ?_ | (refine jo ?_;first | refine aG F ?_ | refine ar F ?_ | refine jV (av F) ?_ | refine jV (aN F F oM) ?_ | refine jV (f9 F F F) ?_ | (refine dl F F F cx_FramesGet F ?_;rintro _ _ ⟨b,cap,rfl,rfl⟩;dsimp only [zA,fA]) | refine ab F F F cx_ng F ?_) | refine ax F F F ?_ | refine ak F F F ?_ | refine ad F F ?_)
   all_goals refine jY (vs:=[_,_,_]) ?_
   all_goals exact ⟨n,r,(aD _ _ _).trans (by rw [decide_eq_false hn]),oM⟩
theorem uY {s k b : ac8} {u : Value} (hu : u.oneCell' = true) (h : s.length ≤ 1048576 ∧ k.length ≤ 1048576 ∧ b.length ≤ 1048576) : an ac7 48 [Ag [S s,u],S k,S b] G (· = kM ((cr s k b).map V.out)):=by
 have cx_bc1:=q6 (G:=G) h
 have cx_bg1:=tl (G:=G) h
 cases hc : cr s k b with
 | none =>
  rw [hc] at cx_bc1
  dsimp only [Option.isSome] at cx_bc1
  clear cx_bg1
  refine jE [(0,_),(1,_),(2,_)] Tryz.func48 Tryz.ntmps48 fun B hB=>?_
  repeat' (first | refine jR ?_ | (refine jo ?_;first | refine jO fun _=>?_ | refine ah F ?_ | refine ab F F F cx_bc1 F ?_) | refine ac F F ?_)
  all_goals refine jY (vs:=[_,_]) ?_
  all_goals rfl
 | some v =>
  rw [hc] at cx_bc1
  rw [uU hc] at cx_bg1
  unfold kM at cx_bg1 ⊢
  dsimp only [Option.map,Option.getD,Option.isSome] at cx_bc1 cx_bg1 ⊢
  clear hc
  generalize v.out = vo at *
  refine jE [(0,_),(1,_),(2,_)] Tryz.func48 Tryz.ntmps48 fun B hB=>?_
  repeat' (first | refine jR ?_ | (refine jo ?_;first | refine jO fun _=>?_ | refine ah F ?_ | refine ab F F F cx_bc1 F ?_ | refine ab F F F cx_bg1 F ?_) | refine ad F F ?_)
  all_goals refine jY (vs:=[_,_]) ?_
  all_goals rfl
theorem f6 {s nm x : ac8} {a : List Mt} (h : cR x = none ∨ cS a nm = none ∨ cL s a = false ∨ ∃ n r,cR x = some (n,r) ∧ bX r = none) : hZ s a nm x = none:=by
 unfold hZ
 cases ho : cR x with
 | none=>rfl
 | some z =>
  obtain ⟨n,r⟩:=z
  dsimp only
  cases hf : cS a nm with
  | none=>rfl
  | some m =>
   dsimp only
   by_cases hs : cL s a = true
   ·rw [if_pos hs]
    rcases h with h | h | h | ⟨n',r',h1,h2⟩
    ·rw [ho] at h;cases h
    ·rw [hf] at h;cases h
    ·rw [h] at hs;cases hs
    ·rw [ho] at h1;cases h1;rw [h2]
   ·rw [if_neg hs]
theorem qd {s nm x r : ac8} {a : List Mt} {n : Int} {m : Mt} (ho : cR x = some (n, r)) (hf : cS a nm = some m) (hs : cL s a = true) : hZ s a nm x = match bX r with
      | some (true,q)=>if q = [] then some (n,none) else none
      | some (false,q)=>(cr s m.2.2 q).map fun v=>(n,some v)
      | none=>none:=by
  unfold hZ
  rw [ho];dsimp only;rw [hf];dsimp only;rw [if_pos hs]
  all_goals (rcases bX r with _ | ⟨b,q⟩)
  all_goals (try cases b)
  all_goals rfl
theorem u7 {s x : ac8} {u : Value} {a : List Mt} (hu : be G u 3 a.length (aE eL a)) (hn : a.length ≤ 1048576) : an ac7 29 [Ag [S s,u],S x] G (fun v=>∃ m1 m2 m3 b,v = Tu [Ag [S m1,S m2,S m3],Bo b]):=by
 have h2:=kV (s:=s) (x:=x) hu hn
 cases hf : cS a x with
 | none=>rw [hf] at h2;exact h2.mono fun v G' L' h=>⟨h.1,h.2.1,_,_,_,_,h.2.2⟩
 | some m=>rw [hf] at h2;exact h2.mono fun v G' L' h=>⟨h.1,h.2.1,_,_,_,_,h.2.2⟩
theorem sT {s nm x : ac8} {u : Value} {a : List Mt} (h : s.length ≤ 1048576 ∧ x.length ≤ 1048576) (hu : be G u 3 a.length (aE eL a)) (hn : a.length ≤ 1048576) (ha : ∀ x ∈ a,gP x) :
  an ac7 14 [Ag [S s,u],S nm,S x] G (· = mR (hZ s a nm x)):=by
 have hu1:=hu.one
 cases ho : cR x with
 | none =>
  have hop:=u3 (G:=G) h.2 ho
  rw [f6 (.inl ho)]
  clear ho
  refine jE [(0,_),(1,_),(2,_)] Tryz.func14 Tryz.ntmps14 fun B hB=>?_
  repeat' (first | refine jR ?_ | (refine jo ?_;refine jO fun _=>?_))
  refine jo ?_
  refine cN F F F hop F ?_
  rintro _ ⟨n1,r1,rfl,hr1⟩
  repeat' (first | refine jR ?_ | (refine jo ?_;refine aB F ?_))
  refine jo ?_
  refine cN F F F (u7 hu hn) F ?_
  rintro _ ⟨m1,m2,m3,b2,rfl⟩
  repeat' (first | refine jR ?_ | (refine jo ?_;first | refine jL fun _=>?_ | refine jC F F F ?_ | refine aG F ?_) | refine ax F F F ?_ | refine ac F F ?_)
  all_goals refine jY (vs:=[_,_,_,_]) ?_
  all_goals rfl
 | some z =>
  obtain ⟨n,r⟩:=z
  obtain ⟨body,hj,hg,h0,h1,h2,h3⟩:=j7 ho
  have cx_op:=uZ (G:=G) ho
  have cx_f0:=kV (s:=s) (x:=nm) hu hn
  clear hj hg
  cases hf : cS a nm with
  | none =>
   rw [hf] at cx_f0
   have cx_find : an ac7 29 [Ag [S s,u],S nm] G (· = Tu [Ag [S [],S [],S []],Bo false]):=cx_f0
   rw [f6 (.inr (.inl hf))]
   clear cx_f0 ho hf
   refine jE [(0,_),(1,_),(2,_)] Tryz.func14 Tryz.ntmps14 fun B hB=>?_
   repeat' (first | refine jR ?_ | (refine jo ?_;first | refine jO fun _=>?_ | refine aB F ?_ | refine jL fun _=>?_ | refine jC F F F ?_ | refine aG F ?_ | refine ar F ?_ | refine ab F F F cx_op F ?_ | refine ab F F F cx_find F ?_) | refine ax F F F ?_ | refine ak F F F ?_ | refine ac F F ?_)
   all_goals refine jY (vs:=[_,_,_,_]) ?_
   all_goals rfl
  | some m =>
   rw [hf] at cx_f0
   have cx_find : an ac7 29 [Ag [S s,u],S nm] G (· = Tu [Ag [S m.1,S m.2.1,S m.2.2],Bo true]):=cx_f0
   clear cx_f0
   have hxm:=ha _ (List.mem_of_find?_eq_some hf)
   have cx_so:=jx h.1 hu hn ha
   cases e1 : cL s a with
   | false =>
    have cx_so1 : an ac7 37 [Ag [S s,u]] G (· = Bo false):=by rw [← e1];exact cx_so
    rw [f6 (.inr (.inr (.inl e1)))]
    clear cx_so ho hf
    refine jE [(0,_),(1,_),(2,_)] Tryz.func14 Tryz.ntmps14 fun B hB=>?_
    repeat' (first | refine jR ?_ | (refine jo ?_;first | refine jO fun _=>?_ | refine aB F ?_ | refine jL fun _=>?_ | refine jC F F F ?_ | refine aG F ?_ | refine ar F ?_ | refine ab F F F cx_op F ?_ | refine ab F F F cx_find F ?_ | refine ab F F F cx_so1 F ?_) | refine ax F F F ?_ | refine ak F F F ?_ | refine ac F F ?_)
    all_goals refine jY (vs:=[_,_,_,_]) ?_
    all_goals rfl
   | true =>
    have cx_so1 : an ac7 37 [Ag [S s,u]] G (· = Bo true):=by rw [← e1];exact cx_so
    rw [qd ho hf e1]
    clear cx_so ho hf
    cases r with
    | nil =>
     refine jE [(0,_),(1,_),(2,_)] Tryz.func14 Tryz.ntmps14 fun B hB=>?_
     repeat' (first | refine jR ?_ | (refine jo ?_;first | refine jO fun _=>?_ | refine aB F ?_ | refine jL fun _=>?_ | refine jC F F F ?_ | refine aG F ?_ | refine ar F ?_ | refine ab F F F cx_op F ?_ | refine ab F F F cx_find F ?_ | refine ab F F F cx_so1 F ?_) | refine ax F F F ?_ | refine ak F F F ?_ | refine ac F F ?_)
     all_goals refine jY (vs:=[_,_,_,_]) ?_
     all_goals rfl
    | cons e q =>
     have hel : (e :: q).length = q.length + 1:=rfl
     have he0 : bt (e :: q) (Int.toNat 0) = e.toNat:=bi e q
     by_cases e0 : e.toNat = 0
     ·obtain rfl : e = 0:=bm e0 dC
      rw [nS]
      dsimp only
      have he0 : bt (0 :: q) (Int.toNat 0) = 0:=he0
      have cx_lv:=uY (G:=G) (s:=s) (k:=m.2.2) (b:=q) hu1 ⟨h.1,oM,oM⟩
      unfold kM at cx_lv
      cases hc : cr s m.2.2 q with
      | none =>
       rw [hc] at cx_lv
       dsimp only [Option.map,Option.getD,Option.isSome] at cx_lv ⊢
       clear hc
       refine jE [(0,_),(1,_),(2,_)] Tryz.func14 Tryz.ntmps14 fun B hB=>?_
       repeat' (first | refine jM ?_ | (refine jo ?_;first | refine jO fun _=>?_ | refine aB F ?_ | refine jL fun _=>?_ | refine jC F F F ?_ | refine ar F ?_ | refine ab F F F cx_op F ?_ | refine ab F F F cx_find F ?_ | refine ab F F F cx_so1 F ?_) | refine ak F F F ?_ | refine ac F F ?_ | refine ad F F ?_ | (refine aj (am (id:=9) _ (fun _ h=>h) ai ?_);refine jW 8 [1,3,4] (aa 11 26) ?_;(refine jG (aa 11 27) 0 F (bD F F F F) ?_);(refine jG (aa 11 31) 2 F (aq F F F) ?_);refine jA 5 F ?_;(refine ab F F F cx_lv F ?_);refine jS (aa 11 63) ?_;refine jT 0 [6,7,8,9,10] (aa 11 2047) ?_;refine jQ ?_))
       all_goals refine jY (vs:=[_,_,_,_]) ?_
       all_goals rfl
      | some v =>
       rw [hc] at cx_lv
       dsimp only [Option.map,Option.getD,Option.isSome,mR] at cx_lv ⊢
       clear hc
       generalize v.out = vo at *
       refine jE [(0,_),(1,_),(2,_)] Tryz.func14 Tryz.ntmps14 fun B hB=>?_
       repeat' (first | refine jM ?_ | (refine jo ?_;first | refine jO fun _=>?_ | refine aB F ?_ | refine jL fun _=>?_ | refine jC F F F ?_ | refine ar F ?_ | refine ab F F F cx_op F ?_ | refine ab F F F cx_find F ?_ | refine ab F F F cx_so1 F ?_) | refine ak F F F ?_ | refine ad F F ?_ | (refine aj (am (id:=9) _ (fun _ h=>h) ai ?_);refine jW 8 [1,3,4] (aa 11 26) ?_;(refine jG (aa 11 27) 0 F (bD F F F F) ?_);(refine jG (aa 11 31) 2 F (aq F F F) ?_);refine jA 5 F ?_;(refine ab F F F cx_lv F ?_);refine jS (aa 11 63) ?_;refine jT 0 [6,7,8,9,10] (aa 11 2047) ?_;refine jQ ?_))
       all_goals refine jY (vs:=[_,_,_,_]) ?_
       all_goals rfl
     by_cases e2 : e.toNat = 1
     ·obtain rfl : e = 1:=bm e2 dC
      rw [rv]
      dsimp only
      have he0 : bt (1 :: q) (Int.toNat 0) = 1:=he0
      by_cases hq : q = []
      ·subst hq
       rw [if_pos rfl]
       refine jE [(0,_),(1,_),(2,_)] Tryz.func14 Tryz.ntmps14 fun B hB=>?_
       repeat' (first | refine jM ?_ | (refine jo ?_;first | refine jO fun _=>?_ | refine aB F ?_ | refine jL fun _=>?_ | refine jC F F F ?_ | refine ar F ?_ | refine ab F F F cx_op F ?_ | refine ab F F F cx_find F ?_ | refine ab F F F cx_so1 F ?_) | refine ak F F F ?_ | refine ac F F ?_ | refine ad F F ?_)
       all_goals refine jY (vs:=[_,_,_,_]) ?_
       all_goals rfl
      ·rw [if_neg hq]
       have hql:=List.length_pos_iff.2 hq
       refine jE [(0,_),(1,_),(2,_)] Tryz.func14 Tryz.ntmps14 fun B hB=>?_
       repeat' (first | refine jM ?_ | (refine jo ?_;first | refine jO fun _=>?_ | refine aB F ?_ | refine jL fun _=>?_ | refine jC F F F ?_ | refine ar F ?_ | refine ab F F F cx_op F ?_ | refine ab F F F cx_find F ?_ | refine ab F F F cx_so1 F ?_) | refine ak F F F ?_ | (refine ac F (by first | rfl | (refine decide_eq_true ?_;(omega))) ?_) | refine ad F F ?_)
       all_goals refine jY (vs:=[_,_,_,_]) ?_
       all_goals rfl
     ·rw [mh e0 e2]
      refine jE [(0,_),(1,_),(2,_)] Tryz.func14 Tryz.ntmps14 fun B hB=>?_
      repeat' (first | refine jM ?_ | (refine jo ?_;first | refine jO fun _=>?_ | refine aB F ?_ | refine jL fun _=>?_ | refine jC F F F ?_ | refine ar F ?_ | refine ab F F F cx_op F ?_ | refine ab F F F cx_find F ?_ | refine ab F F F cx_so1 F ?_) | refine ak F F F ?_ | refine ac F (ay oM) ?_)
      all_goals refine jY (vs:=[_,_,_,_]) ?_
      all_goals rfl
variable {s x w t nm : ac8} {a : List Mt} {n : Int}
theorem pH {out : Bool} (h : bW s a n x out w = (t,true)) : ∃ m b,cS a x = some m ∧ cL s a = true ∧ (0 ≤ n ∧ n ≤ 999) ∧ c6 s (bif out then m.2.2 else m.2.1) w = some b ∧ (aX n ++ (bif out then [0] else aX x.length ++ x) ++ b).length ≤ 100 ∧ t = frame (aX n ++ (bif out then [0] else aX x.length ++ x) ++ b):=by
 unfold bW at h
 cases hf : cS a x with
 | none=>rw [hf] at h;simp at h
 | some m =>
  rw [hf] at h
  dsimp only at h
  split at h
  ·rename_i hc
   cases hb : c6 s (bif out then m.2.2 else m.2.1) w with
   | none=>rw [hb] at h;simp at h
   | some b =>
    rw [hb] at h
    dsimp only at h
    simp only [Prod.mk.injEq] at h
    obtain ⟨h1,h2⟩:=h
    unfold mz at h2
    have hl:=of_decide_eq_true h2
    unfold fZ at h1
    rw [if_pos hl] at h1
    exact ⟨m,b,F,hc.1,hc.2,hb,hl,h1.symm⟩
  ·simp at h
theorem z4 {out : Bool} {m : Mt} {b : ac8} (h1 : cS a x = some m) (h2 : cL s a = true) (h3 : 0 ≤ n ∧ n ≤ 999) (h4 : c6 s (bif out then m.2.2 else m.2.1) w = some b) (h5 : (aX n ++ (bif out then [0] else aX x.length ++ x) ++ b).length ≤ 100) : bW s a n x out w = (frame (aX n ++ (bif out then [0] else aX x.length ++ x) ++ b),true):=by
 unfold bW
 rw [h1]
 dsimp only
 rw [if_pos ⟨h2,h3⟩,h4]
 dsimp only
 unfold fZ mz
 rw [if_pos h5,decide_eq_true h5]
theorem oZ {r : ac8} (h0 : 0 ≤ n ∧ n ≤ 999) (hl : (aX n ++ r).length ≤ 100) : cR (frame (aX n ++ r)) = some (n,r):=by
 unfold cR
 rw [gh.2 ⟨hl,rfl⟩]
 dsimp only
 rw [gq h0.1 oM]
 dsimp only
 rw [if_pos h0.2]
theorem xd (h : bW s a n x false w = (t,true)) : ∃ v,il s a t = some (n,x,v) ∧ v.out = w:=by
 obtain ⟨m,b,h1,h2,h3,h4,h5,rfl⟩:=pH h
 dsimp only [cond] at h4 h5 ⊢
 obtain ⟨v,hv,ho⟩:=mj h4
 rw [List.append_assoc] at h5 ⊢
 refine ⟨v,?_,ho⟩
 unfold il
 rw [oZ h3 h5]
 dsimp only
 have hx3:=jh h2 h1
 rw [List.append_assoc,j4 oM]
 dsimp only
 rw [h1]
 dsimp only
 rw [if_pos h2,hv]
 rfl
theorem zE (h : bW s a n nm true w = (t,true)) : ∃ v,hZ s a nm t = some (n,some v) ∧ v.out = w:=by
 obtain ⟨m,b,h1,h2,h3,h4,h5,rfl⟩:=pH h
 dsimp only [cond] at h4 h5 ⊢
 obtain ⟨v,hv,ho⟩:=mj h4
 rw [List.append_assoc] at h5 ⊢
 refine ⟨v,?_,ho⟩
 rw [qd (oZ h3 h5) h1 h2,List.singleton_append,nS]
 dsimp only
 rw [hv]
 rfl
theorem zG {v : V} (h : hZ s a nm t = some (n,some v)) : bW s a n nm true v.out = (t,true):=by
 unfold hZ at h
 split at h
 ·rename_i n' r ho
  obtain ⟨body,hj,hg,g0,g1,g2,g3⟩:=j7 ho
  split at h
  ·rename_i m hf
   split at h
   ·rename_i hs
    split at h
    ·split at h
     ·simp at h
     ·cases h
    ·rename_i q hq
     cases hc : cr s m.2.2 q with
     | none=>rw [hc] at h;cases h
     | some v' =>
      rw [hc] at h
      simp only [Option.map_some,Option.some.injEq,Prod.mk.injEq] at h
      obtain ⟨rfl,rfl⟩:=h
      obtain ⟨hl,rfl⟩:=gh.1 hj
      obtain ⟨_,_,rfl⟩:=cn hg
      have hq2:=dA hq
      rw [if_neg (by simp)] at hq2
      subst hq2
      have e : aX n' ++ (0 :: q) = aX n' ++ [0] ++ q:=by simp
      rw [e] at hl ⊢
      exact z4 (out:=true) hf hs ⟨g0,g1⟩ (v3 hc) hl
    ·cases h
   ·cases h
  ·cases h
 ·cases h
theorem xz (h : hZ s a nm t = some (n,none)) : (0 ≤ n ∧ n ≤ 999) ∧ t = frame (aX n ++ [1]):=by
 unfold hZ at h
 split at h
 ·rename_i n' r ho
  obtain ⟨body,hj,hg,g0,g1,g2,g3⟩:=j7 ho
  split at h
  ·rename_i m hf
   split at h
   ·rename_i hs
    split at h
    ·rename_i q hq
     split at h
     ·rename_i hq0
      simp only [Option.some.injEq,Prod.mk.injEq,and_true] at h
      subst h
      obtain ⟨hl,rfl⟩:=gh.1 hj
      obtain ⟨_,_,rfl⟩:=cn hg
      have hq2:=dA hq
      rw [if_pos rfl,hq0] at hq2
      subst hq2
      exact ⟨⟨g0,g1⟩,F⟩
     ·cases h
    ·rename_i q hq
     cases hc : cr s m.2.2 q with
     | none=>rw [hc] at h;cases h
     | some v'=>rw [hc] at h;simp at h
    ·cases h
   ·cases h
  ·cases h
 ·cases h
end Go.E
