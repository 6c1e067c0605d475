/- Contracts and plain laws that the statement rests on, part 5. Conditions: as each says. -/
import Derived.Test.YtglhncibfmhblaaGreatDoorZ4
set_option linter.unusedVariables false
set_option linter.unusedSimpArgs false
namespace Go.E
set_option maxRecDepth 20000
set_option maxHeartbeats 2000000
open Go.Proofs
variable {G : Gh}
theorem yi {ts : List Ty} {k s : ael} {u : V} {t : ael} {N : Nat} (hN : 12 ≤ N) (hl : s.length ≤ 400) (h : rd ts N k s = some (u,t)) : co ts k s = if t = [] ∧ V.deep u ≤ 12 then some u else none:=by
 unfold co
 rw [if_pos hl]
 cases h12 : rd ts 12 k s with
 | none =>
  dsimp only
  rw [if_neg]
  rintro ⟨_,hd⟩
  have:=zC _ 12 k s _ h hd
  rw [h12] at this;cases this
 | some x =>
  have h1:=zB (m:=N) hN h12
  rw [h] at h1
  have hd:=j5 _ _ _ _ h12
  obtain rfl:=Option.some.inj h1
  dsimp only at hd ⊢
  cases t with
  | nil=>dsimp only;rw [if_pos ⟨rfl,hd⟩]
  | cons c t=>dsimp only;rw [if_neg (fun h=>by cases h.1)]
theorem yj {ts : List Ty} {k s : ael} {N : Nat} (hN : 12 ≤ N) (hl : s.length ≤ 400) (h : rd ts N k s = none) : co ts k s = none:=by
 unfold co
 rw [if_pos hl]
 cases h12 : rd ts 12 k s with
 | none=>rfl
 | some x=>rw [zB (m:=N) hN h12] at h;cases h
theorem lE {b : Nat} {qs : List c8} {k s : ael} (hS : ScI G b qs) (hw : SchW (al qs)) (hk : ax (al qs) k = true) (hs : s.length ≤ 10000000) :
  bJ aek 60 [Pt b 0,Ag (cT k),S s] G (fun v G'=>(co (al qs) k s = none ∧ v = Tu [zP,Bo false]) ∨ ∃ u c,co (al qs) k s = some u ∧ v = Tu [Ag (be c),Bo true] ∧ V.rep G' u c):=by
 unfold cT
 by_cases hl : s.length ≤ 400
 case neg =>
  have hno : co (al qs) k s = none:=by unfold co;rw [if_neg hl]
  refine jB [(0,_),(1,_),(2,_)] Tryz.func60 Tryz.ntmps60 fun B hok hB hW=>?_
  repeat' (first | refine jR ?_ | (refine jo ?_;first | refine jO fun _=>?_ | refine jL fun _=>?_ | refine jV (ay F F) ?_ | refine jC F F F ?_) | refine ac F (aA oM) ?_)
  all_goals refine jZ (vs:=[_,_]) F ⟨aJ F F F F,F,trivial⟩ F ⟨Gh.le.refl _,F,?_⟩
  all_goals exact .inl ⟨hno,F⟩
 obtain ⟨N,hN⟩ : ∃ N,s.length + 12 ≤ N:=⟨_,Nat.le_refl _⟩
 have hN2 : 12 ≤ N:=oM
 have hV:=sI (sc:=b) hw N
 have cy_vl : ∀ {r : Nat},fp aek 107 [Pt r 0,Ag (cT k)] G [eQ r b s false] (je (rd (al qs) N k) r b s false):=fun {r}=>hV G r k s false hS hk oM oM
 refine jB [(0,_),(1,_),(2,_)] Tryz.func60 Tryz.ntmps60 fun B hok hB hW=>?_
 repeat' (first | refine jR ?_ | (refine jo ?_;first | refine jO fun _=>?_ | refine jL fun _=>?_ | refine jV (ay F F) ?_ | refine bO F ?_) | refine ad F (aH oM) ?_)
 refine jo ?_
 rename_i r
 refine eR F F F (cy_vl (r:=r)) F ?_
 rintro _ G1 _ hle ⟨u1,c1,t1,b1,rfl,hrep,rfl,hP⟩
 dsimp only [zA,fA]
 obtain ⟨hPl,hP0,hP1⟩:=hP
 cases b1 with
 | true =>
  have hno : co (al qs) k s = none:=yj hN2 hl (by rcases (hP1 rfl).1 with h | h;cases h;exact h)
  repeat' (first | refine jR ?_ | (refine jo ?_;first | refine jL fun _=>?_ | refine jV (ay F F) ?_ | refine jC F F F ?_ | refine aC F ?_ | refine aP F ?_) | refine aF F F F ?_ | refine ac F F ?_)
  all_goals refine jZ (vs:=[_,_]) F ⟨aJ F F F F,F,trivial⟩ F ⟨hle,F,?_⟩
  all_goals exact .inl ⟨hno,F⟩
 | false =>
  have hrd:=(hP0 rfl).2
  have hof:=yi hN2 hl hrd
  have htt:=gB _ _ _ _ hrd
  dsimp only at htt
  by_cases ht : t1 = []
  case neg =>
   have hno : co (al qs) k s = none:=by rw [hof,if_neg (fun h=>ht h.1)]
   repeat' (first | refine jR ?_ | (refine jo ?_;first | refine jL fun _=>?_ | refine jV (ay F F) ?_ | refine jC F F F ?_ | refine aC F ?_ | refine aP F ?_ | refine aE F ?_) | refine aF F F (aA ‹_›) ?_ | refine aw F F F ?_ | refine ac F F ?_)
   all_goals refine jZ (vs:=[_,_]) F ⟨aJ F F F F,F,trivial⟩ F ⟨hle,F,?_⟩
   all_goals exact .inl ⟨hno,F⟩
  have hnn : ¬ t1 ≠ []:=fun h=>h ht
  have cx_dp:=xS (G:=G1) u1.tot (Nat.le_refl _) oM hrep
  have hdt:=ph u1
  by_cases hd : V.deep u1 ≤ 12
  ·have hyes : co (al qs) k s = some u1:=by rw [hof,if_pos ⟨ht,hd⟩]
   repeat' (first | refine jR ?_ | (refine jo ?_;first | refine jL fun _=>?_ | refine jC F F F ?_ | refine aC F ?_ | refine bO F ?_ | refine aE F ?_ | refine ae F F F cx_dp F ?_) | (refine aw F F (by first | rfl | (refine decide_eq_false ?_;(assumption))) ?_) | refine ad F (aH oM) ?_)
   all_goals refine jZ (vs:=[_,_]) F ⟨aJ F F F F,F,trivial⟩ F ⟨hle,F,?_⟩
   all_goals exact .inr ⟨u1,c1,hyes,F,hrep⟩
  ·have hno : co (al qs) k s = none:=by rw [hof,if_neg (fun h=>hd h.2)]
   repeat' (first | refine jR ?_ | (refine jo ?_;first | refine jL fun _=>?_ | refine jV (ay F F) ?_ | refine jC F F F ?_ | refine aC F ?_ | refine bO F ?_ | refine aE F ?_ | refine ae F F F cx_dp F ?_) | (refine aw F F (by first | rfl | (refine decide_eq_false ?_;(assumption))) ?_) | refine ac F (aA oM) ?_)
   all_goals refine jZ (vs:=[_,_]) F ⟨aJ F F F F,F,trivial⟩ F ⟨hle,F,?_⟩
   all_goals exact .inl ⟨hno,F⟩
theorem lm {s k : ael} (h : dE s k = true) : ∃ ts,a9 s = some ts ∧ ax ts k = true ∧ SchW ts:=by
 unfold dE at h
 cases h1 : a9 s with
 | none=>rw [h1] at h;cases h
 | some ts=>rw [h1] at h;exact ⟨ts,F,h,dV h1⟩
def cY (s k v : ael) : Option V:=match a9 s with
 | some ts=>if ax ts k = true then co ts k v else none
 | none=>none
theorem kL {s k w : ael} (h : s.length ≤ 1048576 ∧ k.length ≤ 1048576 ∧ w.length ≤ 1048576) (hno : cY s k w = none) : bJ aek 25 [S s,S k,S w] G (fun v _=>∃ p a b c,v = Tu [p,Ag [S a,S b,S c],zP,Bo false]):=by
 by_cases hk : dE s k = true
 case neg =>
  have cx_bo1 : ∀ G,bJ aek 45 [S s,S k] G (fun v _=>∃ p a b c,v = Tu [p,Ag [S a,S b,S c],Bo false]):=fun G=>by
   refine (uv (G:=G) (s:=s) (k:=k) oM oM).mono ?_
   rintro v G' L' ⟨h1,h2,⟨_,p,a,b,c,rfl⟩ | ⟨b,qs,rfl,h4,h5,_⟩⟩
   ·exact ⟨h1,h2,p,a,b,c,F⟩
   ·exact absurd (by unfold dE;rw [h4];exact h5) hk
  refine jB [(0,_),(1,_),(2,_)] Tryz.func25 Tryz.ntmps25 fun B hok hB hW=>?_
  repeat' (first | refine jR ?_ | (refine jo ?_;first | refine jL fun _=>?_ | refine jC F F F ?_ | refine jV (ay F F) ?_ | (refine ar F F F (cx_bo1 _) F ?_;rintro _ G hle ⟨p1,a1,b1,c1,rfl⟩;skip)) | refine ac F F ?_)
  all_goals refine jZ (vs:=[_,_,_,_]) F ⟨F,aJ F F F F,aJ F F F F,F,trivial⟩ F ⟨hle,F,?_⟩
  all_goals exact ⟨_,_,_,_,F⟩
 obtain ⟨ts,hs,hki,hw⟩:=lm hk
 have hvo : co ts k w = none:=by unfold cY at hno;rw [hs] at hno;dsimp only at hno;rwa [if_pos hki] at hno
 have cx_boa : ∀ G,bJ aek 45 [S s,S k] G (fun v G'=>∃ b qs,v = Tu [Pt b 0,Ag [S (sg k),S (bs k),S (nm k)],Bo true] ∧ al qs = ts ∧ ScI G' b qs):=fun G=>by
  refine (uv (G:=G) (s:=s) (k:=k) oM oM).mono ?_
  rintro v G' L' ⟨h1,h2,⟨h4,_⟩ | ⟨b,qs,rfl,h4,h5,h6⟩⟩
  ·rw [h4] at hk;cases hk
  ·rw [hs] at h4;exact ⟨h1,h2,b,qs,F,(Option.some.inj h4).symm,h6⟩
 have cx_ri0 : ∀ G b qs,al qs = ts → ScI G b qs → bJ aek 60 [Pt b 0,Ag [S (sg k),S (bs k),S (nm k)],S w] G (fun v _=>v = Tu [zP,Bo false]):=fun G b qs hq hS=>by
  subst hq
  refine (lE (G:=G) (b:=b) (s:=w) hS hw hki oM).mono ?_
  rintro v G' L' ⟨h1,h2,⟨_,rfl⟩ | ⟨u,c,h4,_⟩⟩
  ·exact ⟨h1,h2,F⟩
  ·rw [hvo] at h4;cases h4
 refine jB [(0,_),(1,_),(2,_)] Tryz.func25 Tryz.ntmps25 fun B hok hB hW=>?_
 repeat' (first | refine jR ?_ | (refine jo ?_;first | refine jL fun _=>?_ | refine jC F F F ?_ | refine bO F ?_ | (refine ar F F F (cx_boa _) F ?_;rintro _ G hle ⟨ba,qa,rfl,hT1,hR1⟩;skip) | (refine ar F F F ((cx_ri0 _ _ _) (by (repeat (assumption));done) (by (repeat (assumption));done)) rfl ?_;rintro _ G hle rfl;skip)) | refine ad F F ?_ | (refine an (em (id:=5) (tt:=7) F am ?_);refine jW 5 [0,3,4] (aa 8 25) ?_;(refine jG (aa 8 27) 1 F (bS F F F F) ?_);(refine jG (aa 8 31) 2 F (bS F F F F) ?_);refine jA 5 F ?_;(refine jC F F F ?_);refine jK (aa 8 63) ?_;refine jA 6 F ?_;(refine jC F F F ?_);refine jK (aa 8 127) ?_;refine jW 0 [7] (aa 8 255) ?_;refine jQ ?_))
 all_goals refine jZ (vs:=[_,_,_,_]) F ⟨F,aJ F F F F,aJ F F F F,F,trivial⟩ F ⟨(Gh.le.trans aS hle),F,?_⟩
 all_goals exact ⟨_,_,_,_,F⟩
theorem kK {s k w : ael} {u : V} {ts : List Ty} (h : s.length ≤ 1048576 ∧ k.length ≤ 1048576 ∧ w.length ≤ 1048576) (hs : a9 s = some ts) (hki : ax ts k = true) (hvo : co ts k w = some u) :
  bJ aek 25 [S s,S k,S w] G (fun v G'=>∃ b qs cv,v = Tu [Pt b 0,Ag [S (sg k),S (bs k),S (nm k)],Ag (be cv),Bo true] ∧ al qs = ts ∧ ScI G' b qs ∧ V.rep G' u cv):=by
 have hw:=dV hs
 have hk : dE s k = true:=by unfold dE;rw [hs];exact hki
 have cx_boa : ∀ G,bJ aek 45 [S s,S k] G (fun v G'=>∃ b qs,v = Tu [Pt b 0,Ag [S (sg k),S (bs k),S (nm k)],Bo true] ∧ al qs = ts ∧ ScI G' b qs):=fun G=>by
  refine (uv (G:=G) (s:=s) (k:=k) oM oM).mono ?_
  rintro v G' L' ⟨h1,h2,⟨h4,_⟩ | ⟨b,qs,rfl,h4,h5,h6⟩⟩
  ·rw [h4] at hk;cases hk
  ·rw [hs] at h4;exact ⟨h1,h2,b,qs,F,(Option.some.inj h4).symm,h6⟩
 have cx_ri1 : ∀ G b qs,al qs = ts → ScI G b qs → bJ aek 60 [Pt b 0,Ag [S (sg k),S (bs k),S (nm k)],S w] G (fun v G'=>∃ cv,v = Tu [Ag (be cv),Bo true] ∧ V.rep G' u cv):=fun G b qs hq hS=>by
  subst hq
  refine (lE (G:=G) (b:=b) (s:=w) hS hw hki oM).mono ?_
  rintro v G' L' ⟨h1,h2,⟨h4,_⟩ | ⟨u',c,h4,rfl,h5⟩⟩
  ·rw [hvo] at h4;cases h4
  ·rw [hvo] at h4;obtain rfl:=Option.some.inj h4;exact ⟨h1,h2,c,F,h5⟩
 refine jB [(0,_),(1,_),(2,_)] Tryz.func25 Tryz.ntmps25 fun B hok hB hW=>?_
 repeat' (first | refine jR ?_ | (refine jo ?_;first | refine jL fun _=>?_ | refine jC F F F ?_ | refine bO F ?_ | (refine ar F F F (cx_boa _) F ?_;rintro _ G hle ⟨ba,qa,rfl,hT1,hR1⟩;skip) | (refine ar F F F ((cx_ri1 _ _ _) (by (repeat (assumption));done) (by (repeat (assumption));done)) rfl ?_;rintro _ G hle ⟨cv,rfl,hrv⟩;skip)) | refine ad F F ?_)
 rename_i x7 x8 Ga hla x11 x13
 dsimp only [be,VC.sl]
 (refine an (ao (id:=5) [.blk x13 (.cells (List.toArray [U8 (cv.what : Nat),S cv.text,I cv.tag,.slice cv.a cv.n cv.c]) di (0,0)),.blk x11 (.cells (List.toArray [S (sg k),S (bs k),S (nm k)]) fJ (0,0))] (by intro y hy;simp only [List.mem_cons,List.not_mem_nil,or_false] at hy ⊢;rcases hy with hy | hy <;> simp [hy]) am ?_);refine jW 5 [0,3,4] (aa 8 25) ?_;(refine jG (aa 8 27) 1 F (bS F F F F) ?_);(refine jG (aa 8 31) 2 F (bS F F F F) ?_);refine jA 5 F ?_;(refine jC F F F ?_);refine jK (aa 8 63) ?_;refine jA 6 F ?_;(refine jC F F F ?_);refine jK (aa 8 127) ?_;refine jW 0 [7] (aa 8 255) ?_;refine jQ ?_)
 all_goals repeat' (refine jR ?_)
 all_goals refine jZ (vs:=[_,_,_,_]) F ⟨F,aJ F F F F,aJ F F F F,F,trivial⟩ F ⟨(Gh.le.trans aS hle),F,?_⟩
 all_goals exact ⟨ba,qa,cv,F,hT1,hR1.mono hle,hrv⟩
def dH (b : Nat) : List Value:=[Pt b 0]
instance : RowF dH 1:=⟨fun _=>rfl⟩
def cL (n : Int) : List Value:=[I n]
instance : RowF cL 1:=⟨fun _=>rfl⟩
abbrev adZ : TypeId:=9
abbrev od : TypeId:=159
inductive RepR (G : Gh) (ts : List Ty) : V → ael → Nat → Prop
 | leaf (w : Nat) (x k tx : ael) (b : Nat) : bU G b 0 [S k,S tx,aK,aK] → ((w = 110 ∧ k = [110] ∧ tx = x ∧ ∀ c ∈ x,bn c = true) ∨ (w = 116 ∧ k = [116] ∧ tx = 39 :: (x ++ [39])) ∨ (w = 102 ∧ k = [102] ∧ tx = x ∧ (x = [121,101,115] ∨ x = [110,111]))) → RepR G ts (.nd w x 0 []) k b
 | lst (k : ael) (b : Nat) (ks : List V) (bs : List Nat) (a : Option Addr) (c : Nat) : bU G b 0 [S (91 :: k),S [],aK,.slice a ks.length c] → aN G (.slice a ks.length c) 1 ks.length (ag dH bs) → bs.length = ks.length → (∀ i,i < ks.length → RepR G ts (ab ks i) k (ab bs i)) → RepR G ts (.nd 91 [] 0 ks) (91 :: k) b
 | non (k : ael) (b : Nat) : bU G b 0 [S (63 :: k),S [],aK,aK] → RepR G ts (.nd 63 [] 0 []) (63 :: k) b
 | opt (k : ael) (b kb b' cc : Nat) (v : V) : 1 ≤ cc → bU G b 0 [S (63 :: k),S [],aK,.slice (some ⟨kb,0,none⟩) 1 cc] → bU G kb 0 [Pt b' 0] → RepR G ts v k b' → RepR G ts (.nd 63 [] 0 [v]) (63 :: k) b
 | recd (k : ael) (b : Nat) (t : Ty) (fs : List (Fld × V)) (bs : List Nat) (a a2 : Option Addr) (c c2 : Nat) : aZ ts k = some t ∧ t.sort = 82 → bU G b 0 [S k,S [82],.slice a fs.length c,.slice a2 fs.length c2] → aN G (.slice a fs.length c) 1 fs.length (ag cL (fs.map fun p=>p.1.tag)) → aN G (.slice a2 fs.length c2) 1 fs.length (ag dH bs) → bs.length = fs.length → (∀ i,i < fs.length → (ab fs i).1 ∈ t.fields) → (∀ i,i < fs.length → RepR G ts (ab fs i).2 (ab fs i).1.kind (ab bs i)) → RepR G ts (.nd 82 [] 0 (fs.map fun p=>.nd 61 [] p.1.tag [p.2])) k b
 | enm (k : ael) (b tb : Nat) (t : Ty) (d : Fld) {tc : Nat} : aZ ts k = some t ∧ t.sort = 69 → d ∈ t.fields → bU G b 0 [S k,S [69],.slice (some ⟨tb,0,none⟩) 1 (tc + 1),aK] → bU G tb 0 [I d.tag] → RepR G ts (.nd 69 [] d.tag []) k b
 | uni (k : ael) (b tb kb b' cc : Nat) (t : Ty) (d : Fld) (v : V) {tc : Nat} : 1 ≤ cc → aZ ts k = some t ∧ t.sort = 85 → d ∈ t.fields → bU G b 0 [S k,S [85],.slice (some ⟨tb,0,none⟩) 1 (tc + 1),.slice (some ⟨kb,0,none⟩) 1 cc] → bU G tb 0 [I d.tag] → bU G kb 0 [Pt b' 0] → RepR G ts v d.kind b' → RepR G ts (.nd 85 [] d.tag [v]) k b
theorem RepR.mono {G G' : Gh} {ts : List Ty} (hl : Gh.le G G') {v : V} {k : ael} {b : Nat} (h : RepR G ts v k b) : RepR G' ts v k b:=by
 induction h with
 | leaf w x k tx b h1 h2=>exact .leaf w x k tx b (h1.mono hl) h2
 | lst k b ks bs a c h1 h2 h3 _ ih=>exact .lst k b ks bs a c (h1.mono hl) (h2.mono hl) h3 ih
 | non k b h1=>exact .non k b (h1.mono hl)
 | opt k b kb b' cc v h0 h1 h2 _ ih=>exact .opt k b kb b' cc v h0 (h1.mono hl) (h2.mono hl) ih
 | recd k b t fs bs a a2 c c2 h0 h1 h2 h3 h4 h5 _ ih=>exact .recd k b t fs bs a a2 c c2 h0 (h1.mono hl) (h2.mono hl) (h3.mono hl) h4 h5 ih
 | enm k b tb t d h0 h1 h2 h3=>exact .enm k b tb t d h0 h1 (h2.mono hl) (h3.mono hl)
 | uni k b tb kb b' cc t d v hcc h0 h1 h2 h3 h4 _ ih=>exact .uni k b tb kb b' cc t d v hcc h0 h1 (h2.mono hl) (h3.mono hl) (h4.mono hl) ih
def fc (ts : List Ty) (f : Option (V × ael)) (k : ael) (v : Value) (G' : Gh) : Prop :=
 ∃ q rest ok,v = Tu [.pointer q,S rest,Bo ok] ∧ (ok = true → ∃ w b,q = some ⟨b,0,none⟩ ∧ f = some (w,rest) ∧ RepR G' ts w k b) ∧ (ok = false → f = none)
theorem ur {s : ael} (hs : s.length ≤ 100000000) : a7 aek 139 [S s] G (· = I ((s.takeWhile bn).length : Nat)):=by
 refine jE [(0,_)] Tryz.func139 Tryz.ntmps139 fun B hB=>?_
 repeat' (refine jR ?_)
 refine aW (ι:=Nat) (fun i=>i ≤ s.length ∧ i + ((s.drop i).takeWhile bn).length = (s.takeWhile bn).length) (fun i=>[(0,S s),(3,I i)]) (fun _=>G) (fun i=>[]) (fun i=>s.length - i) 0 ?_ tU F bc (fun i Hi=>?_)
 ·exact ⟨Nat.zero_le _,by simp⟩
 obtain ⟨hi0,hi1⟩:=Hi
 by_cases hi : i < s.length
 ·obtain ⟨c,hc1,hc2⟩:=lC hi
  have hc3 : bt s ((i : Int).toNat) = c.toNat:=hc2
  rw [hc1,List.takeWhile_cons] at hi1
  by_cases hd : bn c = true
  ·rw [if_pos hd] at hi1
   have hd2:=hd
   unfold bn at hd2
   rw [decide_eq_true_eq] at hd2
   simp only [List.length_cons] at hi1
   repeat' (first | refine jM ?_ | (refine jo ?_;refine aP F ?_) | refine aF F F (aA oM) ?_ | refine ac F (aA oM) ?_)
   exact br (i + 1) ⟨oM,oM⟩ oM tU F bc
  ·rw [if_neg hd] at hi1
   have hd2 : ¬ (48 ≤ c.toNat ∧ c.toNat ≤ 57):=fun h=>hd (by unfold bn;rw [decide_eq_true_eq];exact h)
   simp only [List.length_nil] at hi1
   repeat' (first | refine jM ?_ | (refine jo ?_;first | refine aP F ?_ | refine aE F ?_) | refine aF F F (aA oM) ?_ | refine ff F F (fun _=>?_) (fun _=>?_) | (refine ad F (by first | rfl | (refine decide_eq_false ?_;(omega))) ?_))
   all_goals refine jY (vs:=[_]) ?_
   all_goals (rw [aM,← hi1];rfl)
 ·have : i = s.length:=oM
  rw [this,List.drop_length] at hi1
  simp only [List.takeWhile_nil,List.length_nil] at hi1
  repeat' (first | refine jR ?_ | (refine jo ?_;refine aE F ?_) | (refine aw F F (by first | rfl | (refine decide_eq_false ?_;(omega))) ?_) | refine ad F F ?_)
  all_goals refine jY (vs:=[_]) ?_
  all_goals (rw [aM,← hi1,this];rfl)
theorem pD (q : UInt8 → Bool) (s : ael) : s.take ((((s.takeWhile q).length : Nat) : Int)).toNat = s.takeWhile q ∧ s.drop ((((s.takeWhile q).length : Nat) : Int)).toNat = s.dropWhile q:=by
 have h:=List.takeWhile_append_dropWhile (p:=q) (l:=s)
 have e : ((((s.takeWhile q).length : Nat) : Int)).toNat = (s.takeWhile q).length:=oM
 rw [e]
 constructor
 ·have h2 : (s.takeWhile q ++ s.dropWhile q).take (s.takeWhile q).length = s.takeWhile q:=List.take_left
  rwa [h] at h2
 ·have h2 : (s.takeWhile q ++ s.dropWhile q).drop (s.takeWhile q).length = s.dropWhile q:=List.drop_left
  rwa [h] at h2
theorem yZ {u : Value} {ts : List Ty} {s : ael} (hu : u.oneCell' = true) (hs : s.length ≤ 100000000) : bJ aek 98 [Ag [u],S s,S [110]] G (fc ts ((cP 999999 s).map fun x=>(.nd 110 (bi x.1) 0 [],x.2)) [110]):=by
 have cx_dg:=ur (G:=G) hs
 obtain ⟨e1,e2⟩:=pD bn s
 have hwl:=eJ bn s
 have hlen : (s.take ((((s.takeWhile bn).length : Nat) : Int)).toNat).length ≤ 100000000:=by rw [e1];omega
 refine jB [(0,_),(1,_),(2,_)] Tryz.func98 Tryz.ntmps98 fun B hok hB hW=>?_
 repeat' (first | refine jM ?_ | (refine jo ?_;first | refine jO fun _=>?_ | refine ae F F F cx_dg F ?_ | (refine eE F F F (iu oM) F ?_;rintro _ ⟨n,rfl,hnum⟩)) | refine ac F F ?_ | (refine an (ao (id:=6) _ (fun _ h=>h) am ?_);refine jW 5 [0,1,2,3,6,7,8,9] (aa 13 975) ?_;(refine jG (aa 13 991) 4 F (ay F F) ?_);refine jA 5 F ?_;(refine jO fun _=>?_);refine jS (aa 13 1023) ?_;refine jT 0 [10,11,12] (aa 13 8191) ?_;refine jQ ?_))
 rename_i x3 x4
 refine Nx.sealC (b:=x4) fun G2 hG2 hsy=>?_
 refine jZ (vs:=[_,_,_]) F ⟨F,F,F,trivial⟩ F ⟨hG2,F,?_⟩
 rw [bI]
 rw [e1] at hnum hsy
 rw [e1,e2]
 refine ⟨_,_,_,F,fun h=>?_,fun h=>?_⟩
 ·cases hm : aQ (s.takeWhile bn) 999999 with
  | none=>rw [hm] at h;cases h
  | some m =>
   have hmd:=(en hm).2.1
   refine ⟨.nd 110 (bi m) 0 [],x4,F,by unfold cP;rw [hm];rfl,.leaf 110 _ _ _ _ hsy (.inl ⟨rfl,rfl,hmd,fun c hc=>List.all_eq_true.1 (List.all_takeWhile (l:=s) (p:=bn)) c (by rw [hmd];exact hc)⟩)⟩
 ·cases hm : aQ (s.takeWhile bn) 999999 with
  | none=>unfold cP;rw [hm];rfl
  | some m=>rw [hm] at h;cases h
theorem pY {c : UInt8} {r : ael} {i : Nat} (hc : i ≤ r.length) (hn : ∀ j,j < i → bt r j ≠ 39) (hi : i = r.length ∨ bt r i = 39 ∧ i < r.length) :
  (dS (c :: r) = if ec ((c :: r).take (min (i + 2) (r.length + 1))) = true then some (.nd 116 (r.take i) 0 [],r.drop (i + 1)) else none) ∧ (ec ((c :: r).take (min (i + 2) (r.length + 1))) = true → (c :: r).take (min (i + 2) (r.length + 1)) = 39 :: (r.take i ++ [39])):=by
 unfold dS
 dsimp only
 rcases hi with hi | ⟨h39,hlt⟩
 ·have hcut : aG 39 r = (r,[],false):=rb fun j hj=>hn j oM
  have htk : (c :: r).take (min (i + 2) (r.length + 1)) = c :: r:=List.take_of_length_le (by simp;omega)
  have hno : ec (c :: r) = false:=by
   unfold ec
   refine decide_eq_false fun h=>?_
   obtain ⟨⟨h2,_⟩,_,h3,_⟩:=h
   simp only [List.length_cons] at h2
   rw [show (c :: r).length - 1 = (r.length - 1) + 1 by simp;omega,eS] at h3
   exact hn (r.length - 1) oM h3
  rw [hcut,htk,hno]
  exact ⟨by simp,fun h=>(by cases h)⟩
 ·have hcut:=n4 (k:=39) hlt hn h39
  have htk : (c :: r).take (min (i + 2) (r.length + 1)) = c :: (r.take i ++ [39]):=by
   rw [show min (i + 2) (r.length + 1) = (i + 1) + 1 by omega,List.take_succ_cons,dO hlt]
   congr 1;congr 1;congr 1
   rw [aI hlt]
   have : bt r i = (r[i]).toNat:=by simp [bt,List.getD,List.getElem?_eq_getElem hlt]
   exact UInt8.toNat_inj.1 (by rw [← this,h39];rfl)
  rw [hcut,htk]
  dsimp only
  by_cases h : c.toNat = 39
  ·rw [if_pos h,show c = 39 from UInt8.toNat_inj.1 h]
   exact ⟨F,fun _=>rfl⟩
  ·have hno : ¬ ec (c :: (r.take i ++ [39])) = true:=fun ht=>by
    unfold ec at ht
    rw [decide_eq_true_eq] at ht
    exact h (by have:=ht.2.1;rwa [bH] at this)
   rw [if_neg h,if_neg hno]
   exact ⟨F,fun h2=>absurd h2 hno⟩
theorem yY {u : Value} {ts : List Ty} {s : ael} (hu : u.oneCell' = true) (hs : s.length ≤ 100000000) (hne : s ≠ []) : bJ aek 98 [Ag [u],S s,S [116]] G (fc ts (dS s) [116]):=by
 match s,hne with
 | c :: r,_ =>
 simp only [List.length_cons] at hs
 have hcl : (c :: r).length = r.length + 1:=rfl
 refine jB [(0,_),(1,_),(2,_)] Tryz.func98 Tryz.ntmps98 fun B hok hB hW=>?_
 repeat' (first | refine jR ?_ | (refine jo ?_;refine jO fun _=>?_) | refine ac F F ?_ | refine ad F F ?_)
 rename_i x3
 refine aW (ι:=Nat) (fun i=>i ≤ r.length ∧ ∀ j,j < i → bt r j ≠ 39) (fun i=>[(1,S (c :: r)),(2,S [116]),(9,I (i + 1 : Nat))]) (fun _=>G) (fun i=>[]) (fun i=>r.length - i) 0 ?_ tU F (by repeat (exact List.nil_sublist _)) (fun i Hi=>?_)
 ·exact ⟨Nat.zero_le _,fun j hj=>absurd hj oM⟩
 obtain ⟨hi0,hi1⟩:=Hi
 have hb : bt (c :: r) ((i + 1 : Nat) : Int).toNat = bt r i:=eS c r i
 by_cases hi : i < r.length
 ·by_cases h39 : bt r i = 39
  ·have h39' : bt (c :: r) ((i + 1 : Nat) : Int).toNat = 39:=by rw [hb];exact h39
   have hq:=pY (c:=c) hi0 hi1 (.inr ⟨h39,hi⟩)
   have e3 : (min (((i + 1 : Nat) : Int) + 1) ((((c :: r).length : Nat) : Int))).toNat = min (i + 2) (r.length + 1):=oM
   have cx_tx:=ij (G:=G) (s:=(c :: r).take (min (((i + 1 : Nat) : Int) + 1) ((((c :: r).length : Nat) : Int))).toNat) (by rw [List.length_take];omega)
   repeat' (first | refine jM ?_ | (refine jo ?_;first | refine aP F ?_ | refine jV (wv F F) ?_) | refine aF F F (aA oM) ?_ | refine ad F (aH oM) ?_ | (refine an (ao (id:=12) _ (fun _ h=>h) am ?_);refine jW 6 [0,1,2,3,6,7,8,9,10,11] (aa 16 4047) ?_;(refine jG (aa 16 4063) 4 F (ay F F) ?_);refine b8 [5,12] kR dC ⟨?_,?_,trivial⟩;(focus (refine aO F F ?_;(refine jO fun _=>?_);refine jS (aa 16 4095) ?_;refine jA 12 F ?_;((refine ae F F F (ij ?_) F ?_;(focus ((simp;omega);done))));refine jS (aa 16 8191) ?_;refine jW 0 [13,14,15] (aa 16 65535) ?_;refine jQ ?_));rotate_left 1;(focus (refine aO F F ?_;((refine ae F F F (ij ?_) F ?_;(focus ((simp;omega);done))));refine jS (aa 16 8159) ?_;refine jA 5 F ?_;(refine jO fun _=>?_);refine jS (aa 16 8191) ?_;refine jW 0 [13,14,15] (aa 16 65535) ?_;refine jQ ?_));rotate_left 1))
   all_goals
    rename_i x4
    refine Nx.sealC (b:=x4) fun G2 hG2 hsy=>?_
    refine jZ (vs:=[_,_,_]) F ⟨F,F,F,trivial⟩ F ⟨hG2,F,?_⟩
    rw [bI]
    rw [e3] at hsy
    rw [e3]
    refine ⟨_,_,_,F,fun h=>?_,fun h=>?_⟩
    ·have htk:=hq.2 h
     rw [htk] at hsy
     have hdr : (c :: r).drop (min (i + 2) (r.length + 1)) = r.drop (i + 1):=by
      rcases Nat.lt_or_ge i r.length with h2 | h2
      ·rw [show min (i + 2) (r.length + 1) = (i + 1) + 1 by omega];rfl
      ·rw [List.drop_eq_nil_of_le (by simp;omega),List.drop_eq_nil_of_le oM]
     exact ⟨_,x4,F,by rw [hq.1,if_pos h,hdr],.leaf 116 _ _ _ _ hsy (.inr (.inl ⟨F,F,F⟩))⟩
    ·rw [hq.1,if_neg (by rw [h];decide)]
  ·have h39' : ¬ bt (c :: r) ((i + 1 : Nat) : Int).toNat = 39:=by rw [hb];exact h39
   repeat' (first | refine jM ?_ | (refine jo ?_;refine aP F ?_) | refine aF F F (aA oM) ?_ | refine ac F (aA oM) ?_)
   refine Nx.re (d:=9) (v':=I (i + 1 + 1 : Nat)) F (congrArg (Value.int .i64) oM) ?_
   exact br (i + 1) ⟨oM,fun j hj=>(by
    rcases Nat.lt_or_ge j i with h | h
    ·exact hi1 j h
    ·have : j = i:=oM
     subst this;exact h39)⟩ oM tU F bc
 ·have hq:=pY (c:=c) hi0 hi1 (.inl oM)
  have e3 : (min (((i + 1 : Nat) : Int) + 1) ((((c :: r).length : Nat) : Int))).toNat = min (i + 2) (r.length + 1):=oM
  have cx_tx:=ij (G:=G) (s:=(c :: r).take (min (((i + 1 : Nat) : Int) + 1) ((((c :: r).length : Nat) : Int))).toNat) (by rw [List.length_take];omega)
  repeat' (first | refine jM ?_ | (refine jo ?_;first | refine aE F ?_ | refine jV (wv F F) ?_) | refine aw F F (aH oM) ?_ | refine ad F F ?_ | (refine an (ao (id:=12) _ (fun _ h=>h) am ?_);refine jW 6 [0,1,2,3,6,7,8,9,10,11] (aa 16 4047) ?_;(refine jG (aa 16 4063) 4 F (ay F F) ?_);refine b8 [5,12] kR dC ⟨?_,?_,trivial⟩;(focus (refine aO F F ?_;(refine jO fun _=>?_);refine jS (aa 16 4095) ?_;refine jA 12 F ?_;((refine ae F F F (ij ?_) F ?_;(focus ((simp;omega);done))));refine jS (aa 16 8191) ?_;refine jW 0 [13,14,15] (aa 16 65535) ?_;refine jQ ?_));rotate_left 1;(focus (refine aO F F ?_;((refine ae F F F (ij ?_) F ?_;(focus ((simp;omega);done))));refine jS (aa 16 8159) ?_;refine jA 5 F ?_;(refine jO fun _=>?_);refine jS (aa 16 8191) ?_;refine jW 0 [13,14,15] (aa 16 65535) ?_;refine jQ ?_));rotate_left 1))
  all_goals
   rename_i x4
   refine Nx.sealC (b:=x4) fun G2 hG2 hsy=>?_
   refine jZ (vs:=[_,_,_]) F ⟨F,F,F,trivial⟩ F ⟨hG2,F,?_⟩
   rw [bI]
   rw [e3] at hsy
   rw [e3]
   refine ⟨_,_,_,F,fun h=>?_,fun h=>?_⟩
   ·have htk:=hq.2 h
    rw [htk] at hsy
    have hdr : (c :: r).drop (min (i + 2) (r.length + 1)) = r.drop (i + 1):=by
     rcases Nat.lt_or_ge i r.length with h2 | h2
     ·rw [show min (i + 2) (r.length + 1) = (i + 1) + 1 by omega];rfl
     ·rw [List.drop_eq_nil_of_le (by simp;omega),List.drop_eq_nil_of_le oM]
    exact ⟨_,x4,F,by rw [hq.1,if_pos h,hdr],.leaf 116 _ _ _ _ hsy (.inr (.inl ⟨F,F,F⟩))⟩
   ·rw [hq.1,if_neg (by rw [h];decide)]
theorem ze {u : Value} {ts : List Ty} {s : ael} (hu : u.oneCell' = true) (hs : s.length ≤ 100000000) : bJ aek 98 [Ag [u],S s,S [102]] G (fc ts (eX s) [102]):=by
 have hpf : ∀ l : ael,l.isPrefixOf s = true ↔ l.length ≤ s.length ∧ s.take l.length = l:=fun l=>by
  rw [List.isPrefixOf_iff_prefix]
  constructor
  ·rintro ⟨t,rfl⟩;simp
  ·rintro ⟨h1,h2⟩;exact ⟨s.drop l.length,by rw [show l ++ s.drop l.length = s.take l.length ++ s.drop l.length from by rw [h2]];exact List.take_append_drop _ _⟩
 refine jB [(0,_),(1,_),(2,_)] Tryz.func98 Tryz.ntmps98 fun B hok hB hW=>?_
 repeat' (first | refine jR ?_ | (refine jo ?_;first | refine jO fun _=>?_ | refine jF fun _=>?_ | refine jV (af F) ?_) | refine ad F F ?_)
 rename_i x3 x4
 refine aW (ι:=Nat) (fun i=>i ≤ 2 ∧ (1 ≤ i → ([121,101,115] : ael).isPrefixOf s = false) ∧ (2 ≤ i → ([110,111] : ael).isPrefixOf s = false)) (fun i=>[(1,S s),(2,S [102]),(68,.slice (some ⟨x4,0,none⟩) 2 2),(69,I (2 : Nat)),(70,I i)]) (fun _=>G) (fun i=>[.blk x4 (.cells (List.toArray [S [121,101,115],S [110,111]]) adZ (0,0))]) (fun i=>2 - i) 0 ?_ tU F sB (fun i Hi=>?_)
 ·exact ⟨Nat.zero_le _,fun h=>absurd h oM,fun h=>absurd h oM⟩
 obtain ⟨hi0,hi1,hi2⟩:=Hi
 have h3 : i = 0 ∨ i = 1 ∨ i = 2:=oM
 rcases h3 with rfl | rfl | rfl
 ·cases hp : ([121,101,115] : ael).isPrefixOf s with
  | true =>
   obtain ⟨h1,h2⟩:=(hpf _).1 hp
   have h1' : (((([121,101,115] : ael).length : Nat) : Int)) ≤ s.length:=oM
   have h2' : s.take (((([121,101,115] : ael).length : Nat) : Int)).toNat = [121,101,115]:=h2
   repeat' (first | refine jM ?_ | (refine jo ?_;first | refine aP F ?_ | refine jV (ak F F oM) ?_ | refine aC F ?_) | refine aF F F (aA ‹_›) ?_ | (refine ac F (by first | rfl | (refine decide_eq_true ?_;(assumption))) ?_) | (refine an (ao (id:=17) _ (fun _ h=>h) am ?_);refine jW 5 [0,1,4,5,6,7] (aa 11 243) ?_;(refine jG (aa 11 247) 2 F (ay F F) ?_);refine jA 3 F ?_;(refine jO fun _=>?_);refine jS (aa 11 255) ?_;refine jT 0 [8,9,10] (aa 11 2047) ?_;refine jQ ?_))
   all_goals
    rename_i y
    refine Nx.sealC (b:=y) fun G2 hG2 hsy=>?_
    refine jZ (vs:=[_,_,_]) F ⟨F,F,F,trivial⟩ F ⟨hG2,F,?_⟩
    rw [bI]
    exact ⟨_,_,_,F,fun _=>⟨.nd 102 [121,101,115] 0 [],y,F,by unfold eX;rw [hp,if_pos rfl];rfl,.leaf 102 _ _ _ _ hsy (.inr (.inr ⟨rfl,rfl,rfl,.inl rfl⟩))⟩,fun h=>(by cases h)⟩
  | false =>
   have hn : ¬ ((([121,101,115] : ael).length : Nat) ≤ s.length ∧ s.take ([121,101,115] : ael).length = [121,101,115]):=fun h=>by rw [(hpf _).2 h] at hp;cases hp
   have hn' : ¬ ((((([121,101,115] : ael).length : Nat) : Int)) ≤ s.length ∧ s.take (((([121,101,115] : ael).length : Nat) : Int)).toNat = [121,101,115]):=fun h=>hn ⟨oM,h.2⟩
   by_cases h1' : (((([121,101,115] : ael).length : Nat) : Int)) ≤ s.length
   ·have h2' : ¬ s.take (((([121,101,115] : ael).length : Nat) : Int)).toNat = [121,101,115]:=fun h=>hn' ⟨h1',h⟩
    repeat' (first | refine jM ?_ | (refine jo ?_;first | refine aP F ?_ | refine jV (ak F F oM) ?_ | refine aC F ?_) | refine aF F F (aA ‹_›) ?_ | refine ac F F ?_ | refine ad F (aH ‹_›) ?_)
    exact br 1 ⟨oM,fun _=>rfl,fun h=>absurd h oM⟩ oM tU F bc
   ·repeat' (first | refine jM ?_ | (refine jo ?_;first | refine aE F ?_ | refine jV (ak F F oM) ?_ | refine aC F ?_) | refine aw F F (aH ‹_›) ?_ | refine ac F F ?_ | refine ad F F ?_)
    exact br 1 ⟨oM,fun _=>rfl,fun h=>absurd h oM⟩ oM tU F bc
 ·have hy:=hi1 (Nat.le_refl _)
  cases hp : ([110,111] : ael).isPrefixOf s with
  | true =>
   obtain ⟨h1,h2⟩:=(hpf _).1 hp
   have h1' : (((([110,111] : ael).length : Nat) : Int)) ≤ s.length:=oM
   have h2' : s.take (((([110,111] : ael).length : Nat) : Int)).toNat = [110,111]:=h2
   repeat' (first | refine jM ?_ | (refine jo ?_;first | refine aP F ?_ | refine jV (ak F F oM) ?_ | refine aC F ?_) | refine aF F F (aA ‹_›) ?_ | (refine ac F (by first | rfl | (refine decide_eq_true ?_;(assumption))) ?_) | (refine an (ao (id:=17) _ (fun _ h=>h) am ?_);refine jW 5 [0,1,4,5,6,7] (aa 11 243) ?_;(refine jG (aa 11 247) 2 F (ay F F) ?_);refine jA 3 F ?_;(refine jO fun _=>?_);refine jS (aa 11 255) ?_;refine jT 0 [8,9,10] (aa 11 2047) ?_;refine jQ ?_))
   all_goals
    rename_i y
    refine Nx.sealC (b:=y) fun G2 hG2 hsy=>?_
    refine jZ (vs:=[_,_,_]) F ⟨F,F,F,trivial⟩ F ⟨hG2,F,?_⟩
    rw [bI]
    exact ⟨_,_,_,F,fun _=>⟨.nd 102 [110,111] 0 [],y,F,by unfold eX;rw [hy,if_neg dC,hp,if_pos rfl];rfl,.leaf 102 _ _ _ _ hsy (.inr (.inr ⟨rfl,rfl,rfl,.inr rfl⟩))⟩,fun h=>(by cases h)⟩
  | false =>
   have hn : ¬ ((([110,111] : ael).length : Nat) ≤ s.length ∧ s.take ([110,111] : ael).length = [110,111]):=fun h=>by rw [(hpf _).2 h] at hp;cases hp
   have hn' : ¬ ((((([110,111] : ael).length : Nat) : Int)) ≤ s.length ∧ s.take (((([110,111] : ael).length : Nat) : Int)).toNat = [110,111]):=fun h=>hn ⟨oM,h.2⟩
   by_cases h1' : (((([110,111] : ael).length : Nat) : Int)) ≤ s.length
   ·have h2' : ¬ s.take (((([110,111] : ael).length : Nat) : Int)).toNat = [110,111]:=fun h=>hn' ⟨h1',h⟩
    repeat' (first | refine jM ?_ | (refine jo ?_;first | refine aP F ?_ | refine jV (ak F F oM) ?_ | refine aC F ?_) | refine aF F F (aA ‹_›) ?_ | refine ac F F ?_ | refine ad F (aH ‹_›) ?_)
    exact br 2 ⟨oM,fun _=>hy,fun _=>rfl⟩ oM tU F bc
   ·repeat' (first | refine jM ?_ | (refine jo ?_;first | refine aE F ?_ | refine jV (ak F F oM) ?_ | refine aC F ?_) | refine aw F F (aH ‹_›) ?_ | refine ac F F ?_ | refine ad F F ?_)
    exact br 2 ⟨oM,fun _=>hy,fun _=>rfl⟩ oM tU F bc
 ·repeat' (first | refine jR ?_ | refine ad F F ?_)
  refine jZ (vs:=[_,_,_]) F ⟨F,F,F,trivial⟩ F ⟨Gh.le.refl _,F,?_⟩
  rw [bI]
  exact ⟨_,_,_,F,fun h=>(by cases h),fun _=>by unfold eX;rw [hi1 oM,if_neg dC,hi2 oM,if_neg dC]⟩
theorem sD {u : Value} {x : cG} {s : ael} (hs : s.length ≤ 100000000) (hu : u.oneCell' = true) (hf : aN G (gx x) 4 x.2.fields.length (ag ig x.2.fields)) (hl : x.2.fields.length ≤ 1000) :
  a7 aek 138 [Ag [u],S s,Ag (kp x)] G (fun v=>∃ n,v = Tu [Ag (ig ((cm x.2.fields n).getD zF)),S (s.dropWhile bn),Bo ((aQ (s.takeWhile bn) 200).isSome && (cm x.2.fields n).isSome)] ∧ ∀ m,aQ (s.takeWhile bn) 200 = some m → n = m):=by
 have cx_dg:=ur (G:=G) hs
 obtain ⟨e1,e2⟩:=pD bn s
 have hwl:=eJ bn s
 have hlen : (s.take ((((s.takeWhile bn).length : Nat) : Int)).toNat).length ≤ 100000000:=by rw [e1];omega
 simp only [kp]
 refine jE [(0,_),(1,_),(2,_)] Tryz.func138 Tryz.ntmps138 fun B hB=>?_
 repeat' (first | refine jM ?_ | (refine jo ?_;first | refine jO fun _=>?_ | refine jL fun _=>?_ | refine bO F ?_ | refine ae F F F cx_dg F ?_ | (refine eE F F F (iu oM) F ?_;rintro _ ⟨n,rfl,hnum⟩)))
 rename_i n
 have cx_fld:=uq (G:=G) (tag:=n) hf hl
 rw [e1] at hnum
 cases hm : (aQ (s.take ((((s.takeWhile bn).length : Nat) : Int)).toNat) 200).isSome with
 | false =>
  repeat' (first | refine jR ?_ | (refine jo ?_;first | refine jL fun _=>?_ | refine jC F F F ?_ | refine ae F F F cx_fld F ?_) | (refine an (em (id:=4) (tt:=6) F am ?_);refine jW 6 [1,2,3,4,5] (aa 11 62) ?_;(try (refine Nx.re (d:=34) (v':=Bo false) F (congrArg Value.bool F) ?_));refine jW 5 [6] (aa 11 126) ?_;(refine jG (aa 11 127) 0 F (bS F F F F) ?_);((refine jG (aa 11 255) 7 F (bm F F ?_) ?_;(focus ((rfl);done))));refine jA 8 F ?_;(refine jC F F F ?_);refine jK (aa 11 511) ?_;refine jW 0 [9,10] (aa 11 2047) ?_;refine jQ ?_))
  all_goals refine jZ (vs:=[_,_,_]) F ⟨aJ F F F F,F,F,trivial⟩ F ⟨F,F,?_⟩
  all_goals (rw [bI];exact ⟨n,by rw [e1] at hm;rw [hm,e2];rfl,hnum⟩)
 | true =>
  repeat' (first | refine jR ?_ | (refine jo ?_;first | refine jL fun _=>?_ | refine jC F F F ?_ | refine ae F F F cx_fld F ?_) | (refine an (em (id:=4) (tt:=6) F am ?_);refine jW 6 [1,2,3,4,5] (aa 11 62) ?_;(try (refine Nx.re (d:=34) (v':=Bo true) F (congrArg Value.bool F) ?_));refine jW 5 [6] (aa 11 126) ?_;(refine jG (aa 11 127) 0 F (bS F F F F) ?_);((refine jG (aa 11 255) 7 F (bR F F ?_) ?_;(focus ((rfl);done))));refine jA 8 F ?_;(refine jC F F F ?_);refine jK (aa 11 511) ?_;refine jW 0 [9,10] (aa 11 2047) ?_;refine jQ ?_))
  all_goals refine jZ (vs:=[_,_,_]) F ⟨aJ F F F F,F,F,trivial⟩ F ⟨F,F,?_⟩
  all_goals (rw [bI];exact ⟨n,by rw [e1] at hm;rw [hm,e2];rfl,hnum⟩)
def iP (v : V) : Prop:=v.out.length + 1 ≤ 2 * v.tot
theorem kW : ∀ {ks : List V},(∀ v ∈ ks,iP v) → dw (V.outs ks) + ks.length ≤ 2 * V.tots ks
 | [],_=>by simp [V.outs,dw]
 | v :: r,h=>by
  have h1:=h v (.head _)
  have h2:=kW fun u hu=>h u (.tail _ hu)
  unfold iP at h1
  simp only [V.outs,dw,List.map_cons,List.sum_cons,V.tots,List.length_cons] at *
  omega
theorem gP {w : Nat} {x : ael} {t : Int} {ks : List V} (h : ∀ v ∈ ks,iP v) (ht : t ≤ 999999) : iP (.nd w x t ks):=by
 have h1:=kW h
 have h2:=gE 44 (V.outs ks)
 rw [kA] at h2
 have h4:=tG (w:=w) (x:=x) (e:=ks.isEmpty) (j:=aR 44 (V.outs ks)) ht
 have h5:=dq ks
 unfold iP
 rw [V.out,V.tot]
 omega
theorem p6 {α : Type} [Inhabited α] {l : List α} {x : α} (h : x ∈ l) : ∃ i,i < l.length ∧ ab l i = x:=by
 obtain ⟨i,hi,rfl⟩:=List.mem_iff_getElem.1 h
 exact ⟨i,hi,aI hi⟩
theorem ky {ts : List Ty} (hw : SchW ts) {k : ael} {t : Ty} (h : aZ ts k = some t) {d : Fld} (hd : d ∈ t.fields) : d.tag ≤ 999999 ∧ 0 ≤ d.tag:=by
 have:=((hw.ty t (bj h)).fld d hd).tag
 omega
theorem d5 {ts : List Ty} {k : ael} {t : Ty} (h : aZ ts k = some t) : ∃ r,k = 64 :: r:=by
 unfold aZ at h
 cases k with
 | nil=>cases h
 | cons c r =>
  unfold cr at h
  dsimp only at h
  by_cases h64 : c.toNat = 64
  ·exact ⟨r,by rw [show c = 64 from UInt8.toNat_inj.1 h64]⟩
  ·rw [if_neg h64] at h;cases h
theorem l8 {ts : List Ty} (hw : SchW ts) {v : V} {k : ael} {b : Nat} (h : RepR G ts v k b) : iP v:=by
 induction h with
 | leaf w x k tx b h1 h2=>exact gP (by simp) dC
 | lst k b ks bs a c h1 h2 h3 _ ih =>
  exact gP (fun v hv=>by obtain ⟨i,hi,rfl⟩:=p6 hv;exact ih i hi) dC
 | non k b h1=>exact gP (by simp) dC
 | opt k b kb b' cc v h0 h1 h2 _ ih=>exact gP (fun u hu=>by simp only [List.mem_singleton] at hu;subst hu;exact ih) dC
 | recd k b t fs bs a a2 c c2 h0 h1 h2 h3 h4 h5 _ ih =>
  refine gP (fun v hv=>?_) dC
  obtain ⟨p,hp,rfl⟩:=List.mem_map.1 hv
  obtain ⟨i,hi,rfl⟩:=p6 hp
  exact gP (fun u hu=>by simp only [List.mem_singleton] at hu;subst hu;exact ih i hi) (ky hw h0.1 (h5 i hi)).1
 | enm k b tgb t d h0 h1 h2 h3=>exact gP (by simp) (ky hw h0.1 h1).1
 | uni k b tgb kb b' cc t d v hcc h0 h1 h2 h3 h4 _ ih=>exact gP (fun u hu=>by simp only [List.mem_singleton] at hu;subst hu;exact ih) (ky hw h0.1 h1).1
theorem p8 {c : UInt8} {xs : List ael} {i : Nat} (h : i < xs.length) : aR c (xs.take (i + 1)) = if 0 < i then aR c (xs.take i) ++ c :: ab xs i else ab xs i:=by
 rw [dO h]
 by_cases hi : 0 < i
 ·rw [if_pos hi,mg]
  rw [ne_eq,List.take_eq_nil_iff]
  rintro (h0 | h0)
  ·omega
  ·subst h0;simp at h
 ·have : i = 0:=oM
  subst this;rfl
theorem gj {ts : List Ty} (hw : SchW ts) {v : V} {k : ael} {b : Nat} (h : RepR G ts v k b) : v.tot ≤ 1000000000000 → a7 aek 51 [Pt b 0] G (· = S v.out):=by
 induction h with
 | leaf w x k tx b h1 h2 =>
  intro _
  rcases h2 with ⟨rfl,rfl,rfl,_⟩ | ⟨rfl,rfl,rfl⟩ | ⟨rfl,rfl,rfl,_⟩
  all_goals
   refine jE [(0,_)] Tryz.func51 Tryz.ntmps51 fun B hB=>?_
   repeat' (first | refine jX ?_ | (refine jo ?_;refine jV (aj F F aS F F) ?_) | refine ad F F ?_)
   refine jY (vs:=[_]) ?_
   rw [aM,V.out];rfl
 | lst k b ks bs a c h1 h2 h3 hk ih =>
  intro ht
  rw [bK] at ht
  have hb:=kW (ks:=ks) fun v hv=>by obtain ⟨i,hi,rfl⟩:=p6 hv;exact l8 hw (hk i hi)
  have hol:=kA ks
  refine jE [(0,_)] Tryz.func51 Tryz.ntmps51 fun B hB=>?_
  repeat' (first | refine jX ?_ | (refine jo ?_;refine jV (aj F F aS F F) ?_) | refine ac F F ?_)
  refine aW (ι:=Nat) (fun i=>i ≤ ks.length) (fun i=>[(0,Pt b 0),(3,S (91 :: aR 44 ((V.outs ks).take i))),(4,I i)]) (fun _=>G) (fun i=>[]) (fun i=>ks.length - i) 0 ?_ tU F bc (fun i Hi=>?_)
  ·exact Nat.zero_le _
  have hj1:=gE 44 ((V.outs ks).take i)
  have hj2:=fD (V.outs ks) i
  have hj3 : ((V.outs ks).take i).length ≤ ks.length:=by rw [List.length_take];omega
  by_cases hi : i < ks.length
  ·have hti:=ke hi
   have cx_out:=ih i hi oM
   have hou:=l6 hi
   have hxi : ab bs i = ab bs i:=rfl
   have hob:=l8 hw (hk i hi)
   unfold iP at hob
   have hst:=p8 (c:=44) (xs:=V.outs ks) (i:=i) oM
   rw [hou] at hst
   obtain ⟨kb,ko,kc,e,hs⟩:=h2.expl oM
   simp only [Value.slice.injEq] at e
   obtain ⟨rfl,-,rfl⟩:=e
   by_cases h0 : 0 < i
   ·rw [if_pos h0] at hst
    repeat' (first | refine jX ?_ | (refine jo ?_;first | refine jV (aj F F aS F F) ?_ | (refine jV (cn F F aS ?_ aS F) ?_;focus omega) | refine jV (af F) ?_ | refine jV (ak F F oM) ?_ | refine ae F F F cx_out F ?_) | refine ac F (aA oM) ?_)
    refine Nx.re (d:=3) (v':=S (91 :: aR 44 ((V.outs ks).take (i + 1)))) F (congrArg (fun l=>S l) (by rw [hst];simp)) ?_
    exact br (i + 1) oM oM tU F bc
   ·rw [if_neg h0] at hst
    have hi0 : i = 0:=oM
    subst hi0
    repeat' (first | refine jX ?_ | (refine jo ?_;first | (refine jV (fS F F aS ?_ aS F F) ?_;focus omega) | refine jV (aj F F aS F F) ?_ | refine jV (af F) ?_ | refine jV (ak F F oM) ?_ | refine ae F F F cx_out F ?_) | refine ac F (aA oM) ?_ | refine ad F F ?_)
    refine Nx.re (d:=3) (v':=S (91 :: aR 44 ((V.outs ks).take (0 + 1)))) F (congrArg (fun l=>S l) (by rw [hst];rfl)) ?_
    exact br (0 + 1) oM oM tU F bc
  ·have hin : i = ks.length:=oM
   subst hin
   repeat' (first | refine jX ?_ | (refine jo ?_;first | refine jV (aj F F aS F F) ?_ | refine jV (af F) ?_) | refine ad F (aH oM) ?_)
   refine jY (vs:=[_]) ?_
   rw [aM,V.out,← hol,List.take_length];rfl
 | non k b h1 =>
  intro _
  refine jE [(0,_)] Tryz.func51 Tryz.ntmps51 fun B hB=>?_
  repeat' (first | refine jX ?_ | (refine jo ?_;first | refine jV (aj F F aS F F) ?_ | refine jV (af F) ?_) | refine ac F F ?_ | refine ad F F ?_)
  refine jY (vs:=[_]) ?_
  rfl
 | opt k b kb b' cc v h0 h1 h2 h3 ih =>
  intro ht
  simp only [bK,V.tots] at ht
  have cx_out:=ih oM
  have hob:=l8 hw h3
  unfold iP at hob
  refine jE [(0,_)] Tryz.func51 Tryz.ntmps51 fun B hB=>?_
  repeat' (first | refine jX ?_ | (refine jo ?_;first | refine jV (aj F F aS F F) ?_ | refine jV (af F) ?_ | refine jV (aT F F oM) ?_ | refine ae F F F cx_out F ?_) | refine ac F F ?_ | refine ad F F ?_)
  refine jY (vs:=[_]) ?_
  rw [aM,V.out];rfl
 | recd k b t fs bs a a2 c c2 h0 h1 h2 h3 h4 h5 hk ih =>
  intro ht
  obtain ⟨r,rfl⟩:=d5 h0.1
  rw [bK] at ht
  have hB1 : ∀ v ∈ fs.map (fun p : Fld × V=>V.nd 61 [] p.1.tag [p.2]),iP v:=fun v hv=>by
   obtain ⟨p,hp,rfl⟩:=List.mem_map.1 hv
   obtain ⟨i,hi,rfl⟩:=p6 hp
   exact gP (fun u hu=>by simp only [List.mem_singleton] at hu;subst hu;exact l8 hw (hk i hi)) (ky hw h0.1 (h5 i hi)).1
  have hb:=kW hB1
  have hml : (fs.map (fun p : Fld × V=>V.nd 61 [] p.1.tag [p.2])).length = fs.length:=by simp
  have hol:=kA (fs.map (fun p : Fld × V=>V.nd 61 [] p.1.tag [p.2]))
  have hnt : ∀ i,i < fs.length → ab (fs.map (fun p : Fld × V=>V.nd 61 [] p.1.tag [p.2])) i = V.nd 61 [] (ab fs i).1.tag [(ab fs i).2]:=fun i hi=>by rw [aI (by simpa using hi),aI hi];simp
  generalize hKS : fs.map (fun p : Fld × V=>V.nd 61 [] p.1.tag [p.2]) = KS at *
  have cx_nmd : a7 aek 99 [Pt b 0] G (· = S (V.out (.nd 82 [] 0 KS))):=by
   refine jE [(0,_)] Tryz.func99 Tryz.ntmps99 fun B hB=>?_
   repeat' (first | refine jR ?_ | (refine jo ?_;refine jV (aj F F aS F F) ?_) | refine ad F F ?_)
   refine aW (ι:=Nat) (fun i=>i ≤ fs.length) (fun i=>[(0,Pt b 0),(3,S (123 :: aR 44 ((V.outs KS).take i))),(4,I i)]) (fun _=>G) (fun i=>[]) (fun i=>fs.length - i) 0 ?_ tU F bc (fun i Hi=>?_)
   ·exact Nat.zero_le _
   have hj1:=gE 44 ((V.outs KS).take i)
   have hj2:=fD (V.outs KS) i
   have hj3 : ((V.outs KS).take i).length ≤ fs.length:=by rw [List.length_take];omega
   by_cases hi : i < fs.length
   ·have hti:=ke (ks:=KS) (i:=i) oM
    rw [hnt i hi] at hti
    simp only [bK,V.tots] at hti
    have cx_out:=ih i hi oM
    have hou:=l6 (ks:=KS) (i:=i) oM
    rw [hnt i hi,gn] at hou
    have hxi : ab bs i = ab bs i:=rfl
    have htg:=ky hw h0.1 (h5 i hi)
    have hdl:=gT htg.1
    have hob:=l8 hw (hk i hi)
    unfold iP at hob
    have hst:=p8 (c:=44) (xs:=V.outs KS) (i:=i) oM
    rw [hou] at hst
    have htn : ab (fs.map fun p : Fld × V=>p.1.tag) i = (ab fs i).1.tag:=by rw [aI (by simpa using hi),aI hi];simp
    have htl : (fs.map fun p : Fld × V=>p.1.tag).length = fs.length:=by simp
    obtain ⟨tgb,to,tc,e,hs1⟩:=h2.expl oM
    simp only [Value.slice.injEq] at e
    obtain ⟨rfl,-,rfl⟩:=e
    obtain ⟨kb,ko,kc,e,hs2⟩:=h3.expl oM
    simp only [Value.slice.injEq] at e
    obtain ⟨rfl,-,rfl⟩:=e
    by_cases hp0 : 0 < i
    ·rw [if_pos hp0] at hst
     repeat' (first | refine jX ?_ | (refine jo ?_;first | refine jV (aj F F aS F F) ?_ | refine jV (af F) ?_) | refine ac F (aA oM) ?_ | (refine an (ao (id:=12) _ (fun _ h=>h) am ?_);refine jT 12 [0,1,2,3,5,11,12,13,15] (aa 21 47151) ?_;(refine jG (aa 21 47167) 4 F (aj F F aS F F) ?_);(refine jG (aa 21 47231) 6 F (ak F F oM) ?_);((refine jG (aa 21 47359) 7 F (cn F F aS ?_ aS F) ?_;focus omega));(refine jG (aa 21 63743) 14 F (aj F F aS F F) ?_);(refine jG (aa 21 129279) 16 F (ak F F oM) ?_);((refine jG (aa 21 260351) 17 F (cn F F aS ?_ aS F) ?_;focus omega));refine jA 8 F ?_;(refine ae F F F (fU oM) F ?_);refine jS (aa 21 260607) ?_;refine jW 3 [9,10] (aa 21 262143) ?_;refine jA 18 F ?_;(refine ae F F F cx_out F ?_);refine jS (aa 21 524287) ?_;refine jW 0 [19,20] (aa 21 2097151) ?_;refine jQ ?_))
     all_goals
      refine Nx.re (d:=3) (v':=S (123 :: aR 44 ((V.outs KS).take (i + 1)))) F (congrArg (fun l=>S l) (by rw [hst];simp)) ?_
      exact br (i + 1) oM oM tU F bc
    ·rw [if_neg hp0] at hst
     have hi0 : i = 0:=oM
     subst hi0
     repeat' (first | refine jM ?_ | (refine jo ?_;first | refine jV (aj F F aS F F) ?_ | refine jV (af F) ?_) | refine ac F (aA oM) ?_ | refine ad F F ?_ | (refine an (ao (id:=12) _ (fun _ h=>h) am ?_);refine jT 12 [0,1,2,3,5,11,12,13,15] (aa 21 47151) ?_;(refine jG (aa 21 47167) 4 F (aj F F aS F F) ?_);(refine jG (aa 21 47231) 6 F (ak F F oM) ?_);((refine jG (aa 21 47359) 7 F (cn F F aS ?_ aS F) ?_;focus omega));(refine jG (aa 21 63743) 14 F (aj F F aS F F) ?_);(refine jG (aa 21 129279) 16 F (ak F F oM) ?_);((refine jG (aa 21 260351) 17 F (fS F F aS ?_ aS F F) ?_;focus omega));refine jA 8 F ?_;(refine ae F F F (fU oM) F ?_);refine jS (aa 21 260607) ?_;refine jW 3 [9,10] (aa 21 262143) ?_;refine jA 18 F ?_;(refine ae F F F cx_out F ?_);refine jS (aa 21 524287) ?_;refine jW 0 [19,20] (aa 21 2097151) ?_;refine jQ ?_))
     all_goals
      refine Nx.re (d:=3) (v':=S (123 :: aR 44 ((V.outs KS).take (0 + 1)))) F (congrArg (fun l=>S l) (by rw [hst];simp [aR])) ?_
      exact br (0 + 1) oM oM tU F bc
   ·have hin : i = fs.length:=oM
    repeat' (first | refine jX ?_ | (refine jo ?_;first | refine jV (aj F F aS F F) ?_ | refine jV (af F) ?_) | refine ad F (aH oM) ?_)
    refine jY (vs:=[_]) ?_
    rw [aM,V.out,hin,← hml,← hol,List.take_length];rfl
  refine jE [(0,_)] Tryz.func51 Tryz.ntmps51 fun B hB=>?_
  repeat' (first | refine jX ?_ | (refine jo ?_;first | refine jV (aj F F aS F F) ?_ | refine ae F F F cx_nmd F ?_) | refine ac F F ?_ | refine ad F F ?_)
  refine jY (vs:=[_]) ?_
  rfl
 | enm k b tgb t d h0 h1 h2 h3 =>
  intro _
  obtain ⟨r,rfl⟩:=d5 h0.1
  have htg:=ky hw h0.1 h1
  have hdl:=gT htg.1
  have cx_nmd : a7 aek 99 [Pt b 0] G (· = S (V.out (.nd 69 [] d.tag []))):=by
   refine jE [(0,_)] Tryz.func99 Tryz.ntmps99 fun B hB=>?_
   repeat' (first | refine jX ?_ | (refine jo ?_;first | refine jV (aj F F aS F F) ?_ | refine jV (aT F F oM) ?_ | refine ae F F F (fU oM) F ?_) | refine ac F F ?_ | refine ad F F ?_)
   refine jY (vs:=[_]) ?_
   rw [aM,V.out];rfl
  refine jE [(0,_)] Tryz.func51 Tryz.ntmps51 fun B hB=>?_
  repeat' (first | refine jX ?_ | (refine jo ?_;first | refine jV (aj F F aS F F) ?_ | refine ae F F F cx_nmd F ?_) | refine ac F F ?_ | refine ad F F ?_)
  refine jY (vs:=[_]) ?_
  rfl
 | uni k b tgb kb b' cc t d v hcc h0 h1 h2 h3 h4 hk ih =>
  intro ht
  obtain ⟨r,rfl⟩:=d5 h0.1
  have htg:=ky hw h0.1 h1
  have hdl:=gT htg.1
  simp only [bK,V.tots] at ht
  have cx_out:=ih oM
  have hob:=l8 hw hk
  unfold iP at hob
  have cx_nmd : a7 aek 99 [Pt b 0] G (· = S (V.out (.nd 85 [] d.tag [v]))):=by
   refine jE [(0,_)] Tryz.func99 Tryz.ntmps99 fun B hB=>?_
   repeat' (first | refine jR ?_ | (refine jo ?_;refine jV (aj F F aS F F) ?_) | refine ac F F ?_ | (refine an (ao (id:=3) _ (fun _ h=>h) am ?_);refine jT 13 [0,1,2,9,10,11] (aa 19 3591) ?_;(refine jG (aa 19 3599) 3 F (aj F F aS F F) ?_);(refine jG (aa 19 3615) 4 F (aT F F oM) ?_);(refine jG (aa 19 3647) 5 F (aj F F aS F F) ?_);(refine jG (aa 19 7743) 12 F (aj F F aS F F) ?_);(refine jG (aa 19 15935) 13 F (aT F F oM) ?_);(refine jG (aa 19 32319) 14 F (aj F F aS F F) ?_);refine jA 6 F ?_;(refine ae F F F (fU oM) F ?_);refine jS (aa 19 32383) ?_;refine jW 4 [7,8] (aa 19 32767) ?_;refine jA 15 F ?_;(refine ae F F F cx_out F ?_);refine jS (aa 19 65535) ?_;refine jW 0 [16,17,18] (aa 19 524287) ?_;refine jQ ?_))
   all_goals refine jY (vs:=[_]) ?_
   all_goals (rw [aM,V.out];simp [V.outs,c7,aR])
  clear cx_out
  refine jE [(0,_)] Tryz.func51 Tryz.ntmps51 fun B hB=>?_
  repeat' (first | refine jX ?_ | (refine jo ?_;first | refine jV (aj F F aS F F) ?_ | refine ae F F F cx_nmd F ?_) | refine ac F F ?_ | refine ad F F ?_)
  refine jY (vs:=[_]) ?_
  rfl
abbrev abm : TypeId:=47
abbrev tRd : TypeId:=92
def ld (n : Nat) (u : Value) (vs : List cG) : Prop:=∀ (G : Gh) (k s : ael),SchR G u vs → ax (ah vs) k = true → s.length ≤ 2000000 →
 bJ aek 50 [Ag [u],S s,S k,I (n : Nat)] G (fc (ah vs) (rd (ah vs) n k s) k)
theorem aaV {n : Nat} {u : Value} {vs : List cG} {k s : ael} (hR : ld n u vs) (h : SchR G u vs) (hk : ax (ah vs) k = true) (hs : s.length ≤ 2000000) (hn : n ≤ 1000) :
  bJ aek 96 [Ag [u],S s,S (91 :: k),I (n + 1 : Nat)] G (fc (ah vs) (fQ (rd (ah vs) n k) (91 :: s)) (91 :: k)):=by
 have edn : ((n + 1 : Nat) : Int) - 1 = (n : Nat):=oM
 by_cases h93 : ∃ s2,s = 93 :: s2
 ·obtain ⟨s2,rfl⟩:=h93
  refine jB [(0,_),(1,_),(2,_),(3,_)] Tryz.func96 Tryz.ntmps96 fun B hok hB hW=>?_
  repeat' (first | refine jX ?_ | (refine jo ?_;first | refine jO fun _=>?_ | refine jV (ay F F) ?_ | refine aP F ?_) | refine aF F F F ?_ | refine ac F F ?_ | (refine an (ao (id:=3) _ (fun _ h=>h) am ?_);refine jW 0 [0,1,2,3,4,5] (aa 6 63) ?_;refine jQ ?_))
  rename_i x4 x11
  refine Nx.sealC (b:=x11) fun G2 hG2 hsy=>?_
  refine jZ (vs:=[_,_,_]) F ⟨F,F,F,trivial⟩ F ⟨hG2,F,?_⟩
  rw [bI]
  exact ⟨_,_,_,F,fun _=>⟨.nd 91 [] 0 [],x11,F,F,.lst k x11 [] [] none 0 hsy ⟨F,.inl ⟨F,F⟩⟩ F (fun i hi=>absurd hi (by simp))⟩,fun h=>(by cases h)⟩
 have hRl : fQ (rd (ah vs) n k) (91 :: s) = (bL (rd (ah vs) n k) 20 s []).map fun x=>(.nd 91 [] 0 x.1,x.2):=by
  unfold fQ
  dsimp only
  rw [if_pos (show (91 : UInt8).toNat = 91 from rfl)]
  cases s with
  | nil =>
   have : rd (ah vs) n k [] = none:=by
    cases h : rd (ah vs) n k [] with
    | none=>rfl
    | some x=>have:=iX h;simp at this
   simp [bL,this]
  | cons e r' =>
   dsimp only
   rw [if_neg]
   intro h;exact h93 ⟨r',by rw [show e = 93 from UInt8.toNat_inj.1 h]⟩
 have hs0 : s = [] ∨ s ≠ [] ∧ ¬ ((bt s (Int.toNat 0) : Nat) : Int) = 93:=by
  cases s with
  | nil=>exact .inl F
  | cons e r' =>
   refine .inr ⟨by simp,fun h=>h93 ⟨r',?_⟩⟩
   have : bt (e :: r') (Int.toNat 0) = e.toNat:=bH e r'
   rw [show e = 93 from UInt8.toNat_inj.1 (show e.toNat = 93 by omega)]
 have hkl : k.length ≤ 1000:=by
  have:=(dz (dR hk)).2
  omega
 have hslen : s = [] ∨ 0 < s.length:=by cases s <;> simp
 rcases hs0 with hs0 | ⟨hs0,hs1⟩
 all_goals
  have hslen2 : s ≠ [] → 0 < s.length:=fun h=>by rcases hslen with h' | h';exact absurd h' h;exact h'
  try have hslen3:=hslen2 hs0
  refine jB [(0,_),(1,_),(2,_),(3,_)] Tryz.func96 Tryz.ntmps96 fun B hok hB hW=>?_
  repeat' (first | refine jM ?_ | (refine jo ?_;first | refine jO fun _=>?_ | refine jV (ay F F) ?_ | refine aP F ?_ | refine aE F ?_) | refine aF F F (aA ‹_›) ?_ | (refine aw F F ?_ ?_;(focus ((simp [*];done);done))) | (refine ad F (by first | rfl | (refine decide_eq_false ?_;(assumption))) ?_))
  rename_i x4 x11
  refine Nx.addNil abm 1 ?_
  refine aW (ι:=List V × List Nat × Option Addr × Nat × ael × Gh) (fun q=>((q.2.1.length = q.1.length ∧ ∀ i,i < q.1.length → RepR q.2.2.2.2.2 (ah vs) (ab q.1 i) k (ab q.2.1 i)) ∧ Gh.le G q.2.2.2.2.2) ∧ bL (rd (ah vs) n k) 20 s [] = bL (rd (ah vs) n k) (20 - q.1.length) q.2.2.2.2.1 q.1 ∧ q.1.length ≤ 20 ∧ q.2.2.2.2.1.length ≤ s.length) (fun q=>[(1,S q.2.2.2.2.1),(2,S (91 :: k)),(3,I (n + 1 : Nat)),(4,Pt x4 0),(11,Pt x11 0)]) (fun q=>q.2.2.2.2.2) (fun q=>[.acc (.slice q.2.2.1 q.1.length q.2.2.2.1) abm 1 q.1.length (ag dH q.2.1),.blk x11 (.cells (List.toArray [S (91 :: k),S [],aK,.slice q.2.2.1 q.1.length q.2.2.2.1]) od (0,0)),.blk x4 (.cells (List.toArray [u]) tRd (0,0))]) (fun q=>20 - q.1.length) ([],[],none,0,s,G) ?_ tU F bc (fun q Hq=>?_)
  ·exact ⟨⟨⟨F,fun i hi=>absurd hi (by simp)⟩,Gh.le.refl _⟩,F,Nat.zero_le _,Nat.le_refl _⟩
  obtain ⟨ws,bs,a,cap,t,Gq⟩:=q
  dsimp only at Hq ⊢
  obtain ⟨⟨⟨hbl,hreps⟩,hgq⟩,hit,hwl,htl⟩:=Hq
  by_cases h20 : ws.length < 20
  case neg =>
   have e20 : 20 - ws.length = 0:=oM
   repeat' (first | refine jR ?_ | (refine jo ?_;first | refine aC F ?_ | refine jV (af F) ?_) | refine ad F (aH oM) ?_)
   refine jZ (vs:=[_,_,_]) F ⟨F,F,F,trivial⟩ F ⟨hgq,F,?_⟩
   rw [bI]
   exact ⟨_,_,_,F,fun h=>(by cases h),fun _=>by rw [hRl,hit,e20];rfl⟩
  have cx_rd:=hR Gq k t (h.mono hgq) hk oM
  rw [← edn] at cx_rd
  repeat' (first | refine jR ?_ | (refine jo ?_;first | refine aC F ?_ | refine jV (af F) ?_) | refine ac F (aA oM) ?_)
  (refine an (ao (id:=5) _ (fun _ h=>h) am ?_);refine jW 9 [1,2,3,4,5] (aa 14 62) ?_;(refine jG (aa 14 63) 0 F (bS F F F F) ?_);refine jA 6 F ?_;(refine ar F F F cx_rd F ?_;rintro _ G hle ⟨q1,r1,ok1,rfl,hyes,hno⟩;skip);refine jS (aa 14 127) ?_;refine jT 0 [7,8,9,10,11,12,13] (aa 14 16383) ?_;refine jQ ?_)
  have hgl:=hgq.trans hle
  cases ok1 with
  | false =>
   have hnone : bL (rd (ah vs) n k) (20 - ws.length) t ws = none:=j8 (.inl (hno rfl))
   repeat' (first | refine jR ?_ | (refine jo ?_;refine aP F ?_) | refine aF F F F ?_ | refine ac F F ?_)
   refine jZ (vs:=[_,_,_]) F ⟨F,F,F,trivial⟩ F ⟨hgl,F,?_⟩
   rw [bI]
   exact ⟨_,_,_,F,fun h=>(by cases h),fun _=>by rw [hRl,hit,hnone];rfl⟩
  | true =>
   obtain ⟨w,wb,rfl,hf,hrep⟩:=hyes rfl
   have hsh:=iX hf
   cases r1 with
   | nil =>
    have hnone : bL (rd (ah vs) n k) (20 - ws.length) t ws = none:=j8 (.inr ⟨w,hf⟩)
    repeat' (first | refine jR ?_ | (refine jo ?_;first | refine aP F ?_ | refine aE F ?_) | refine aF F F F ?_ | refine aw F F F ?_ | refine ac F F ?_)
    refine jZ (vs:=[_,_,_]) F ⟨F,F,F,trivial⟩ F ⟨hgl,F,?_⟩
    rw [bI]
    exact ⟨_,_,_,F,fun h=>(by cases h),fun _=>by rw [hRl,hit,hnone];rfl⟩
   | cons e r2 =>
    have hstep:=j7 (vs:=ws) hf (show 0 < 20 - ws.length by omega)
    have he0 : bt (e :: r2) (Int.toNat 0) = e.toNat:=bH e r2
    simp only [List.length_cons] at hsh
    have hel : (e :: r2).length = r2.length + 1:=rfl
    have hrow : ag dH bs ++ [Pt wb 0] = ag dH (bs ++ [wb]):=(bX dH bs wb).symm
    have hwl1 : (ws ++ [w]).length = ws.length + 1:=by simp
    have hbl1 : (bs ++ [wb]).length = (ws ++ [w]).length:=by simp [hbl]
    have hrp : ∀ i,i < (ws ++ [w]).length → RepR G (ah vs) (ab (ws ++ [w]) i) k (ab (bs ++ [wb]) i):=fun i hi=>by
     by_cases h1 : i < ws.length
     ·have e1 : ab (ws ++ [w]) i = ab ws i:=by rw [aI hi,aI h1,List.getElem_append_left h1]
      have e2 : ab (bs ++ [wb]) i = ab bs i:=by rw [aI oM,aI oM,List.getElem_append_left oM]
      rw [e1,e2];exact (hreps i h1).mono hle
     ·have h2 : i = ws.length:=oM
      have e1 : ab (ws ++ [w]) i = w:=by rw [aI hi];simp [h2]
      have e2 : ab (bs ++ [wb]) i = wb:=by rw [aI oM];simp [h2,hbl]
      rw [e1,e2];exact hrep
    by_cases h44 : e.toNat = 44
    ·rw [if_pos h44] at hstep
     have hn93 : ¬ e.toNat = 93:=oM
     repeat' (first | refine jM ?_ | (refine jo ?_;first | refine aE F ?_ | refine aC F ?_ | refine jF fun _=>?_ | refine bG F F F F F F F F F oM fun _ _=>?_ | refine jD F F F ?_) | (refine aw F F (by first | rfl | (refine decide_eq_false ?_;(omega))) ?_) | (refine ad F (by first | rfl | (refine decide_eq_false ?_;(omega))) ?_))
     rename_i y0 y1 yc
     rw [hrow]
     exact br (ws ++ [w],bs ++ [wb],some ⟨y1,0,none⟩,yc,r2,G) ⟨⟨⟨hbl1,hrp⟩,hgl⟩,(by dsimp only;rw [hit,hstep,hwl1,Nat.sub_sub]),(by dsimp only;omega),(by dsimp only;omega)⟩ (by dsimp only;omega) tU rfl (by rw [hwl1];repeat (first | exact List.Sublist.refl _ | apply List.Sublist.cons_cons | apply List.Sublist.cons))
    ·rw [if_neg h44] at hstep
     by_cases h93' : e.toNat = 93
     ·rw [if_pos h93'] at hstep
      repeat' (first | refine jM ?_ | (refine jo ?_;first | refine aP F ?_ | refine aE F ?_ | refine aC F ?_ | refine jF fun _=>?_ | refine bG F F F F F F F F F oM fun _ _=>?_ | refine jD F F F ?_) | refine aF F F (aA oM) ?_ | refine aw F F F ?_ | refine ac F (aA oM) ?_ | refine ad F (aH oM) ?_)
      rename_i y0 y1 yc
      rw [hrow]
      refine Nx.sealS (v:=.slice (some ⟨y1,0,none⟩) (ws.length + 1) yc) fun G2 hG2 hsl=>?_
      refine Nx.sealC (b:=x11) fun G3 hG3 hsg=>?_
      refine jZ (vs:=[_,_,_]) F ⟨F,F,F,trivial⟩ F ⟨((hgl.trans hG2).trans hG3),F,?_⟩
      rw [bI]
      exact ⟨_,_,_,F,fun _=>⟨.nd 91 [] 0 (ws ++ [w]),x11,F,by rw [hRl,hit,hstep];rfl,.lst k x11 _ (bs ++ [wb]) (some ⟨y1,0,none⟩) yc (by rw [hwl1];exact hsg) (by rw [hwl1];exact hsl.mono hG3) hbl1 (fun i hi=>(hrp i hi).mono (hG2.trans hG3))⟩,fun h=>(by cases h)⟩
     ·rw [if_neg h93'] at hstep
      repeat' (first | refine jM ?_ | (refine jo ?_;first | refine aP F ?_ | refine aE F ?_) | refine aF F F (aA oM) ?_ | refine aw F F F ?_ | refine ac F (aA oM) ?_)
      refine jZ (vs:=[_,_,_]) F ⟨F,F,F,trivial⟩ F ⟨hgl,F,?_⟩
      rw [bI]
      exact ⟨_,_,_,F,fun h=>(by cases h),fun _=>by rw [hRl,hit,hstep];rfl⟩
section
variable {P : Program} {n : Nat} {D : List Deferred} {E : bQ} {M : World → Prop} {d : Option Nat} {ty : TypeId} {pos : String} {aft : Array Edge} {gd : Option (Nat × Bool)}
theorem xp {T T0 : TypeId} {x : Operand} {desc : TypeDesc} {size bytes b m cap i : Nat} {zero : Value} {G0 : Gh} {L0 : List Own} {cs : List Int} {xs : List Value} {y : Int} [TI P T desc size bytes zero] [Kn M G0 L0] [h : AccB L0 b m cap T0 1 xs] (hx : ev E x = some (Pt b (0 + i * 1))) (ha : dQ desc = false) (hxs : xs = ag cL cs) (hi : i < cs.length) (hy : ab cs i = y) :
  Gives P n D E M ⟨d,.load T x,ty,pos,aft,gd⟩ (I y):=gh hx ha (by
 have:=(gJ (S:=M) h.mem).go (i * 1 + 0) (I y) (by rw [hxs,fY hi oM,hy];rfl)
 simpa using this)
end
def jk (fs : List (Fld × V)) : Int:=match fs.getLast? with
 | some p=>p.1.tag
 | none=>0
def iC (fs : List (Fld × V)) : List V:=fs.map fun p=>.nd 61 [] p.1.tag [p.2]
theorem wq (fs : List (Fld × V)) (p : Fld × V) : jk (fs ++ [p]) = p.1.tag:=by simp [jk]
abbrev zt : TypeId:=47
abbrev zw : TypeId:=3
abbrev tFd : TypeId:=136
abbrev abj : TypeId:=134
theorem xL {n : Nat} {u : Value} {vs : List cG} {x : cG} {k s : ael} (hR : ld n u vs) (h : SchR G u vs) (hw : SchW (ah vs)) (hx : x ∈ vs) (hrf : aZ (ah vs) k = some x.2) (hso : x.2.sort = 82) (hs : s.length ≤ 2000000) (hn : n ≤ 1000) (hkl : k.length ≤ 1000) :
  bJ aek 137 [Ag [u],S s,S k,Ag (kp x),I (n + 1 : Nat)] G (fc (ah vs) (bA (ah vs) (rd (ah vs) n) x.2 (123 :: s)) k):=by
 have edn : ((n + 1 : Nat) : Int) - 1 = (n : Nat):=oM
 have hxt : x.2 ∈ ah vs:=List.mem_map_of_mem hx
 have hTW:=hw.ty _ hxt
 have hfl:=hTW.len
 by_cases h125 : ∃ s2,s = 125 :: s2
 ·obtain ⟨s2,rfl⟩:=h125
  have hgood : bA (ah vs) (rd (ah vs) n) x.2 (123 :: 125 :: s2) = some (.nd 82 [] 0 [],s2):=by
   unfold bA
   dsimp only
   rw [if_pos hso,if_pos (show (123 : UInt8).toNat = 123 from rfl),if_pos (show (125 : UInt8).toNat = 125 from rfl)]
  refine jB [(0,_),(1,_),(2,_),(3,_),(4,_)] Tryz.func137 Tryz.ntmps137 fun B hok hB hW=>?_
  repeat' (first | refine jX ?_ | (refine jo ?_;first | refine jO fun _=>?_ | refine jV (ay F F) ?_ | refine aP F ?_) | refine aF F F F ?_ | refine ac F F ?_ | (refine an (ao (id:=3) _ (fun _ h=>h) am ?_);refine jW 0 [0,1,2,3,4,5] (aa 6 63) ?_;refine jQ ?_))
  rename_i x5 x8 x13
  refine Nx.sealC (b:=x13) fun G2 hG2 hsy=>?_
  refine jZ (vs:=[_,_,_]) F ⟨F,F,F,trivial⟩ F ⟨hG2,F,?_⟩
  rw [bI]
  exact ⟨_,_,_,F,fun _=>⟨.nd 82 [] 0 [],x13,F,hgood,.recd k x13 x.2 [] [] none none 0 0 ⟨hrf,hso⟩ hsy ⟨F,.inl ⟨F,F⟩⟩ ⟨F,.inl ⟨F,F⟩⟩ F (fun i hi=>absurd hi (by simp)) (fun i hi=>absurd hi (by simp))⟩,fun h=>(by cases h)⟩
 have hRl : bA (ah vs) (rd (ah vs) n) x.2 (123 :: s) = (ck (ah vs) (rd (ah vs) n) x.2 (s.length + 1) 0 s []).map fun x=>(.nd 82 [] 0 x.1,x.2):=by
  unfold bA
  dsimp only
  rw [if_pos hso,if_pos (show (123 : UInt8).toNat = 123 from rfl)]
  cases s with
  | nil=>rw [eM lh];rfl
  | cons e r' =>
   dsimp only
   rw [if_neg]
   intro h;exact h125 ⟨r',by rw [show e = 125 from UInt8.toNat_inj.1 h]⟩
 have hs0 : s = [] ∨ s ≠ [] ∧ ¬ ((bt s (Int.toNat 0) : Nat) : Int) = 125:=by
  cases s with
  | nil=>exact .inl F
  | cons e r' =>
   refine .inr ⟨by simp,fun h=>h125 ⟨r',?_⟩⟩
   have : bt (e :: r') (Int.toNat 0) = e.toNat:=bH e r'
   rw [show e = 125 from UInt8.toNat_inj.1 (show e.toNat = 125 by omega)]
 have hslen : s = [] ∨ 0 < s.length:=by cases s <;> simp
 rcases hs0 with hs0 | ⟨hs0,hs1⟩
 ·subst hs0
  have cx_tg:=sD (G:=G) (u:=u) (x:=x) (s:=[]) (by simp) h.sl.one (h.fl x hx) oM
  have e0 : aQ (([] : ael).takeWhile bn) 200 = none:=by
   cases h : aQ (([] : ael).takeWhile bn) 200 with
   | none=>rfl
   | some m =>
    have:=(en h).2.1
    have h2:=gH m
    rw [← this] at h2;simp at h2
  rw [e0] at cx_tg
  refine jB [(0,_),(1,_),(2,_),(3,_),(4,_)] Tryz.func137 Tryz.ntmps137 fun B hok hB hW=>?_
  repeat' (first | refine jR ?_ | (refine jo ?_;first | refine jO fun _=>?_ | refine jV (ay F F) ?_ | refine aE F ?_) | refine aw F F F ?_ | refine ad F F ?_)
  rename_i x5 x8 x13
  refine aW (ι:=Unit) (fun i=>True) (fun i=>[(1,S []),(2,S k),(4,I (n + 1 : Nat)),(5,Pt x5 0),(8,Pt x8 0),(13,Pt x13 0)]) (fun _=>G) (fun i=>[.blk x13 (.cells (List.toArray [S k,S [82],aK,aK]) od (0,0)),.blk x8 (.cells (List.toArray [U8 x.2.sort,S x.2.name,gx x]) abj (0,0)),.blk x5 (.cells (List.toArray [u]) tRd (0,0))]) (fun i=>0) () ?_ tU F bc (fun i Hi=>?_)
  ·trivial
  repeat' (first | refine jR ?_ | (refine jo ?_;first | refine bO F ?_ | refine jL fun _=>?_ | refine jC F F F ?_ | (refine eE F F F cx_tg F ?_;rintro _ ⟨nt,rfl,hnt⟩)) | refine ac F F ?_ | (refine an (ao (id:=5) _ (fun _ h=>h) am ?_);refine jT 33 [0,1,2] (aa 36 7) ?_;(try (refine Nx.re (d:=43) (v':=Bo true) F (congrArg Value.bool F) ?_));refine jT 31 [3,4] (aa 36 31) ?_;(refine jG (aa 36 63) 5 F (bR F F F) ?_);refine jT 29 [6] (aa 36 127) ?_;(try (refine Nx.re (d:=47) (v':=Bo true) F (congrArg Value.bool F) ?_));refine jT 26 [7,8,9] (aa 36 1023) ?_;(refine jG (aa 36 2047) 10 F (bR F F F) ?_);refine jT 24 [11] (aa 36 4095) ?_;(try (refine Nx.re (d:=52) (v':=Bo true) F (congrArg Value.bool F) ?_));refine jT 21 [12,13,14] (aa 36 32767) ?_;(refine jN (aa 36 65535) 15 F ?_);(refine jN (aa 36 131071) 16 F ?_);refine jT 17 [17,18] (aa 36 524287) ?_;(try (fail));refine jT 10 [19,20,21,23,24,25,31] (aa 36 2210398207) ?_;(refine jN (aa 36 2214592511) 22 F ?_);(refine jN (aa 36 2281701375) 26 F ?_);(refine jN (aa 36 2415919103) 27 F ?_);refine jT 6 [28] (aa 36 2684354559) ?_;(refine jN (aa 36 3221225471) 29 F ?_);(refine jN (aa 36 4294967295) 30 F ?_);(refine jN (aa 36 8589934591) 32 F ?_);refine jT 2 [33] (aa 36 17179869183) ?_;(refine jN (aa 36 34359738367) 34 F ?_);(refine jG (aa 36 68719476735) 35 F (bR F F F) ?_);refine jQ ?_))
  all_goals refine jZ (vs:=[_,_,_]) F ⟨F,F,F,trivial⟩ F ⟨Gh.le.refl _,F,?_⟩
  all_goals (rw [bI];exact ⟨_,_,_,F,fun h=>(by cases h),fun _=>by rw [hRl,eM lh];rfl⟩)
 ·have hslen3 : 0 < s.length:=List.length_pos_iff.2 hs0
  refine jB [(0,_),(1,_),(2,_),(3,_),(4,_)] Tryz.func137 Tryz.ntmps137 fun B hok hB hW=>?_
  repeat' (first | refine jM ?_ | (refine jo ?_;first | refine jO fun _=>?_ | refine jV (ay F F) ?_ | refine aP F ?_) | refine aF F F (aA ‹_›) ?_ | refine ad F (aH ‹_›) ?_)
  rename_i x5 x8 x13
  refine Nx.addNil zw 1 (Nx.addNil zt 1 ?_)
  refine aW (ι:=List (Fld × V) × List Nat × Option Addr × Nat × Option Addr × Nat × ael × Nat × Gh) (fun q=>((q.2.1.length = q.1.length ∧ (∀ i,i < q.1.length → (ab q.1 i).1 ∈ x.2.fields) ∧ ∀ i,i < q.1.length → RepR q.2.2.2.2.2.2.2.2 (ah vs) (ab q.1 i).2 (ab q.1 i).1.kind (ab q.2.1 i)) ∧ Gh.le G q.2.2.2.2.2.2.2.2) ∧ (ck (ah vs) (rd (ah vs) n) x.2 (s.length + 1) 0 s [] = ck (ah vs) (rd (ah vs) n) x.2 q.2.2.2.2.2.2.2.1 (jk q.1) q.2.2.2.2.2.2.1 (iC q.1) ∧ q.2.2.2.2.2.2.1.length < q.2.2.2.2.2.2.2.1) ∧ q.2.2.2.2.2.2.1.length ≤ s.length ∧ q.1.length + q.2.2.2.2.2.2.1.length ≤ s.length) (fun q=>[(1,S q.2.2.2.2.2.2.1),(2,S k),(4,I (n + 1 : Nat)),(5,Pt x5 0),(8,Pt x8 0),(13,Pt x13 0)]) (fun q=>q.2.2.2.2.2.2.2.2) (fun q=>[.acc (.slice q.2.2.2.2.1 q.1.length q.2.2.2.2.2.1) zt 1 q.1.length (ag dH q.2.1),.acc (.slice q.2.2.1 q.1.length q.2.2.2.1) zw 1 q.1.length (ag cL (q.1.map fun p=>p.1.tag)),.blk x13 (.cells (List.toArray [S k,S [82],.slice q.2.2.1 q.1.length q.2.2.2.1,.slice q.2.2.2.2.1 q.1.length q.2.2.2.2.2.1]) od (0,0)),.blk x8 (.cells (List.toArray [U8 x.2.sort,S x.2.name,gx x]) abj (0,0)),.blk x5 (.cells (List.toArray [u]) tRd (0,0))]) (fun q=>q.2.2.2.2.2.2.1.length) ([],[],none,0,none,0,s,s.length + 1,G) ?_ tU F bc (fun q Hq=>?_)
  ·exact ⟨⟨⟨F,fun i hi=>absurd hi (by simp),fun i hi=>absurd hi (by simp)⟩,Gh.le.refl _⟩,⟨F,Nat.lt_succ_self _⟩,Nat.le_refl _,by simp⟩
  obtain ⟨fs,bs,a1,c1,a2,c2,t,m,Gq⟩:=q
  dsimp only at Hq ⊢
  obtain ⟨⟨⟨hbl,hfm,hreps⟩,hgq⟩,⟨hit,htm⟩,htl,hft⟩:=Hq
  have cx_tg:=sD (G:=Gq) (u:=u) (x:=x) (s:=t) oM h.sl.one ((h.mono hgq).fl x hx) oM
  repeat' (first | refine jR ?_ | (refine jo ?_;first | refine bO F ?_ | refine jL fun _=>?_ | refine jC F F F ?_ | (refine eE F F F cx_tg F ?_;rintro _ ⟨nt,rfl,hnt⟩)))
  have hnone : ∀ {v : Value} {G' : Gh} {r : ael},ck (ah vs) (rd (ah vs) n) x.2 m (jk fs) t (iC fs) = none → v = Tu [.pointer none,S r,Bo false] → fc (ah vs) (bA (ah vs) (rd (ah vs) n) x.2 (123 :: s)) k v G':=fun h1 h2=>⟨_,_,_,h2,fun h=>(by cases h),fun _=>by rw [hRl,hit,h1];rfl⟩
  cases hb16 : (aQ (t.takeWhile bn) 200).isSome && (cm x.2.fields nt).isSome with
  | false =>
   have hno : aY (rd (ah vs) n) x.2 t = none:=by
    cases hm : aQ (t.takeWhile bn) 200 with
    | none=>exact f8 (.inl hm)
    | some m0 =>
     refine f8 (.inr ⟨m0,hm,?_⟩)
     rw [hm] at hb16
     rw [← hnt m0 hm]
     cases hf : cm x.2.fields nt with
     | none=>rfl
     | some d=>rw [hf] at hb16;cases hb16
   (refine an (ao (id:=5) _ (fun _ h=>h) am ?_);refine jT 33 [0,1,2] (aa 36 7) ?_;(try (refine Nx.re (d:=43) (v':=Bo true) F (congrArg Value.bool F) ?_));refine jT 31 [3,4] (aa 36 31) ?_;(refine jG (aa 36 63) 5 F (bR F F F) ?_);refine jT 29 [6] (aa 36 127) ?_;(try (refine Nx.re (d:=47) (v':=Bo true) F (congrArg Value.bool F) ?_));refine jT 26 [7,8,9] (aa 36 1023) ?_;(refine jG (aa 36 2047) 10 F (bR F F F) ?_);refine jT 24 [11] (aa 36 4095) ?_;(try (refine Nx.re (d:=52) (v':=Bo true) F (congrArg Value.bool F) ?_));refine jT 21 [12,13,14] (aa 36 32767) ?_;(refine jN (aa 36 65535) 15 F ?_);(refine jN (aa 36 131071) 16 F ?_);refine jT 17 [17,18] (aa 36 524287) ?_;(try (fail));refine jT 10 [19,20,21,23,24,25,31] (aa 36 2210398207) ?_;(refine jN (aa 36 2214592511) 22 F ?_);(refine jN (aa 36 2281701375) 26 F ?_);(refine jN (aa 36 2415919103) 27 F ?_);refine jT 6 [28] (aa 36 2684354559) ?_;(refine jN (aa 36 3221225471) 29 F ?_);(refine jN (aa 36 4294967295) 30 F ?_);(refine jN (aa 36 8589934591) 32 F ?_);refine jT 2 [33] (aa 36 17179869183) ?_;(refine jN (aa 36 34359738367) 34 F ?_);(refine jG (aa 36 68719476735) 35 F (bR F F F) ?_);refine jQ ?_)
   repeat' (first | refine jR ?_ | refine ac F F ?_)
   all_goals refine jZ (vs:=[_,_,_]) F ⟨F,F,F,trivial⟩ F ⟨hgq,F,?_⟩
   all_goals exact hnone (eM hno) F
  | true =>
   simp only [Bool.and_eq_true] at hb16
   obtain ⟨hb1,hb2⟩:=hb16
   obtain ⟨m0,hm⟩:=Option.isSome_iff_exists.1 hb1
   obtain ⟨d,hd⟩:=Option.isSome_iff_exists.1 hb2
   have hnm:=hnt m0 hm
   subst hnm
   rw [hd]
   simp only [Option.getD_some]
   have hdm : d ∈ x.2.fields:=List.mem_of_find?_eq_some hd
   have hdt : d.tag = nt:=by have:=List.find?_some hd;simpa using this
   have hwl:=eJ bn t
   cases hdw : t.dropWhile bn with
   | nil =>
    have hno : aY (rd (ah vs) n) x.2 t = none:=iH hm (fun s2 h=>by rw [hdw] at h;cases h)
    (refine an (ao (id:=5) _ (fun _ h=>h) am ?_);refine jT 33 [0,1,2] (aa 36 7) ?_;(try (refine Nx.re (d:=43) (v':=Bo false) F (congrArg Value.bool F) ?_));refine jT 31 [3,4] (aa 36 31) ?_;(refine jG (aa 36 63) 5 F (bm F F F) ?_);refine jT 29 [6] (aa 36 127) ?_;(try (refine Nx.re (d:=47) (v':=Bo true) F (congrArg Value.bool F) ?_));refine jT 26 [7,8,9] (aa 36 1023) ?_;(refine jG (aa 36 2047) 10 F (bR F F F) ?_);refine jT 24 [11] (aa 36 4095) ?_;(try (refine Nx.re (d:=52) (v':=Bo true) F (congrArg Value.bool F) ?_));refine jT 21 [12,13,14] (aa 36 32767) ?_;(refine jN (aa 36 65535) 15 F ?_);(refine jN (aa 36 131071) 16 F ?_);refine jT 17 [17,18] (aa 36 524287) ?_;(try (fail));refine jT 10 [19,20,21,23,24,25,31] (aa 36 2210398207) ?_;(refine jN (aa 36 2214592511) 22 F ?_);(refine jN (aa 36 2281701375) 26 F ?_);(refine jN (aa 36 2415919103) 27 F ?_);refine jT 6 [28] (aa 36 2684354559) ?_;(refine jN (aa 36 3221225471) 29 F ?_);(refine jN (aa 36 4294967295) 30 F ?_);(refine jN (aa 36 8589934591) 32 F ?_);refine jT 2 [33] (aa 36 17179869183) ?_;(refine jN (aa 36 34359738367) 34 F ?_);(refine jG (aa 36 68719476735) 35 F (bR F F F) ?_);refine jQ ?_)
    repeat' (first | refine jR ?_ | refine ac F F ?_)
    all_goals refine jZ (vs:=[_,_,_]) F ⟨F,F,F,trivial⟩ F ⟨hgq,F,?_⟩
    all_goals exact hnone (eM hno) F
   | cons e r2 =>
    have he0 : bt (e :: r2) (Int.toNat 0) = e.toNat:=bH e r2
    have hel : (e :: r2).length = r2.length + 1:=rfl
    by_cases h61 : e.toNat = 61
    case neg =>
     have hno : aY (rd (ah vs) n) x.2 t = none:=iH hm (fun s2 h=>by rw [hdw] at h;simp only [List.cons.injEq] at h;exact h61 (by rw [h.1];rfl))
     (refine an (ao (id:=5) _ (fun _ h=>h) am ?_);refine jT 33 [0,1,2] (aa 36 7) ?_;(try (refine Nx.re (d:=43) (v':=Bo false) F (congrArg Value.bool F) ?_));refine jT 31 [3,4] (aa 36 31) ?_;(refine jG (aa 36 63) 5 F (bm F F F) ?_);refine jT 29 [6] (aa 36 127) ?_;(try (refine Nx.re (d:=47) (v':=Bo false) F (congrArg Value.bool F) ?_));refine jW 26 [7,8,9] (aa 36 1023) ?_;(refine jG (aa 36 2047) 10 F (bm F F F) ?_);refine jT 24 [11] (aa 36 4095) ?_;(try ((refine Nx.re (d:=52) (v':=Bo true) F (congrArg Value.bool (aA oM)) ?_)));refine jT 21 [12,13,14] (aa 36 32767) ?_;(refine jN (aa 36 65535) 15 F ?_);(refine jN (aa 36 131071) 16 F ?_);refine jT 17 [17,18] (aa 36 524287) ?_;(try (fail));refine jT 10 [19,20,21,23,24,25,31] (aa 36 2210398207) ?_;(refine jN (aa 36 2214592511) 22 F ?_);(refine jN (aa 36 2281701375) 26 F ?_);(refine jN (aa 36 2415919103) 27 F ?_);refine jT 6 [28] (aa 36 2684354559) ?_;(refine jN (aa 36 3221225471) 29 F ?_);(refine jN (aa 36 4294967295) 30 F ?_);(refine jN (aa 36 8589934591) 32 F ?_);refine jT 2 [33] (aa 36 17179869183) ?_;(refine jN (aa 36 34359738367) 34 F ?_);(refine jG (aa 36 68719476735) 35 F (bR F F F) ?_);refine jQ ?_)
     repeat' (first | refine jR ?_ | refine ac F F ?_)
     all_goals refine jZ (vs:=[_,_,_]) F ⟨F,F,F,trivial⟩ F ⟨hgq,F,?_⟩
     all_goals exact hnone (eM hno) F
    have he61 : e = 61:=UInt8.toNat_inj.1 h61
    have hfs:=mq (f:=rd (ah vs) n) (t:=x.2) (s:=t) hm hd (by rw [hdw,he61])
    have hm0 : 0 < m:=oM
    have hflt : (fs.map fun p : Fld × V=>p.1.tag).length = fs.length:=by simp
    have hdt1:=((hTW.fld d hdm).tag).1
    have hlast0 : fs.length = 0 → jk fs = 0:=fun h0=>by rw [List.length_eq_zero_iff.1 h0];rfl
    have hlast1 : 0 < fs.length → ab (fs.map fun p : Fld × V=>p.1.tag) (((fs.length : Nat) : Int) - 1).toNat = jk fs:=fun h0=>by
     have e1 : (((fs.length : Nat) : Int) - 1).toNat = fs.length - 1:=oM
     rw [e1,aI (by rw [hflt];omega)]
     unfold jk
     rw [List.getLast?_eq_getElem?,List.getElem?_eq_getElem oM]
     simp
    rename_i x14
    have hf0 : fs.length = 0 ∨ 0 < fs.length:=oM
    by_cases hlt : d.tag ≤ jk fs
    ·have hpos : 0 < fs.length:=by
      rcases hf0 with h0 | h0
      ·have:=hlast0 h0;omega
      ·exact h0
     have hyl:=hlast1 hpos
     have hno : ck (ah vs) (rd (ah vs) n) x.2 m (jk fs) t (iC fs) = none:=by
      cases hy : rd (ah vs) n d.kind r2 with
      | none=>exact eM (by rw [hfs,hy];rfl)
      | some y =>
       obtain ⟨w,r3⟩:=y
       rw [k4 (d:=d) (v:=w) (r:=r3) (by rw [hfs,hy];rfl) hm0,if_pos (.inl hlt)]
     refine Nx.shp (v:=.slice a1 fs.length c1) (.tail _ (.tail _ (.head _))) fun hsh=>?_
     obtain ⟨tb1,tc1,e1⟩:=hsh.pos oM
     simp only [Value.slice.injEq] at e1
     obtain ⟨rfl,-,rfl⟩:=e1
     (refine an (ao (id:=5) _ (fun _ h=>h) am ?_);refine jT 33 [0,1,2] (aa 36 7) ?_;(try (refine Nx.re (d:=43) (v':=Bo false) F (congrArg Value.bool F) ?_));refine jT 31 [3,4] (aa 36 31) ?_;(refine jG (aa 36 63) 5 F (bm F F F) ?_);refine jT 29 [6] (aa 36 127) ?_;(try (refine Nx.re (d:=47) (v':=Bo false) F (congrArg Value.bool F) ?_));refine jW 26 [7,8,9] (aa 36 1023) ?_;(refine jG (aa 36 2047) 10 F (bm F F F) ?_);refine jT 24 [11] (aa 36 4095) ?_;(try ((refine Nx.re (d:=52) (v':=Bo false) F (congrArg Value.bool (aH oM)) ?_)));refine jT 21 [12,13,14] (aa 36 32767) ?_;(refine jG (aa 36 65535) 15 F (aV F F F) ?_);(refine jG (aa 36 131071) 16 F (af F) ?_);refine jT 17 [17,18] (aa 36 524287) ?_;(try ((refine Nx.re (d:=59) (v':=Bo true) F (congrArg Value.bool (aA oM)) ?_)));refine jT 10 [19,20,21,23,24,25,31] (aa 36 2210398207) ?_;(refine jG (aa 36 2214592511) 22 F (aV F F F) ?_);(refine jG (aa 36 2281701375) 26 F (aV F F F) ?_);(refine jG (aa 36 2415919103) 27 F (af F) ?_);refine jW 6 [28] (aa 36 2684354559) ?_;(refine jG (aa 36 3221225471) 29 F (aT F F oM) ?_);((refine jG (aa 36 4294967295) 30 F (xp F F F ?_ aS) ?_;focus omega));(refine jG (aa 36 8589934591) 32 F (aV F F F) ?_);refine jT 2 [33] (aa 36 17179869183) ?_;(refine jG (aa 36 34359738367) 34 F (bR F F F) ?_);(refine jG (aa 36 68719476735) 35 F (bm F F F) ?_);refine jQ ?_)
     repeat' (first | refine jR ?_ | refine ac F (aA ‹_›) ?_)
     all_goals refine jZ (vs:=[_,_,_]) F ⟨F,F,F,trivial⟩ F ⟨hgq,F,?_⟩
     all_goals exact hnone hno F
    have hSq:=h.mono hgq
    have hdk : ax (ah vs) d.kind = true:=d6 hw hxt oM hdm
    rw [hdw,List.length_cons] at hwl
    have cx_rd:=hR Gq d.kind r2 hSq hdk oM
    rw [← edn] at cx_rd
    rcases hf0 with hf0 | hf0
    rotate_left
    have hyl:=hlast1 hf0
    refine Nx.shp (v:=.slice a1 fs.length c1) (.tail _ (.tail _ (.head _))) fun hsh=>?_
    obtain ⟨tb1,tc1,e1⟩:=hsh.pos oM
    simp only [Value.slice.injEq] at e1
    obtain ⟨rfl,-,rfl⟩:=e1
    all_goals
     (refine an (ao (id:=5) _ (fun _ h=>h) am ?_);refine jT 33 [0,1,2] (aa 36 7) ?_;(try (refine Nx.re (d:=43) (v':=Bo false) F (congrArg Value.bool F) ?_));refine jT 31 [3,4] (aa 36 31) ?_;(refine jG (aa 36 63) 5 F (bm F F F) ?_);refine jT 29 [6] (aa 36 127) ?_;(try (refine Nx.re (d:=47) (v':=Bo false) F (congrArg Value.bool F) ?_));refine jW 26 [7,8,9] (aa 36 1023) ?_;(refine jG (aa 36 2047) 10 F (bm F F F) ?_);refine jT 24 [11] (aa 36 4095) ?_;(try ((refine Nx.re (d:=52) (v':=Bo false) F (congrArg Value.bool (aH oM)) ?_)));refine jT 21 [12,13,14] (aa 36 32767) ?_;(refine jG (aa 36 65535) 15 F (aV F F F) ?_);(refine jG (aa 36 131071) 16 F (af F) ?_);refine jT 17 [17,18] (aa 36 524287) ?_;(try (first | (refine Nx.re (d:=59) (v':=Bo true) F (congrArg Value.bool (aA oM)) ?_) | (refine Nx.re (d:=59) (v':=Bo false) F (congrArg Value.bool (aH oM)) ?_)));refine jT 10 [19,20,21,23,24,25,31] (aa 36 2210398207) ?_;(first | refine jG (aa 36 2214592511) 22 F (aV F F F) ?_ | refine jN (aa 36 2214592511) 22 F ?_);(first | refine jG (aa 36 2281701375) 26 F (aV F F F) ?_ | refine jN (aa 36 2281701375) 26 F ?_);(first | refine jG (aa 36 2415919103) 27 F (af F) ?_ | refine jN (aa 36 2415919103) 27 F ?_);refine jW 6 [28] (aa 36 2684354559) ?_;(first | refine jG (aa 36 3221225471) 29 F (aT F F oM) ?_ | refine jN (aa 36 3221225471) 29 F ?_);(first | (refine jG (aa 36 4294967295) 30 F (xp F F F ?_ aS) ?_;focus omega) | refine jN (aa 36 4294967295) 30 F ?_);(first | refine jG (aa 36 8589934591) 32 F (aV F F F) ?_ | refine jN (aa 36 8589934591) 32 F ?_);refine jT 2 [33] (aa 36 17179869183) ?_;(first | refine jG (aa 36 34359738367) 34 F (bR F F F) ?_ | refine jG (aa 36 34359738367) 34 F (bm F F F) ?_);(refine jG (aa 36 68719476735) 35 F (bm F F F) ?_);refine jQ ?_)
     repeat' (first | refine jR ?_ | (refine ad F (by first | rfl | (refine decide_eq_false ?_;(assumption))) ?_))
     (refine an (ao (id:=7) _ (fun _ h=>h) am ?_);refine jW 10 [1,2,3,5,6] (aa 15 110) ?_;(refine jG (aa 15 111) 0 F (bS F F F F) ?_);(refine jG (aa 15 127) 4 F (aV F F F) ?_);refine jA 7 F ?_;(refine ar F F F cx_rd F ?_;rintro _ G hle ⟨q1,r1,ok1,rfl,hyes,hno⟩;skip);refine jS (aa 15 255) ?_;refine jT 0 [8,9,10,11,12,13,14] (aa 15 32767) ?_;refine jQ ?_)
     repeat' (refine jR ?_)
     have hgl:=hgq.trans hle
     cases ok1 with
     | false =>
      have hno2 : aY (rd (ah vs) n) x.2 t = none:=by rw [hfs,hno rfl];rfl
      (refine an (ao (id:=8) _ (fun _ h=>h) am ?_);refine jT 22 [0,1,2] (aa 25 7) ?_;(try (refine Nx.re (d:=92) (v':=Bo true) F (congrArg Value.bool F) ?_));refine jT 20 [3,5] (aa 25 47) ?_;(refine jN (aa 25 111) 6 F ?_);(refine jN (aa 25 239) 7 F ?_);(refine jN (aa 25 255) 4 F ?_);(refine jN (aa 25 511) 8 F ?_);refine jT 15 [9] (aa 25 1023) ?_;(refine jG (aa 25 2047) 10 F (bR F F F) ?_);refine jT 13 [11] (aa 25 4095) ?_;(try (refine Nx.re (d:=101) (v':=Bo true) F (congrArg Value.bool F) ?_));refine jT 11 [12,13] (aa 25 16383) ?_;(refine jG (aa 25 32767) 14 F (bR F F F) ?_);refine jT 9 [15] (aa 25 65535) ?_;(try (refine Nx.re (d:=105) (v':=Bo true) F (congrArg Value.bool F) ?_));refine jT 5 [16,17,18,19] (aa 25 1048575) ?_;(try (fail));refine jT 2 [20,21,22] (aa 25 8388607) ?_;(refine jN (aa 25 16777215) 23 F ?_);(refine jG (aa 25 33554431) 24 F (bR F F F) ?_);refine jQ ?_)
      repeat' (first | refine jR ?_ | refine ac F F ?_)
      all_goals refine jZ (vs:=[_,_,_]) F ⟨F,F,F,trivial⟩ F ⟨hgl,F,?_⟩
      all_goals exact hnone (eM hno2) F
     | true =>
      obtain ⟨w,wb,rfl,hf,hrep⟩:=hyes rfl
      have hsh:=iX hf
      have htt:=gB _ _ _ _ hf
      dsimp only at htt hsh
      have hob:=l8 hw hrep
      unfold iP at hob
      have cx_out:=gj hw hrep oM
      have cx_sta:=mC (f:=d) (h.mono hgl) hw hdk
      have hfd : aY (rd (ah vs) n) x.2 t = some ((d,w),r1):=by rw [hfs,hf];rfl
      have hst:=k4 (ts:=ah vs) (vs:=iC fs) (last:=jk fs) hfd hm0
      by_cases heq : w.out = bT (ah vs) d
      ·rw [if_pos (.inr heq)] at hst
       (refine an (ao (id:=8) _ (fun _ h=>h) am ?_);refine jT 22 [0,1,2] (aa 25 7) ?_;(try (refine Nx.re (d:=92) (v':=Bo false) F (congrArg Value.bool F) ?_));refine jT 20 [3,5] (aa 25 47) ?_;(refine jG (aa 25 111) 6 F (aV F F F) ?_);(refine jG (aa 25 239) 7 F (bS F F F F) ?_);(refine jA 4 F ?_;(refine ae F F F cx_out F ?_);refine jS (aa 25 255) ?_);(refine jA 8 F ?_;(refine ae F F F cx_sta F ?_);refine jS (aa 25 511) ?_);refine jT 15 [9] (aa 25 1023) ?_;(refine jG (aa 25 2047) 10 F (bm F F F) ?_);refine jT 13 [11] (aa 25 4095) ?_;(try (refine Nx.re (d:=101) (v':=Bo true) F (congrArg Value.bool (aA ‹_›)) ?_));refine jT 11 [12,13] (aa 25 16383) ?_;(refine jG (aa 25 32767) 14 F (bR F F F) ?_);refine jT 9 [15] (aa 25 65535) ?_;(try (refine Nx.re (d:=105) (v':=Bo true) F (congrArg Value.bool F) ?_));refine jT 5 [16,17,18,19] (aa 25 1048575) ?_;(try (fail));refine jT 2 [20,21,22] (aa 25 8388607) ?_;(refine jN (aa 25 16777215) 23 F ?_);(refine jG (aa 25 33554431) 24 F (bR F F F) ?_);refine jQ ?_)
       repeat' (first | refine jR ?_ | refine ac F F ?_)
       all_goals refine jZ (vs:=[_,_,_]) F ⟨F,F,F,trivial⟩ F ⟨hgl,F,?_⟩
       all_goals exact hnone hst F
      rw [if_neg (fun h=>by rcases h with h | h;exact hlt h;exact heq h)] at hst
      cases r1 with
      | nil =>
       (refine an (ao (id:=8) _ (fun _ h=>h) am ?_);refine jT 22 [0,1,2] (aa 25 7) ?_;(try (refine Nx.re (d:=92) (v':=Bo false) F (congrArg Value.bool F) ?_));refine jT 20 [3,5] (aa 25 47) ?_;(refine jG (aa 25 111) 6 F (aV F F F) ?_);(refine jG (aa 25 239) 7 F (bS F F F F) ?_);(refine jA 4 F ?_;(refine ae F F F cx_out F ?_);refine jS (aa 25 255) ?_);(refine jA 8 F ?_;(refine ae F F F cx_sta F ?_);refine jS (aa 25 511) ?_);refine jT 15 [9] (aa 25 1023) ?_;(refine jG (aa 25 2047) 10 F (bm F F F) ?_);refine jT 13 [11] (aa 25 4095) ?_;(try (refine Nx.re (d:=101) (v':=Bo false) F (congrArg Value.bool (aH ‹_›)) ?_));refine jT 11 [12,13] (aa 25 16383) ?_;(refine jG (aa 25 32767) 14 F (bm F F F) ?_);refine jT 9 [15] (aa 25 65535) ?_;(try (refine Nx.re (d:=105) (v':=Bo true) F (congrArg Value.bool F) ?_));refine jT 5 [16,17,18,19] (aa 25 1048575) ?_;(try (fail));refine jT 2 [20,21,22] (aa 25 8388607) ?_;(refine jN (aa 25 16777215) 23 F ?_);(refine jG (aa 25 33554431) 24 F (bR F F F) ?_);refine jQ ?_)
       repeat' (first | refine jR ?_ | refine ac F F ?_)
       all_goals refine jZ (vs:=[_,_,_]) F ⟨F,F,F,trivial⟩ F ⟨hgl,F,?_⟩
       all_goals exact hnone hst F
      | cons e2 r3 =>
       have he20 : bt (e2 :: r3) (Int.toNat 0) = e2.toNat:=bH e2 r3
       have hel2 : (e2 :: r3).length = r3.length + 1:=rfl
       have hl' : (fs ++ [(d,w)]).length = fs.length + 1:=by simp
       have hbl' : (bs ++ [wb]).length = (fs ++ [(d,w)]).length:=by simp [hbl]
       have hnth : ∀ i,i < (fs ++ [(d,w)]).length → (i < fs.length ∧ ab (fs ++ [(d,w)]) i = ab fs i ∧ ab (bs ++ [wb]) i = ab bs i) ∨ (ab (fs ++ [(d,w)]) i = (d,w) ∧ ab (bs ++ [wb]) i = wb):=fun i hi=>by
        by_cases h1 : i < fs.length
        ·exact .inl ⟨h1,by rw [aI hi,aI h1,List.getElem_append_left h1],by rw [aI oM,aI oM,List.getElem_append_left oM]⟩
        ·have h2 : i = fs.length:=oM
         exact .inr ⟨by rw [aI hi];simp [h2],by rw [aI oM];simp [h2,hbl]⟩
       have hfm' : ∀ i,i < (fs ++ [(d,w)]).length → (ab (fs ++ [(d,w)]) i).1 ∈ x.2.fields:=fun i hi=>by
        rcases hnth i hi with ⟨h1,h2,_⟩ | ⟨h2,_⟩
        ·rw [h2];exact hfm i h1
        ·rw [h2];exact hdm
       have hreps' : ∀ i,i < (fs ++ [(d,w)]).length → RepR G (ah vs) (ab (fs ++ [(d,w)]) i).2 (ab (fs ++ [(d,w)]) i).1.kind (ab (bs ++ [wb]) i):=fun i hi=>by
        rcases hnth i hi with ⟨h1,h2,h3⟩ | ⟨h2,h3⟩
        ·rw [h2,h3];exact (hreps i h1).mono hle
        ·rw [h2,h3];exact hrep
       have hrow1 : ag cL (fs.map fun p=>p.1.tag) ++ [I d.tag] = ag cL ((fs ++ [(d,w)]).map fun p=>p.1.tag):=by rw [List.map_append];exact (bX cL _ d.tag).symm
       have hrow2 : ag dH bs ++ [Pt wb 0] = ag dH (bs ++ [wb]):=(bX dH bs wb).symm
       have hnd : iC (fs ++ [(d,w)]) = iC fs ++ [.nd 61 [] d.tag [w]]:=by simp [iC]
       dsimp only at hst
       by_cases h44 : e2.toNat = 44
       ·rw [if_pos h44] at hst
        have hn93 : ¬ e2.toNat = 125:=oM
        (refine an (ao (id:=8) _ (fun _ h=>h) am ?_);refine jT 22 [0,1,2] (aa 25 7) ?_;(try (refine Nx.re (d:=92) (v':=Bo false) F (congrArg Value.bool F) ?_));refine jT 20 [3,5] (aa 25 47) ?_;(refine jG (aa 25 111) 6 F (aV F F F) ?_);(refine jG (aa 25 239) 7 F (bS F F F F) ?_);(refine jA 4 F ?_;(refine ae F F F cx_out F ?_);refine jS (aa 25 255) ?_);(refine jA 8 F ?_;(refine ae F F F cx_sta F ?_);refine jS (aa 25 511) ?_);refine jT 15 [9] (aa 25 1023) ?_;(refine jG (aa 25 2047) 10 F (bm F F F) ?_);refine jT 13 [11] (aa 25 4095) ?_;(try (refine Nx.re (d:=101) (v':=Bo false) F (congrArg Value.bool (aH ‹_›)) ?_));refine jT 11 [12,13] (aa 25 16383) ?_;(refine jG (aa 25 32767) 14 F (bm F F F) ?_);refine jT 9 [15] (aa 25 65535) ?_;(try (refine Nx.re (d:=105) (v':=Bo false) F (congrArg Value.bool F) ?_));refine jW 5 [16,17,18,19] (aa 25 1048575) ?_;(try ((refine Nx.re (d:=109) (v':=Bo false) F (congrArg Value.bool (aH oM)) ?_)));refine jT 2 [20,21,22] (aa 25 8388607) ?_;(refine jG (aa 25 16777215) 23 F (bm F F F) ?_);(refine jG (aa 25 33554431) 24 F (bm F F F) ?_);refine jQ ?_)
        repeat' (first | refine jR ?_ | refine ad F F ?_)
        (refine an (ao (id:=10) [.blk x14 (.cells (List.toArray [I d.tag,S d.name,S d.kind,S d.stand]) tFd (0,0))] (by intro y hy;simp only [List.mem_cons,List.not_mem_nil,or_false] at hy ⊢;simp [hy]) am ?_);refine jW 7 [0,1,2,3,5] (aa 12 47) ?_;(refine jG (aa 12 111) 6 F (aV F F F) ?_);refine b8 [4,7] kR dC ⟨?_,?_,trivial⟩;(focus (refine aO F F ?_;(refine aC F ?_);refine jK (aa 12 127) ?_;refine jA 7 F ?_;(refine jF fun _=>?_);refine jK (aa 12 255) ?_;refine jA 8 F ?_;((refine bG F F F F F F F F F ?_ fun _ _=>?_;focus omega));refine jK (aa 12 511) ?_;refine jW 1 [9,10] (aa 12 2047) ?_;refine jA 11 F ?_;(refine jD F F F ?_);refine jK (aa 12 4095) ?_;refine jQ ?_));rotate_left 1;(focus (refine aO F F ?_;(refine jF fun _=>?_);refine jK (aa 12 239) ?_;refine jA 4 F ?_;(refine aC F ?_);refine jK (aa 12 255) ?_;refine jA 8 F ?_;((refine bG F F F F F F F F F ?_ fun _ _=>?_;focus omega));refine jK (aa 12 511) ?_;refine jW 1 [9,10] (aa 12 2047) ?_;refine jA 11 F ?_;(refine jD F F F ?_);refine jK (aa 12 4095) ?_;refine jQ ?_));rotate_left 1)
        all_goals repeat' (first | refine jM ?_ | (refine jo ?_;first | refine aC F ?_ | refine jD F F F ?_ | refine jF fun _=>?_ | refine bG F F F F F F F F F oM fun _ _=>?_) | refine ad F (aH oM) ?_)
        all_goals
         rename_i _ y1 yc1 _ y2 yc2
         rw [hrow1,hrow2]
         exact br (fs ++ [(d,w)],bs ++ [wb],some ⟨y1,0,none⟩,yc1,some ⟨y2,0,none⟩,yc2,r3,m - 1,G) ⟨⟨⟨hbl',hfm',hreps'⟩,hgl⟩,⟨(by dsimp only;rw [hit,hst,wq,hnd]),(by dsimp only;omega)⟩,(by dsimp only;omega),(by dsimp only;omega)⟩ (by dsimp only;omega) tU rfl (by rw [hl'];repeat (first | exact List.Sublist.refl _ | apply List.Sublist.cons_cons | apply List.Sublist.cons))
       ·rw [if_neg h44] at hst
        by_cases h125' : e2.toNat = 125
        ·rw [if_pos h125'] at hst
         (refine an (ao (id:=8) _ (fun _ h=>h) am ?_);refine jT 22 [0,1,2] (aa 25 7) ?_;(try (refine Nx.re (d:=92) (v':=Bo false) F (congrArg Value.bool F) ?_));refine jT 20 [3,5] (aa 25 47) ?_;(refine jG (aa 25 111) 6 F (aV F F F) ?_);(refine jG (aa 25 239) 7 F (bS F F F F) ?_);(refine jA 4 F ?_;(refine ae F F F cx_out F ?_);refine jS (aa 25 255) ?_);(refine jA 8 F ?_;(refine ae F F F cx_sta F ?_);refine jS (aa 25 511) ?_);refine jT 15 [9] (aa 25 1023) ?_;(refine jG (aa 25 2047) 10 F (bm F F F) ?_);refine jT 13 [11] (aa 25 4095) ?_;(try (refine Nx.re (d:=101) (v':=Bo false) F (congrArg Value.bool (aH ‹_›)) ?_));refine jT 11 [12,13] (aa 25 16383) ?_;(refine jG (aa 25 32767) 14 F (bm F F F) ?_);refine jT 9 [15] (aa 25 65535) ?_;(try (refine Nx.re (d:=105) (v':=Bo false) F (congrArg Value.bool F) ?_));refine jW 5 [16,17,18,19] (aa 25 1048575) ?_;(try ((refine Nx.re (d:=109) (v':=Bo true) F (congrArg Value.bool (aA oM)) ?_)));refine jW 2 [20,21,22] (aa 25 8388607) ?_;(refine jG (aa 25 16777215) 23 F (bR F F F) ?_);(refine jG (aa 25 33554431) 24 F (bm F F F) ?_);refine jQ ?_)
         repeat' (first | refine jR ?_ | refine ad F (aH oM) ?_)
         (refine an (ao (id:=10) [.blk x14 (.cells (List.toArray [I d.tag,S d.name,S d.kind,S d.stand]) tFd (0,0))] (by intro y hy;simp only [List.mem_cons,List.not_mem_nil,or_false] at hy ⊢;simp [hy]) am ?_);refine jW 7 [0,1,2,3,5] (aa 12 47) ?_;(refine jG (aa 12 111) 6 F (aV F F F) ?_);refine b8 [4,7] kR dC ⟨?_,?_,trivial⟩;(focus (refine aO F F ?_;(refine aC F ?_);refine jK (aa 12 127) ?_;refine jA 7 F ?_;(refine jF fun _=>?_);refine jK (aa 12 255) ?_;refine jA 8 F ?_;((refine bG F F F F F F F F F ?_ fun _ _=>?_;focus omega));refine jK (aa 12 511) ?_;refine jW 1 [9,10] (aa 12 2047) ?_;refine jA 11 F ?_;(refine jD F F F ?_);refine jK (aa 12 4095) ?_;refine jQ ?_));rotate_left 1;(focus (refine aO F F ?_;(refine jF fun _=>?_);refine jK (aa 12 239) ?_;refine jA 4 F ?_;(refine aC F ?_);refine jK (aa 12 255) ?_;refine jA 8 F ?_;((refine bG F F F F F F F F F ?_ fun _ _=>?_;focus omega));refine jK (aa 12 511) ?_;refine jW 1 [9,10] (aa 12 2047) ?_;refine jA 11 F ?_;(refine jD F F F ?_);refine jK (aa 12 4095) ?_;refine jQ ?_));rotate_left 1)
         all_goals repeat' (first | refine jM ?_ | (refine jo ?_;first | refine aC F ?_ | refine jD F F F ?_ | refine jF fun _=>?_ | refine bG F F F F F F F F F oM fun _ _=>?_) | refine ac F (aA oM) ?_)
         all_goals
          rename_i _ y1 yc1 _ y2 yc2
          rw [hrow1,hrow2]
          refine Nx.sealS (v:=.slice (some ⟨y1,0,none⟩) (fs.length + 1) yc1) fun G2 hG2 hs1=>?_
          refine Nx.sealS (v:=.slice (some ⟨y2,0,none⟩) (fs.length + 1) yc2) fun G3 hG3 hs2=>?_
          refine Nx.sealC (b:=x13) fun G4 hG4 hsg=>?_
          refine jZ (vs:=[_,_,_]) F ⟨F,F,F,trivial⟩ F ⟨(((hgl.trans hG2).trans hG3).trans hG4),F,?_⟩
          rw [bI]
          exact ⟨_,_,_,F,fun _=>⟨.nd 82 [] 0 (iC (fs ++ [(d,w)])),x13,F,(by rw [hRl,hit,hst,hnd];rfl),.recd k x13 x.2 (fs ++ [(d,w)]) (bs ++ [wb]) (some ⟨y1,0,none⟩) (some ⟨y2,0,none⟩) yc1 yc2 ⟨hrf,hso⟩ (by rw [hl'];exact hsg) (by rw [hl'];exact (hs1.mono hG3).mono hG4) (by rw [hl'];exact hs2.mono hG4) hbl' hfm' (fun i hi=>(hreps' i hi).mono ((hG2.trans hG3).trans hG4))⟩,fun h=>(by cases h)⟩
        ·rw [if_neg h125'] at hst
         (refine an (ao (id:=8) _ (fun _ h=>h) am ?_);refine jT 22 [0,1,2] (aa 25 7) ?_;(try (refine Nx.re (d:=92) (v':=Bo false) F (congrArg Value.bool F) ?_));refine jT 20 [3,5] (aa 25 47) ?_;(refine jG (aa 25 111) 6 F (aV F F F) ?_);(refine jG (aa 25 239) 7 F (bS F F F F) ?_);(refine jA 4 F ?_;(refine ae F F F cx_out F ?_);refine jS (aa 25 255) ?_);(refine jA 8 F ?_;(refine ae F F F cx_sta F ?_);refine jS (aa 25 511) ?_);refine jT 15 [9] (aa 25 1023) ?_;(refine jG (aa 25 2047) 10 F (bm F F F) ?_);refine jT 13 [11] (aa 25 4095) ?_;(try (refine Nx.re (d:=101) (v':=Bo false) F (congrArg Value.bool (aH ‹_›)) ?_));refine jT 11 [12,13] (aa 25 16383) ?_;(refine jG (aa 25 32767) 14 F (bm F F F) ?_);refine jT 9 [15] (aa 25 65535) ?_;(try (refine Nx.re (d:=105) (v':=Bo false) F (congrArg Value.bool F) ?_));refine jW 5 [16,17,18,19] (aa 25 1048575) ?_;(try ((refine Nx.re (d:=109) (v':=Bo true) F (congrArg Value.bool (aA oM)) ?_)));refine jW 2 [20,21,22] (aa 25 8388607) ?_;(refine jG (aa 25 16777215) 23 F (bR F F F) ?_);(refine jG (aa 25 33554431) 24 F (bm F F F) ?_);refine jQ ?_)
         repeat' (first | refine jR ?_ | refine ac F (aA oM) ?_)
         all_goals refine jZ (vs:=[_,_,_]) F ⟨F,F,F,trivial⟩ F ⟨hgl,F,?_⟩
         all_goals exact hnone hst F
theorem vX {ts : List Ty} {f : ael → ael → Option (V × ael)} {t : Ty} {e : UInt8} {s : ael} (h : t.sort = 82 ∧ ¬ e.toNat = 123 ∨ t.sort = 69 ∧ ¬ e.toNat = 35 ∨ t.sort = 85 ∧ ¬ e.toNat = 60) : bA ts f t (e :: s) = none:=by
 unfold bA
 dsimp only
 rcases h with ⟨h1,h2⟩ | ⟨h1,h2⟩ | ⟨h1,h2⟩
 ·rw [if_pos h1,if_neg h2]
 ·rw [if_neg oM,if_pos h1,if_neg h2]
 ·rw [if_neg oM,if_neg oM,if_neg h2]
theorem acp {n : Nat} {u : Value} {vs : List cG} {x : cG} {k s : ael} {e : UInt8} (hu : u.oneCell' = true) (cx_rf : a7 aek 136 [u,S k] G (· = Tu [Ag [U8 x.2.sort,S x.2.name,gx x],Bo true])) (hso : x.2.sort = 82 ∧ ¬ e.toNat = 123 ∨ x.2.sort = 69 ∧ ¬ e.toNat = 35 ∨ x.2.sort = 85 ∧ ¬ e.toNat = 60) (hs : s.length ≤ 2000000) (hn : n ≤ 1000) :
  bJ aek 97 [Ag [u],S (e :: s),S k,I (n + 1 : Nat)] G (fc (ah vs) (bA (ah vs) (rd (ah vs) n) x.2 (e :: s)) k):=by
 have hno:=vX (ts:=ah vs) (f:=rd (ah vs) n) (s:=s) hso
 have he0 : bt (e :: s) (Int.toNat 0) = e.toNat:=bH e s
 have hel : (e :: s).length = s.length + 1:=rfl
 rcases hso with ⟨h1,h2⟩ | ⟨h1,h2⟩ | ⟨h1,h2⟩
 all_goals
  have h1' : (x.2.sort : Int) = 82 ∨ (x.2.sort : Int) = 69 ∨ (x.2.sort : Int) = 85:=oM
  refine jB [(0,_),(1,_),(2,_),(3,_)] Tryz.func97 Tryz.ntmps97 fun B hok hB hW=>?_
  repeat' (first | refine jM ?_ | (refine jo ?_;first | refine jO fun _=>?_ | refine aC F ?_ | refine jL fun _=>?_ | refine jC F F F ?_ | refine aP F ?_ | refine aE F ?_ | refine ae F F F cx_rf F ?_) | refine aF F F (aA oM) ?_ | refine aw F F (aH oM) ?_ | (refine ad F (by first | rfl | (refine decide_eq_false ?_;(omega))) ?_))
  all_goals refine jZ (vs:=[_,_,_]) F ⟨F,F,F,trivial⟩ F ⟨Gh.le.refl _,F,?_⟩
  all_goals (rw [bI];exact ⟨_,_,_,F,fun h=>(by cases h),fun _=>hno⟩)
theorem acr {n : Nat} {u : Value} {vs : List cG} {x : cG} {k s : ael} (hR : ld n u vs) (h : SchR G u vs) (hw : SchW (ah vs)) (hx : x ∈ vs) (hrf : aZ (ah vs) k = some x.2) (cx_rf : a7 aek 136 [u,S k] G (· = Tu [Ag [U8 x.2.sort,S x.2.name,gx x],Bo true])) (hso : x.2.sort = 82) (hs : s.length ≤ 1999999) (hn : n ≤ 1000) (hkl : k.length ≤ 1000) :
  bJ aek 97 [Ag [u],S (123 :: s),S k,I (n + 1 : Nat)] G (fc (ah vs) (bA (ah vs) (rd (ah vs) n) x.2 (123 :: s)) k):=by
 have cx_rc:=xL (s:=s) hR h hw hx hrf hso oM hn hkl
 have he0 : bt (123 :: s) (Int.toNat 0) = 123:=bH 123 s
 have hel : (123 :: s).length = s.length + 1:=rfl
 have h1' : (x.2.sort : Int) = 82:=oM
 refine jB [(0,_),(1,_),(2,_),(3,_)] Tryz.func97 Tryz.ntmps97 fun B hok hB hW=>?_
 repeat' (first | refine jM ?_ | (refine jo ?_;first | refine jO fun _=>?_ | refine aC F ?_ | refine jL fun _=>?_ | refine jC F F F ?_ | refine aP F ?_ | refine ae F F F cx_rf F ?_) | refine aF F F (aA ‹_›) ?_ | refine ac F F ?_ | (refine an (ao (id:=3) _ (fun _ h=>h) am ?_);refine jW 9 [1,2,3,5] (aa 13 46) ?_;(refine jG (aa 13 47) 0 F (bS F F F F) ?_);(refine jG (aa 13 63) 4 F (bS F F F F) ?_);refine jA 6 F ?_;(refine ar F F F cx_rc F ?_;rintro _ G hle ⟨q1,r1,ok1,rfl,hyes,hno⟩;skip);refine jS (aa 13 127) ?_;refine jT 0 [7,8,9,10,11,12] (aa 13 8191) ?_;refine jQ ?_))
 refine jZ (vs:=[_,_,_]) F ⟨F,F,F,trivial⟩ F ⟨hle,F,?_⟩
 rw [bI]
 exact ⟨_,_,_,F,hyes,hno⟩
theorem acs {n : Nat} {u : Value} {vs : List cG} {x : cG} {k s : ael} (h : SchR G u vs) (hw : SchW (ah vs)) (hx : x ∈ vs) (hrf : aZ (ah vs) k = some x.2) (cx_rf : a7 aek 136 [u,S k] G (· = Tu [Ag [U8 x.2.sort,S x.2.name,gx x],Bo true])) (hso : x.2.sort = 69) (hs : s.length ≤ 1999999) (hn : n ≤ 1000) :
  bJ aek 97 [Ag [u],S (35 :: s),S k,I (n + 1 : Nat)] G (fc (ah vs) (bA (ah vs) (rd (ah vs) n) x.2 (35 :: s)) k):=by
 have hxt : x.2 ∈ ah vs:=List.mem_map_of_mem hx
 have hTW:=hw.ty _ hxt
 have hfl:=hTW.len
 have cx_tg:=sD (G:=G) (u:=u) (x:=x) (s:=s) oM h.sl.one (h.fl x hx) oM
 have he0 : bt (35 :: s) (Int.toNat 0) = 35:=bH 35 s
 have hel : (35 :: s).length = s.length + 1:=rfl
 have h1' : (x.2.sort : Int) = 69:=oM
 have hRT : bA (ah vs) (rd (ah vs) n) x.2 (35 :: s) = match cP 200 s with
   | none=>none
   | some (n,r)=>if (cm x.2.fields n).isSome = true then some (.nd 69 [] n [],r) else none:=by
  unfold bA
  dsimp only
  rw [if_neg oM,if_pos hso,if_pos (show (35 : UInt8).toNat = 35 from rfl)]
  cases cP 200 s <;> rfl
 unfold cP at hRT
 simp only [kp] at cx_tg
 refine jB [(0,_),(1,_),(2,_),(3,_)] Tryz.func97 Tryz.ntmps97 fun B hok hB hW=>?_
 repeat' (first | refine jM ?_ | (refine jo ?_;first | refine jO fun _=>?_ | refine aC F ?_ | refine jL fun _=>?_ | refine jC F F F ?_ | refine aP F ?_ | refine aE F ?_ | refine jF fun _=>?_ | refine jV (ay F F) ?_ | refine ae F F F cx_rf F ?_) | refine aF F F (aA ‹_›) ?_ | refine aw F F (aH oM) ?_ | refine ac F F ?_ | refine ad F F ?_ | (refine an (ao (id:=5) _ (fun _ h=>h) am ?_);refine jW 11 [1,2] (aa 13 6) ?_;(refine jG (aa 13 7) 0 F (bS F F F F) ?_);(refine jG (aa 13 15) 3 F (bS F F F F) ?_);refine b8 [4,9] kR dC ⟨?_,?_,trivial⟩;(focus (refine aO F F ?_;(refine eE F F F cx_tg F ?_;rintro _ ⟨nt,rfl,hnt⟩);refine jK (aa 13 31) ?_;refine jW 4 [5,6,7,8] (aa 13 511) ?_;refine jA 9 F ?_;(refine jL fun _=>?_);refine jK (aa 13 1023) ?_;refine jA 10 F ?_;(refine jC F F F ?_);refine jK (aa 13 2047) ?_;refine jW 0 [11,12] (aa 13 8191) ?_;refine jQ ?_));rotate_left 1;(focus (refine aO F F ?_;(refine jL fun _=>?_);refine jK (aa 13 527) ?_;refine jA 4 F ?_;(refine eE F F F cx_tg F ?_;rintro _ ⟨nt,rfl,hnt⟩);refine jK (aa 13 543) ?_;refine jW 3 [5,6,7,8] (aa 13 1023) ?_;refine jA 10 F ?_;(refine jC F F F ?_);refine jK (aa 13 2047) ?_;refine jW 0 [11,12] (aa 13 8191) ?_;refine jQ ?_));rotate_left 1))
 all_goals
  rename_i y y8
  refine Nx.sealC (b:=y) fun G2 hG2 hsy=>?_
  refine Nx.sealC (b:=y8) fun G3 hG3 hsg=>?_
  refine jZ (vs:=[_,_,_]) F ⟨F,F,F,trivial⟩ F ⟨(hG2.trans hG3),F,?_⟩
  rw [bI]
  refine ⟨_,_,_,F,fun hb=>?_,fun hb=>?_⟩
  ·simp only [Bool.and_eq_true] at hb
   obtain ⟨hb1,hb2⟩:=hb
   obtain ⟨m0,hm⟩:=Option.isSome_iff_exists.1 hb1
   obtain ⟨d,hd⟩:=Option.isSome_iff_exists.1 hb2
   have hnm:=hnt m0 hm
   subst hnm
   rw [hd] at hsy
   simp only [Option.getD_some] at hsy
   have hdm : d ∈ x.2.fields:=List.mem_of_find?_eq_some hd
   have hdt : d.tag = nt:=by have:=List.find?_some hd;simpa using this
   exact ⟨.nd 69 [] d.tag [],y8,F,by rw [hRT,hm];dsimp only [Option.map_some];rw [hd,hdt];rfl,.enm k y8 y x.2 d ⟨hrf,hso⟩ hdm hsg (hsy.mono hG3)⟩
  ·rw [hRT]
   cases hm : aQ (s.takeWhile bn) 200 with
   | none=>rfl
   | some m0 =>
    have hnm:=hnt m0 hm
    subst hnm
    rw [hm] at hb
    dsimp only [Option.map_some]
    rw [if_neg]
    intro h2
    rw [h2] at hb;cases hb
theorem acq {n : Nat} {u : Value} {vs : List cG} {x : cG} {k s : ael} (hR : ld n u vs) (h : SchR G u vs) (hw : SchW (ah vs)) (hx : x ∈ vs) (hrf : aZ (ah vs) k = some x.2) (cx_rf : a7 aek 136 [u,S k] G (· = Tu [Ag [U8 x.2.sort,S x.2.name,gx x],Bo true])) (hso : x.2.sort = 85) (hs : s.length ≤ 1999999) (hn : n ≤ 1000) :
  bJ aek 97 [Ag [u],S (60 :: s),S k,I (n + 1 : Nat)] G (fc (ah vs) (bA (ah vs) (rd (ah vs) n) x.2 (60 :: s)) k):=by
 have edn : ((n + 1 : Nat) : Int) - 1 = (n : Nat):=oM
 have hxt : x.2 ∈ ah vs:=List.mem_map_of_mem hx
 have hTW:=hw.ty _ hxt
 have hfl:=hTW.len
 have cx_tg:=sD (G:=G) (u:=u) (x:=x) (s:=s) oM h.sl.one (h.fl x hx) oM
 have he0 : bt (60 :: s) (Int.toNat 0) = 60:=bH 60 s
 have hel : (60 :: s).length = s.length + 1:=rfl
 have h1' : (x.2.sort : Int) = 85:=oM
 have hRT : bA (ah vs) (rd (ah vs) n) x.2 (60 :: s) = match aY (rd (ah vs) n) x.2 s with
   | none=>none
   | some ((d,v),r)=>match r with
    | []=>none
    | c' :: r'=>if c'.toNat = 62 then some (.nd 85 [] d.tag [v],r') else none:=by
  unfold bA
  dsimp only
  rw [if_neg oM,if_neg oM,if_pos (show (60 : UInt8).toNat = 60 from rfl)]
  cases aY (rd (ah vs) n) x.2 s <;> rfl
 simp only [kp] at cx_tg
 refine jB [(0,_),(1,_),(2,_),(3,_)] Tryz.func97 Tryz.ntmps97 fun B hok hB hW=>?_
 repeat' (first | refine jM ?_ | (refine jo ?_;first | refine jO fun _=>?_ | refine aC F ?_ | refine jL fun _=>?_ | refine jC F F F ?_ | refine aP F ?_ | refine aE F ?_ | refine ae F F F cx_rf F ?_) | refine aF F F (aA ‹_›) ?_ | refine aw F F (aH oM) ?_ | refine ac F F ?_ | refine ad F F ?_)
 (refine an (ao (id:=8) _ (fun _ h=>h) am ?_);refine jW 11 [1,2] (aa 13 6) ?_;(refine jG (aa 13 7) 0 F (bS F F F F) ?_);(refine jG (aa 13 15) 3 F (bS F F F F) ?_);refine b8 [4,9] kR dC ⟨?_,?_,trivial⟩;(focus (refine aO F F ?_;(refine eE F F F cx_tg F ?_;rintro _ ⟨nt,rfl,hnt⟩);refine jK (aa 13 31) ?_;refine jW 4 [5,6,7,8] (aa 13 511) ?_;refine jA 9 F ?_;(refine jL fun _=>?_);refine jK (aa 13 1023) ?_;refine jA 10 F ?_;(refine jC F F F ?_);refine jK (aa 13 2047) ?_;refine jW 0 [11,12] (aa 13 8191) ?_;refine jQ ?_));rotate_left 1;(focus (refine aO F F ?_;(refine jL fun _=>?_);refine jK (aa 13 527) ?_;refine jA 4 F ?_;(refine eE F F F cx_tg F ?_;rintro _ ⟨nt,rfl,hnt⟩);refine jK (aa 13 543) ?_;refine jW 3 [5,6,7,8] (aa 13 1023) ?_;refine jA 10 F ?_;(refine jC F F F ?_);refine jK (aa 13 2047) ?_;refine jW 0 [11,12] (aa 13 8191) ?_;refine jQ ?_));rotate_left 1)
 all_goals
  have hnone : ∀ {v : Value} {G' : Gh} {r : ael},aY (rd (ah vs) n) x.2 s = none → v = Tu [.pointer none,S r,Bo false] → fc (ah vs) (bA (ah vs) (rd (ah vs) n) x.2 (60 :: s)) k v G':=fun h1 h2=>⟨_,_,_,h2,fun h=>(by cases h),fun _=>by rw [hRT,h1]⟩
  cases hb16 : (aQ (s.takeWhile bn) 200).isSome && (cm x.2.fields nt).isSome with
  | false =>
   have hno : aY (rd (ah vs) n) x.2 s = none:=by
    cases hm : aQ (s.takeWhile bn) 200 with
    | none=>exact f8 (.inl hm)
    | some m0 =>
     refine f8 (.inr ⟨m0,hm,?_⟩)
     rw [hm] at hb16
     rw [← hnt m0 hm]
     cases hf : cm x.2.fields nt with
     | none=>rfl
     | some d=>rw [hf] at hb16;cases hb16
   repeat' (first | refine jR ?_ | (refine jo ?_;refine aP F ?_) | refine aF F F F ?_ | refine ac F F ?_)
   all_goals refine jZ (vs:=[_,_,_]) F ⟨F,F,F,trivial⟩ F ⟨Gh.le.refl _,F,?_⟩
   all_goals exact hnone hno F
  | true =>
   simp only [Bool.and_eq_true] at hb16
   obtain ⟨hb1,hb2⟩:=hb16
   obtain ⟨m0,hm⟩:=Option.isSome_iff_exists.1 hb1
   obtain ⟨d,hd⟩:=Option.isSome_iff_exists.1 hb2
   have hnm:=hnt m0 hm
   subst hnm
   rw [hd]
   simp only [Option.getD_some]
   have hdm : d ∈ x.2.fields:=List.mem_of_find?_eq_some hd
   have hwl:=eJ bn s
   cases hdw : s.dropWhile bn with
   | nil =>
    have hno : aY (rd (ah vs) n) x.2 s = none:=iH hm (fun s2 h=>by rw [hdw] at h;cases h)
    repeat' (first | refine jR ?_ | (refine jo ?_;first | refine aP F ?_ | refine aE F ?_) | refine aF F F F ?_ | refine aw F F F ?_ | refine ac F F ?_)
    all_goals refine jZ (vs:=[_,_,_]) F ⟨F,F,F,trivial⟩ F ⟨Gh.le.refl _,F,?_⟩
    all_goals exact hnone hno F
   | cons e r2 =>
    have he20 : bt (e :: r2) (Int.toNat 0) = e.toNat:=bH e r2
    have hel2 : (e :: r2).length = r2.length + 1:=rfl
    by_cases h61 : e.toNat = 61
    case neg =>
     have hno : aY (rd (ah vs) n) x.2 s = none:=iH hm (fun s2 h=>by rw [hdw] at h;simp only [List.cons.injEq] at h;exact h61 (by rw [h.1];rfl))
     repeat' (first | refine jM ?_ | (refine jo ?_;refine aE F ?_) | refine aw F F F ?_ | refine ac F (aA oM) ?_)
     all_goals refine jZ (vs:=[_,_,_]) F ⟨F,F,F,trivial⟩ F ⟨Gh.le.refl _,F,?_⟩
     all_goals exact hnone hno F
    have he61 : e = 61:=UInt8.toNat_inj.1 h61
    have hfs:=mq (f:=rd (ah vs) n) (t:=x.2) (s:=s) hm hd (by rw [hdw,he61])
    have hdk : ax (ah vs) d.kind = true:=d6 hw hxt oM hdm
    rw [hdw,List.length_cons] at hwl
    have cx_rd:=hR G d.kind r2 h hdk oM
    rw [← edn] at cx_rd
    repeat' (first | refine jM ?_ | (refine jo ?_;refine aE F ?_) | refine aw F F F ?_ | refine ad F (aH oM) ?_)
    (refine an (ao (id:=11) _ (fun _ h=>h) am ?_);refine jW 10 [1,2,3,5,6] (aa 15 110) ?_;(refine jG (aa 15 111) 0 F (bS F F F F) ?_);(refine jG (aa 15 127) 4 F (aV F F F) ?_);refine jA 7 F ?_;(refine ar F F F cx_rd F ?_;rintro _ G hle ⟨q1,r1,ok1,rfl,hyes,hno⟩;skip);refine jS (aa 15 255) ?_;refine jT 0 [8,9,10,11,12,13,14] (aa 15 32767) ?_;refine jQ ?_)
    cases ok1 with
    | false =>
     have hno2 : aY (rd (ah vs) n) x.2 s = none:=by rw [hfs,hno rfl];rfl
     repeat' (first | refine jR ?_ | (refine jo ?_;refine aP F ?_) | refine aF F F F ?_ | refine ac F F ?_)
     all_goals refine jZ (vs:=[_,_,_]) F ⟨F,F,F,trivial⟩ F ⟨hle,F,?_⟩
     all_goals exact hnone hno2 F
    | true =>
     obtain ⟨w,wb,rfl,hf,hrep⟩:=hyes rfl
     have hfd : aY (rd (ah vs) n) x.2 s = some ((d,w),r1):=by rw [hfs,hf];rfl
     rw [hfd] at hRT
     dsimp only at hRT
     cases r1 with
     | nil =>
      repeat' (first | refine jR ?_ | (refine jo ?_;first | refine aP F ?_ | refine aE F ?_) | refine aF F F F ?_ | refine aw F F F ?_ | refine ac F F ?_)
      all_goals refine jZ (vs:=[_,_,_]) F ⟨F,F,F,trivial⟩ F ⟨hle,F,?_⟩
      all_goals (rw [bI];exact ⟨_,_,_,F,fun h=>(by cases h),fun _=>hRT⟩)
     | cons e3 r3 =>
      have he30 : bt (e3 :: r3) (Int.toNat 0) = e3.toNat:=bH e3 r3
      have hel3 : (e3 :: r3).length = r3.length + 1:=rfl
      dsimp only at hRT
      by_cases h62 : e3.toNat = 62
      case neg =>
       rw [if_neg h62] at hRT
       repeat' (first | refine jM ?_ | (refine jo ?_;refine aE F ?_) | refine aw F F F ?_ | refine ac F (aA oM) ?_)
       all_goals refine jZ (vs:=[_,_,_]) F ⟨F,F,F,trivial⟩ F ⟨hle,F,?_⟩
       all_goals (rw [bI];exact ⟨_,_,_,F,fun h=>(by cases h),fun _=>hRT⟩)
      rw [if_pos h62] at hRT
      repeat' (first | refine jM ?_ | (refine jo ?_;refine aE F ?_) | refine aw F F F ?_ | refine ad F (aH oM) ?_)
      (refine an (ao (id:=14) _ (fun _ h=>h) am ?_);refine jW 8 [0,1,4,8,9] (aa 13 787) ?_;(refine jG (aa 13 791) 2 F (aV F F F) ?_);refine b8 [3,5] kR dC ⟨?_,?_,trivial⟩;(focus (refine aO F F ?_;(refine jF fun _=>?_);refine jS (aa 13 799) ?_;refine jA 5 F ?_;(refine jF fun _=>?_);refine jS (aa 13 831) ?_;(refine jG (aa 13 895) 6 F (ay F F) ?_);refine jA 7 F ?_;(refine jO fun _=>?_);refine jS (aa 13 1023) ?_;refine jW 0 [10,11,12] (aa 13 8191) ?_;refine jQ ?_));rotate_left 1;(focus (refine aO F F ?_;(refine jF fun _=>?_);refine jS (aa 13 823) ?_;refine jA 3 F ?_;(refine jF fun _=>?_);refine jS (aa 13 831) ?_;(refine jG (aa 13 895) 6 F (ay F F) ?_);refine jA 7 F ?_;(refine jO fun _=>?_);refine jS (aa 13 1023) ?_;refine jW 0 [10,11,12] (aa 13 8191) ?_;refine jQ ?_));rotate_left 1)
      all_goals repeat' (refine jR ?_)
      all_goals
       rename_i y1 y2 y8
       refine Nx.sealC (b:=y1) fun G2 hG2 hs1=>?_
       refine Nx.sealC (b:=y2) fun G3 hG3 hs2=>?_
       refine Nx.sealC (b:=y8) fun G4 hG4 hsg=>?_
       refine jZ (vs:=[_,_,_]) F ⟨F,F,F,trivial⟩ F ⟨(((hle.trans hG2).trans hG3).trans hG4),F,?_⟩
       rw [bI]
       first | exact ⟨_,_,_,F,fun _=>⟨.nd 85 [] d.tag [w],y8,F,hRT,.uni k y8 y1 y2 wb 1 x.2 d w (Nat.le_refl _) ⟨hrf,hso⟩ hdm hsg (hs1.mono (hG3.trans hG4)) (hs2.mono hG4) (hrep.mono ((hG2.trans hG3).trans hG4))⟩,fun h=>(by cases h)⟩ | exact ⟨_,_,_,F,fun _=>⟨.nd 85 [] d.tag [w],y8,F,hRT,.uni k y8 y2 y1 wb 1 x.2 d w (Nat.le_refl _) ⟨hrf,hso⟩ hdm hsg (hs2.mono hG4) (hs1.mono (hG3.trans hG4)) (hrep.mono ((hG2.trans hG3).trans hG4))⟩,fun h=>(by cases h)⟩
theorem abx {ts : List Ty} {n : Nat} {k : ael} : rd ts n k [] = none:=by
 cases h : rd ts n k [] with
 | none=>rfl
 | some x=>have:=iX h;simp at this
theorem vK {n : Nat} {u : Value} {vs : List cG} {k s : ael} (hc : s = [] ∨ n = 0) (hn : n ≤ 1000) : bJ aek 50 [Ag [u],S s,S k,I (n : Nat)] G (fc (ah vs) (rd (ah vs) n k s) k):=by
 have hno : rd (ah vs) n k s = none:=by
  rcases hc with rfl | rfl
  ·exact abx
  ·rfl
 by_cases hs : s = []
 ·refine jB [(0,_),(1,_),(2,_),(3,_)] Tryz.func50 Tryz.ntmps50 fun B hok hB hW=>?_
  repeat' (first | refine jR ?_ | (refine jo ?_;first | refine jO fun _=>?_ | refine aP F ?_) | refine aF F F (aA ‹_›) ?_ | refine ac F F ?_)
  refine jZ (vs:=[_,_,_]) F ⟨F,F,F,trivial⟩ F ⟨Gh.le.refl _,F,?_⟩
  rw [bI]
  exact ⟨_,_,_,F,fun h=>(by cases h),fun _=>hno⟩
 ·have hn0 : n = 0:=by
   rcases hc with h | h
   ·exact absurd h hs
   ·exact h
  refine jB [(0,_),(1,_),(2,_),(3,_)] Tryz.func50 Tryz.ntmps50 fun B hok hB hW=>?_
  repeat' (first | refine jR ?_ | (refine jo ?_;first | refine jO fun _=>?_ | refine aE F ?_) | refine aw F F (aH ‹_›) ?_ | refine ac F (aA oM) ?_)
  refine jZ (vs:=[_,_,_]) F ⟨F,F,F,trivial⟩ F ⟨Gh.le.refl _,F,?_⟩
  rw [bI]
  exact ⟨_,_,_,F,fun h=>(by cases h),fun _=>hno⟩
theorem aaS {n : Nat} {u : Value} {vs : List cG} {k s : ael} {e : UInt8} (hR : ld n u vs) (h : SchR G u vs) (hk : ax (ah vs) (91 :: k) = true) (hs : s.length ≤ 1999999) (hn : n ≤ 999) :
  bJ aek 50 [Ag [u],S (e :: s),S (91 :: k),I (n + 1 : Nat)] G (fc (ah vs) (rd (ah vs) (n + 1) (91 :: k) (e :: s)) (91 :: k)):=by
 have hrd : rd (ah vs) (n + 1) (91 :: k) (e :: s) = fQ (rd (ah vs) n k) (e :: s):=by rw [rd];exact s6 F
 have he0 : bt (e :: s) (Int.toNat 0) = e.toNat:=bH e s
 have hel : (e :: s).length = s.length + 1:=rfl
 have hk0 : bt (91 :: k) (Int.toNat 0) = 91:=bH 91 k
 have hkl2 : (91 :: k).length = k.length + 1:=rfl
 by_cases h91 : e.toNat = 91
 ·obtain rfl:=bY h91 dC
  have cx_ls:=aaV (s:=s) hR h (fM (.inl rfl) hk) oM oM
  refine jB [(0,_),(1,_),(2,_),(3,_)] Tryz.func50 Tryz.ntmps50 fun B hok hB hW=>?_
  repeat' (first | refine jM ?_ | (refine jo ?_;first | refine jO fun _=>?_ | refine aE F ?_) | refine aw F F F ?_ | refine ac F F ?_ | refine ad F F ?_ | (refine an (ao (id:=7) _ (fun _ h=>h) am ?_);refine jW 8 [1,2,3,4] (aa 12 30) ?_;(refine jG (aa 12 31) 0 F (bS F F F F) ?_);refine jA 5 F ?_;(refine ar F F F cx_ls F ?_;rintro _ G hle ⟨q1,r1,ok1,rfl,hyes,hno⟩;skip);refine jS (aa 12 63) ?_;refine jT 0 [6,7,8,9,10,11] (aa 12 4095) ?_;refine jQ ?_))
  refine jZ (vs:=[_,_,_]) F ⟨F,F,F,trivial⟩ F ⟨hle,F,?_⟩
  rw [bI,hrd]
  exact ⟨_,_,_,F,hyes,hno⟩
 ·have hno : fQ (rd (ah vs) n k) (e :: s) = none:=by unfold fQ;dsimp only;rw [if_neg h91]
  refine jB [(0,_),(1,_),(2,_),(3,_)] Tryz.func50 Tryz.ntmps50 fun B hok hB hW=>?_
  repeat' (first | refine jM ?_ | (refine jo ?_;first | refine jO fun _=>?_ | refine aE F ?_) | refine aw F F F ?_ | (refine ac F (by first | rfl | (refine decide_eq_true ?_;(omega))) ?_) | refine ad F F ?_)
  refine jZ (vs:=[_,_,_]) F ⟨F,F,F,trivial⟩ F ⟨Gh.le.refl _,F,?_⟩
  rw [bI,hrd]
  exact ⟨_,_,_,F,fun h=>(by cases h),fun _=>hno⟩
theorem aaR {n : Nat} {u : Value} {vs : List cG} {k s : ael} {e : UInt8} (hR : ld n u vs) (h : SchR G u vs) (hk : ax (ah vs) (63 :: k) = true) (hs : s.length ≤ 1999999) (hn : n ≤ 999) :
  bJ aek 50 [Ag [u],S (e :: s),S (63 :: k),I (n + 1 : Nat)] G (fc (ah vs) (rd (ah vs) (n + 1) (63 :: k) (e :: s)) (63 :: k)):=by
 have edn : ((n + 1 : Nat) : Int) - 1 = (n : Nat):=oM
 have hrd : rd (ah vs) (n + 1) (63 :: k) (e :: s) = if e.toNat = 45 then some (.nd 63 [] 0 [],s) else if e.toNat = 43 then (rd (ah vs) n k s).map fun x=>(.nd 63 [] 0 [x.1],x.2) else none:=by
  rw [rd];unfold fO
  dsimp only
  rw [if_neg (show ¬ (63 : UInt8).toNat = 91 by decide),if_pos (show (63 : UInt8).toNat = 63 from rfl)]
 have he0 : bt (e :: s) (Int.toNat 0) = e.toNat:=bH e s
 have hel : (e :: s).length = s.length + 1:=rfl
 have hk0 : bt (63 :: k) (Int.toNat 0) = 63:=bH 63 k
 have hkl2 : (63 :: k).length = k.length + 1:=rfl
 rw [hrd]
 by_cases h45 : e.toNat = 45
 ·rw [if_pos h45]
  refine jB [(0,_),(1,_),(2,_),(3,_)] Tryz.func50 Tryz.ntmps50 fun B hok hB hW=>?_
  repeat' (first | refine jM ?_ | (refine jo ?_;first | refine jO fun _=>?_ | refine aE F ?_) | refine aw F F F ?_ | (refine ac F (by first | rfl | (refine decide_eq_true ?_;(omega))) ?_) | refine ad F F ?_ | (refine an (ao (id:=10) _ (fun _ h=>h) am ?_);refine jW 5 [0,3,4] (aa 8 25) ?_;(refine jG (aa 8 27) 1 F (ay F F) ?_);refine jA 2 F ?_;(refine jO fun _=>?_);refine jS (aa 8 31) ?_;refine jT 0 [5,6,7] (aa 8 255) ?_;refine jQ ?_))
  rename_i y
  refine Nx.sealC (b:=y) fun G2 hG2 hsy=>?_
  refine jZ (vs:=[_,_,_]) F ⟨F,F,F,trivial⟩ F ⟨hG2,F,?_⟩
  rw [bI]
  exact ⟨_,_,_,F,fun _=>⟨_,y,F,F,.non k y hsy⟩,fun h=>(by cases h)⟩
 rw [if_neg h45]
 by_cases h43 : e.toNat = 43
 ·rw [if_pos h43]
  have cx_rd:=hR G k s h (fM (.inr rfl) hk) oM
  rw [← edn] at cx_rd
  refine jB [(0,_),(1,_),(2,_),(3,_)] Tryz.func50 Tryz.ntmps50 fun B hok hB hW=>?_
  repeat' (first | refine jM ?_ | (refine jo ?_;first | refine jO fun _=>?_ | refine aE F ?_ | refine jV (ay F F) ?_ | refine jF fun _=>?_) | refine aw F F F ?_ | refine ac F F ?_ | (refine ad F (by first | rfl | (refine decide_eq_false ?_;(omega))) ?_) | (refine an (ao (id:=13) _ (fun _ h=>h) am ?_);refine jW 9 [1,2,3,4,5,6] (aa 15 126) ?_;(refine jG (aa 15 127) 0 F (bS F F F F) ?_);refine jA 7 F ?_;(refine ar F F F cx_rd F ?_;rintro _ G hle ⟨q1,r1,ok1,rfl,hyes,hno⟩;skip);refine jS (aa 15 255) ?_;refine jT 0 [8,9,10,11,12,13,14] (aa 15 32767) ?_;refine jQ ?_))
  rename_i y1 y8
  refine Nx.sealC (b:=y1) fun G2 hG2 hs1=>?_
  refine Nx.sealC (b:=y8) fun G3 hG3 hsg=>?_
  refine jZ (vs:=[_,_,_]) F ⟨F,F,F,trivial⟩ F ⟨((hle.trans hG2).trans hG3),F,?_⟩
  rw [bI]
  refine ⟨_,_,_,F,fun hb=>?_,fun hb=>by rw [hno hb];rfl⟩
  obtain ⟨w,wb,rfl,hf,hrep⟩:=hyes hb
  exact ⟨.nd 63 [] 0 [w],y8,F,by rw [hf];rfl,.opt k y8 y1 wb 1 w (Nat.le_refl _) hsg (hs1.mono hG3) (hrep.mono (hG2.trans hG3))⟩
 ·rw [if_neg h43]
  refine jB [(0,_),(1,_),(2,_),(3,_)] Tryz.func50 Tryz.ntmps50 fun B hok hB hW=>?_
  repeat' (first | refine jM ?_ | (refine jo ?_;first | refine jO fun _=>?_ | refine aE F ?_) | refine aw F F F ?_ | (refine ac F (by first | rfl | (refine decide_eq_true ?_;(omega))) ?_) | (refine ad F (by first | rfl | (refine decide_eq_false ?_;(omega))) ?_))
  refine jZ (vs:=[_,_,_]) F ⟨F,F,F,trivial⟩ F ⟨Gh.le.refl _,F,?_⟩
  rw [bI]
  exact ⟨_,_,_,F,fun h=>(by cases h),fun _=>rfl⟩
theorem aaT {n : Nat} {u : Value} {vs : List cG} {k s : ael} {e : UInt8} {t : Ty} (hR : ld n u vs) (h : SchR G u vs) (hw : SchW (ah vs)) (hk : ax (ah vs) k = true) (hrf : aZ (ah vs) k = some t) (hs : s.length ≤ 1999999) (hn : n ≤ 999) :
  bJ aek 50 [Ag [u],S (e :: s),S k,I (n + 1 : Nat)] G (fc (ah vs) (rd (ah vs) (n + 1) k (e :: s)) k):=by
 obtain ⟨r,rfl⟩:=d5 hrf
 have hkk:=dz (dR hk)
 have hrd : rd (ah vs) (n + 1) (64 :: r) (e :: s) = bA (ah vs) (rd (ah vs) n) t (e :: s):=by
  rw [rd];unfold fO
  dsimp only
  rw [if_neg (show ¬ (64 : UInt8).toNat = 91 by decide),if_neg (show ¬ (64 : UInt8).toNat = 63 by decide),hrf]
 have hvl : vs.length ≤ 8:=by have:=hw.len;unfold ah at this;simpa using this
 have href:=fx vs (64 :: r)
 have cx_rf:=jl (k:=64 :: r) h oM hkk.1 oM
 rcases hr : fq vs (64 :: r) with _ | x
 ·rw [hr,hrf] at href;cases href
 rw [hr] at href cx_rf
 have htx : x.2 = t:=by rw [hrf] at href;exact Option.some.inj href
 subst htx
 have hx:=gz hr
 have cx_na : bJ aek 97 [Ag [u],S (e :: s),S (64 :: r),I (n + 1 : Nat)] G (fc (ah vs) (bA (ah vs) (rd (ah vs) n) x.2 (e :: s)) (64 :: r)):=by
  have hso:=(hw.ty _ (List.mem_map_of_mem hx)).sort
  by_cases h1 : x.2.sort = 82 ∧ e.toNat = 123
  ·obtain rfl:=bY h1.2 dC
   exact acr hR h hw hx hrf cx_rf h1.1 hs oM oM
  by_cases h2 : x.2.sort = 69 ∧ e.toNat = 35
  ·obtain rfl:=bY h2.2 dC
   exact acs h hw hx hrf cx_rf h2.1 hs oM
  by_cases h3 : x.2.sort = 85 ∧ e.toNat = 60
  ·obtain rfl:=bY h3.2 dC
   exact acq hR h hw hx hrf cx_rf h3.1 hs oM
  refine acp h.sl.one cx_rf ?_ oM oM
  rcases hso with h4 | h4 | h4 <;> omega
 have hel : (e :: s).length = s.length + 1:=rfl
 have hk0 : bt (64 :: r) (Int.toNat 0) = 64:=bH 64 r
 have hkl2 : (64 :: r).length = r.length + 1:=rfl
 refine jB [(0,_),(1,_),(2,_),(3,_)] Tryz.func50 Tryz.ntmps50 fun B hok hB hW=>?_
 repeat' (first | refine jM ?_ | (refine jo ?_;first | refine jO fun _=>?_ | refine aE F ?_ | refine bO F ?_ | (refine ar F F F cx_na F ?_;rintro _ G hle ⟨q1,r1,ok1,rfl,hyes,hno⟩;skip)) | refine aw F F F ?_ | refine ac F F ?_ | refine ad F F ?_)
 refine jZ (vs:=[_,_,_]) F ⟨F,F,F,trivial⟩ F ⟨hle,F,?_⟩
 rw [bI,hrd]
 exact ⟨_,_,_,F,hyes,hno⟩
theorem aaQ {n : Nat} {u : Value} {vs : List cG} {s : ael} {c e : UInt8} (hu : u.oneCell' = true) (hc : c = 110 ∨ c = 116 ∨ c = 102) (hr : aZ (ah vs) [c] = none) (hs : s.length ≤ 1999999) (hn : n ≤ 999) :
  bJ aek 50 [Ag [u],S (e :: s),S [c],I (n + 1 : Nat)] G (fc (ah vs) (rd (ah vs) (n + 1) [c] (e :: s)) [c]):=by
 have hrd:=lY (ts:=ah vs) (n:=n) (s:=e :: s) hc hr
 have hel : (e :: s).length = s.length + 1:=rfl
 have cx_pl : bJ aek 98 [Ag [u],S (e :: s),S [c]] G (fc (ah vs) (rd (ah vs) (n + 1) [c] (e :: s)) [c]):=by
  rw [hrd]
  rcases hc with rfl | rfl | rfl
  ·rw [if_pos rfl];exact yZ hu oM
  ·rw [if_neg dC,if_pos rfl];exact yY hu oM (by simp)
  ·rw [if_neg dC,if_neg dC];exact ze hu oM
 clear hrd
 rcases hc with rfl | rfl | rfl
 all_goals
  refine jB [(0,_),(1,_),(2,_),(3,_)] Tryz.func50 Tryz.ntmps50 fun B hok hB hW=>?_
  repeat' (first | refine jX ?_ | (refine jo ?_;first | refine jO fun _=>?_ | refine aE F ?_ | refine bO F ?_ | (refine ar F F F cx_pl F ?_;rintro _ G hle ⟨q1,r1,ok1,rfl,hyes,hno⟩;skip)) | refine aw F F F ?_ | refine ad F F ?_)
  refine jZ (vs:=[_,_,_]) F ⟨F,F,F,trivial⟩ F ⟨hle,F,?_⟩
  rw [bI]
  exact ⟨_,_,_,F,hyes,hno⟩
theorem gA {u : Value} {vs : List cG} (hw : SchW (ah vs)) : ∀ n,n ≤ 1000 → ld n u vs
 | 0,_=>fun G k s _ _ _=>vK (.inr rfl) oM
 | n + 1,hn=>fun G k s h hk hs=>by
  have hR:=gA (u:=u) (vs:=vs) hw n oM
  match s,hs with
  | [],_=>exact vK (.inl F) hn
  | e :: s,hs =>
   simp only [List.length_cons] at hs
   match k,hk with
   | [],hk=>cases hk
   | c :: k,hk =>
    by_cases h1 : c.toNat = 91
    ·obtain rfl:=bY h1 dC
     exact aaS hR h hk oM oM
    by_cases h2 : c.toNat = 63
    ·obtain rfl:=bY h2 dC
     exact aaR hR h hk oM oM
    have h91 : ¬ (c.toNat = 91 ∨ c.toNat = 63):=fun h=>by rcases h with h | h <;> omega
    cases hr : aZ (ah vs) (c :: k) with
    | some t=>exact aaT hR h hw hk hr oM oM
    | none =>
     rcases eg hk h91 hr with e1 | e1 | e1
     all_goals
      simp only [List.cons.injEq] at e1
      obtain ⟨rfl,rfl⟩:=e1
      exact aaQ h.sl.one (by simp) hr oM oM
theorem lJ {s k w : ael} (h : s.length ≤ 1048576 ∧ k.length ≤ 1048576 ∧ w.length ≤ 1048576) (hno : cY s k w = none) : bJ aek 21 [S s,S k,S w] G (fun v _=>∃ u q,v = Tu [u,.pointer q,Bo false]):=by
 by_cases hk : dE s k = true
 case neg =>
  have hk2 : dE s k = false:=by simpa using hk
  have cx_lk1 : ∀ G,bJ aek 49 [S s,S k] G (fun v _=>∃ u,v = Tu [u,Bo false]):=fun G=>by
   refine (ik (G:=G) (s:=s) (k:=k) oM oM).mono ?_
   rintro v G' L' ⟨h1,h2,u,vs,rfl,_⟩
   exact ⟨h1,h2,u,by rw [hk2]⟩
  refine jB [(0,_),(1,_),(2,_)] Tryz.func21 Tryz.ntmps21 fun B hok hB hW=>?_
  repeat' (first | refine jR ?_ | (refine jo ?_;first | refine aP F ?_ | (refine ar F F F (cx_lk1 _) F ?_;rintro _ G hle ⟨u1,rfl⟩;skip)) | refine aF F F F ?_ | refine ac F F ?_)
  all_goals refine jZ (vs:=[_,_,_]) F ⟨F,F,F,trivial⟩ F ⟨hle,F,?_⟩
  all_goals exact ⟨_,_,F⟩
 obtain ⟨ts,hs,hki,hw⟩:=lm hk
 have hvo : co ts k w = none:=by unfold cY at hno;rw [hs] at hno;dsimp only at hno;rwa [if_pos hki] at hno
 have cx_lka : ∀ G,bJ aek 49 [S s,S k] G (fun v G'=>∃ a c vs,v = Tu [.slice a vs.length c,Bo true] ∧ SchR G' (.slice a vs.length c) vs ∧ ah vs = ts):=fun G=>by
  refine (ik (G:=G) (s:=s) (k:=k) oM oM).mono ?_
  rintro v G' L' ⟨h1,h2,u,vs,rfl,h4,_,h6⟩
  obtain ⟨_,⟨rfl,h0⟩ | ⟨b,o,cap,rfl,_,_⟩⟩:=h4.sl
  ·exact ⟨h1,h2,none,0,vs,by rw [hk,h0],by rw [h0];exact h4,h6 ts hs hki⟩
  ·exact ⟨h1,h2,_,cap,vs,by rw [hk],h4,h6 ts hs hki⟩
 by_cases hl : w.length ≤ 400
 case neg =>
  refine jB [(0,_),(1,_),(2,_)] Tryz.func21 Tryz.ntmps21 fun B hok hB hW=>?_
  repeat' (first | refine jR ?_ | (refine jo ?_;first | refine aE F ?_ | (refine ar F F F (cx_lka _) F ?_;rintro _ G hle ⟨av1,cv1,vs1,rfl,hR1,hT1⟩;skip)) | refine aw F F F ?_ | refine ac F (aA oM) ?_)
  all_goals refine jZ (vs:=[_,_,_]) F ⟨F,F,F,trivial⟩ F ⟨hle,F,?_⟩
  all_goals exact ⟨_,_,F⟩
 refine jB [(0,_),(1,_),(2,_)] Tryz.func21 Tryz.ntmps21 fun B hok hB hW=>?_
 repeat' (first | refine jR ?_ | (refine jo ?_;first | refine aE F ?_ | refine jV (ay F F) ?_ | (refine ar F F F (cx_lka _) F ?_;rintro _ G hle ⟨av1,cv1,vs1,rfl,hR1,hT1⟩;skip)) | refine aw F F F ?_ | refine ad F (aH oM) ?_)
 have hR:=gA (u:=.slice av1 vs1.length cv1) (vs:=vs1) (by rw [hT1];exact hw) 12 oM G k w hR1 (by rw [hT1];exact hki) oM
 obtain ⟨f,hf⟩ : ∃ f,f = rd (ah vs1) 12 k w:=⟨_,rfl⟩
 rw [← hf] at hR
 have cx_rd:=hR
 clear hR
 repeat' (first | refine jR ?_ | (refine jo ?_;first | refine aP F ?_ | refine aE F ?_ | (refine ar F F F cx_rd F ?_;rintro _ G hle ⟨q1,r1,ok1,rfl,hyes,hno⟩;skip)) | refine me F F (fun _=>?_) (fun _=>?_))
 all_goals rename_i hok
 ·have hr : decide (r1 = []) = false:=decide_eq_false fun h=>by
   obtain ⟨v,b,_,h2,_⟩:=hyes hok
   unfold co at hvo
   rw [if_pos hl,← hT1,← hf,h2,h] at hvo
   cases hvo
  refine jZ (vs:=[_,_,_]) F ⟨F,F,F,trivial⟩ F ⟨(Gh.le.trans aS hle),F,?_⟩
  exact ⟨_,_,by rw [hr];rfl⟩
 ·refine jZ (vs:=[_,_,_]) F ⟨F,F,F,trivial⟩ F ⟨(Gh.le.trans aS hle),F,?_⟩
  exact ⟨_,_,F⟩
theorem aaY {s k w : ael} {v : V} {ts : List Ty} (h : s.length ≤ 1048576 ∧ k.length ≤ 1048576 ∧ w.length ≤ 1048576) (hs : a9 s = some ts) (hki : ax ts k = true) (hvo : co ts k w = some v) :
  bJ aek 21 [S s,S k,S w] G (fun r G'=>∃ u b,r = Tu [u,Pt b 0,Bo true] ∧ RepR G' ts v k b):=by
 have hw:=dV hs
 have hk : dE s k = true:=by unfold dE;rw [hs];exact hki
 have hl : w.length ≤ 400:=by
  by_cases hl : w.length ≤ 400
  ·exact hl
  ·unfold co at hvo;rw [if_neg hl] at hvo;cases hvo
 have h12 : rd ts 12 k w = some (v,[]):=by
  unfold co at hvo
  rw [if_pos hl] at hvo
  split at hvo
  ·rename_i v' hv;rw [hv];exact congrArg (fun x=>some (x,[])) (Option.some.inj hvo)
  ·cases hvo
 have cx_lka : ∀ G,bJ aek 49 [S s,S k] G (fun v G'=>∃ a c vs,v = Tu [.slice a vs.length c,Bo true] ∧ SchR G' (.slice a vs.length c) vs ∧ ah vs = ts):=fun G=>by
  refine (ik (G:=G) (s:=s) (k:=k) oM oM).mono ?_
  rintro v G' L' ⟨h1,h2,u,vs,rfl,h4,_,h6⟩
  obtain ⟨_,⟨rfl,h0⟩ | ⟨b,o,cap,rfl,_,_⟩⟩:=h4.sl
  ·exact ⟨h1,h2,none,0,vs,by rw [hk,h0],by rw [h0];exact h4,h6 ts hs hki⟩
  ·exact ⟨h1,h2,_,cap,vs,by rw [hk],h4,h6 ts hs hki⟩
 refine jB [(0,_),(1,_),(2,_)] Tryz.func21 Tryz.ntmps21 fun B hok hB hW=>?_
 repeat' (first | refine jR ?_ | (refine jo ?_;first | refine aE F ?_ | refine jV (ay F F) ?_ | (refine ar F F F (cx_lka _) F ?_;rintro _ G hle ⟨av1,cv1,vs1,rfl,hR1,hT1⟩;skip)) | refine aw F F F ?_ | refine ad F (aH oM) ?_)
 subst hT1
 have cx_rd : bJ aek 50 [Ag [.slice av1 vs1.length cv1],S w,S k,I (12 : Nat)] G (fun r G'=>∃ b,r = Tu [Pt b 0,S [],Bo true] ∧ RepR G' (ah vs1) v k b):=by
  refine (gA (u:=.slice av1 vs1.length cv1) (vs:=vs1) hw 12 oM G k w hR1 hki oM).mono ?_
  rintro r G' L' ⟨h1,h2,q,rest,ok,rfl,h3,h4⟩
  cases ok with
  | false=>rw [h12] at h4;cases h4 rfl
  | true =>
   obtain ⟨v',b,rfl,h5,h6⟩:=h3 rfl
   rw [h12] at h5
   simp only [Option.some.injEq,Prod.mk.injEq] at h5
   obtain ⟨rfl,rfl⟩:=h5
   exact ⟨h1,h2,b,F,h6⟩
 refine jo ?_
 refine ar F F F cx_rd F ?_
 rintro _ G2 hle2 ⟨b,rfl,hrep⟩
 repeat' (first | refine jR ?_ | (refine jo ?_;refine aP F ?_) | refine aF F F F ?_)
 refine jZ (vs:=[_,_,_]) F ⟨F,F,F,trivial⟩ F ⟨(Gh.le.trans hle hle2),F,?_⟩
 exact ⟨_,b,F,hrep⟩
theorem kw {x : ael} : ∀ {xs : List ael} {ps : List Int},cN xs = some ps → cN (xs ++ [x]) = (aQ x 999999).map fun n=>ps ++ [n]
 | [],ps,h=>by
  simp only [cN,Option.some.injEq] at h;subst h
  simp only [List.nil_append,cN]
  cases aQ x 999999 <;> rfl
 | y :: ys,ps,h=>by
  unfold cN at h
  cases hn : aQ y 999999 with
  | none=>rw [hn] at h;cases h
  | some n =>
   rw [hn] at h
   dsimp only at h
   cases hs : cN ys with
   | none=>rw [hs] at h;cases h
   | some q =>
    rw [hs] at h
    simp only [Option.map_some,Option.some.injEq] at h
    subst h
    rw [List.cons_append]
    unfold cN
    rw [hn]
    dsimp only
    rw [kw hs]
    cases aQ x 999999 <;> rfl
theorem pG {x : ael} {ys : List ael} (h : aQ x 999999 = none) : ∀ {xs : List ael},cN (xs ++ x :: ys) = none
 | []=>by simp only [List.nil_append,cN,h]
 | y :: xs=>by
  rw [List.cons_append]
  unfold cN
  cases aQ y 999999 with
  | none=>rfl
  | some n=>dsimp only;rw [pG h];rfl
abbrev acR : TypeId:=3
def yf (s : ael) (v : Value) (G : Gh) : Prop:=∃ a c n,v = Tu [.slice a n c,Bo (df s).isSome] ∧ ∀ p,df s = some p → n = p.length ∧ aN G (.slice a n c) 1 p.length (ag cL p)
theorem nk {s : ael} (h : s ≠ []) : df s = match cN (a8 47 s) with
  | some p=>if p.length ≤ 8 then some p else none
  | none=>none:=by
 unfold df;rw [if_neg h]
 all_goals (cases cN (a8 47 s) <;> rfl)
theorem p5 {s : ael} (h : s ≠ []) {i : Nat} (hi : i < (a8 47 s).length) (hn : aQ (ab (a8 47 s) i) 999999 = none) : df s = none:=by
 rw [nk h]
 have e : a8 47 s = (a8 47 s).take i ++ ab (a8 47 s) i :: (a8 47 s).drop (i + 1):=by
  rw [aI hi,List.getElem_cons_drop,List.take_append_drop]
 rw [e,pG hn]
theorem ug {s : ael} (h : s.length ≤ 1048576) : bJ aek 23 [S s] G (yf s):=by
 by_cases h0 : s = []
 ·subst h0
  refine jB [(0,_)] Tryz.func23 Tryz.ntmps23 fun B hok hB hW=>?_
  repeat' (first | refine jR ?_ | (refine jo ?_;refine jF fun _=>?_) | refine ac F F ?_)
  rename_i x
  refine Nx.blkAcc (m:=0) (sz:=1) .here F ?_
  refine Nx.sealS (v:=.slice (some ⟨x,0,none⟩) 0 0) fun G2 hG2 hsl=>?_
  refine jZ (vs:=[_,_]) F ⟨F,F,trivial⟩ F ⟨hG2,F,?_⟩
  exact ⟨_,_,_,F,fun p hp=>by
   obtain rfl : p = []:=by unfold df at hp;simpa using hp.symm
   exact ⟨F,hsl⟩⟩
 have cx_cutS : bJ aek 56 [S s,U8 47] G (fun v G'=>aN G' v 1 (a8 47 s).length (ag dc (a8 47 s))):=px (k:=47) oM
 have hcl:=ir (k:=47) (s:=s)
 have hbad:=fun {i : Nat}=>p5 h0 (i:=i)
 have hpo:=nk h0
 have hxl : ∀ i,i < (a8 47 s).length → (ab (a8 47 s) i).length ≤ 100000000:=fun i hi=>by
  have:=dD (bC hi)
  omega
 generalize a8 47 s = xs at *
 refine jB [(0,_)] Tryz.func23 Tryz.ntmps23 fun B hok hB hW=>?_
 repeat' (first | refine jR ?_ | (refine jo ?_;first | refine jF fun _=>?_ | (refine ar F F F cx_cutS F ?_;rintro _ G hle hcut;skip)) | refine ad F (aH ‹_›) ?_)
 rename_i x _
 obtain ⟨la,lc,rfl⟩:=hcut.sl
 refine Nx.blkAcc (m:=0) (sz:=1) .here F ?_
 refine aW (ι:=List Int × Option Addr × Nat × Nat) (fun j=>(j.1.length = j.2.2.2 ∧ j.2.2.2 ≤ xs.length) ∧ cN (xs.take j.2.2.2) = some j.1) (fun j=>[(4,.slice j.2.1 j.1.length j.2.2.1),(5,.slice la xs.length lc),(6,I j.2.2.2)]) (fun _=>G) (fun j=>[.acc (.slice j.2.1 j.1.length j.2.2.1) acR 1 j.1.length (ag cL j.1)]) (fun j=>xs.length - j.2.2.2) ([],some ⟨x,0,none⟩,0,0) ?_ tU F bc (fun j Hj=>?_)
 ·exact ⟨⟨F,Nat.zero_le _⟩,F⟩
 obtain ⟨ps,a,c,i⟩:=j
 dsimp only at Hj ⊢
 obtain ⟨⟨hpl,hi0⟩,hst⟩:=Hj
 by_cases hi : i < xs.length
 ·obtain ⟨bl,ol,cl,e,hsx⟩:=hcut.expl oM
  simp only [Value.slice.injEq] at e
  obtain ⟨rfl,-,rfl⟩:=e
  have hxl1:=hxl i hi
  cases hn : aQ (ab xs i) 999999 with
  | none =>
   have hno:=hbad hi hn
   have hns : (!(aQ (ab xs i) 999999).isSome) = true:=by rw [hn];rfl
   repeat' (first | refine jR ?_ | (refine jo ?_;first | refine jV (af F) ?_ | refine jV (ak F F oM) ?_ | (refine jV (fR F F aS ?_) ?_;focus omega) | (refine eE F F F (iu oM) F ?_;rintro _ ⟨n,rfl,hnum⟩)) | (refine ac F (by first | assumption | (refine decide_eq_true ?_;(omega))) ?_))
   all_goals refine jZ (vs:=[_,_]) F ⟨F,F,trivial⟩ F ⟨hle,F,?_⟩
   all_goals exact ⟨_,_,_,by rw [hno];rfl,fun p hp=>by rw [hno] at hp;cases hp⟩
  | some m =>
   have hns : (!(aQ (ab xs i) 999999).isSome) = false:=by rw [hn];rfl
   repeat' (first | refine jM ?_ | (refine jo ?_;first | refine jF fun _=>?_ | refine jV (af F) ?_ | refine jV (ak F F oM) ?_ | (refine jV (fR F F aS ?_) ?_;focus omega) | refine bG F F F F F F F F F oM fun _ _=>?_ | (refine eE F F F (iu oM) F ?_;rintro _ ⟨n,rfl,hnum⟩)) | refine ac F (aA oM) ?_ | refine ad F ‹_› ?_)
   rename_i y1 yc
   have hmn:=hnum m hn
   subst hmn
   have hst2 : cN (xs.take (i + 1)) = some (ps ++ [n]):=by rw [dO hi,kw hst,hn];rfl
   have hl1 : (ps ++ [n]).length = ps.length + 1:=by simp
   rw [show ag cL ps ++ [I n] = ag cL (ps ++ [n]) from (bX cL ps n).symm]
   exact br (ps ++ [n],some ⟨y1,0,none⟩,yc,i + 1) ⟨⟨by dsimp only;omega,by dsimp only;omega⟩,hst2⟩ (by dsimp only;omega) (by rw [hl1];repeat (first | exact trivial | refine ⟨F,?_⟩)) F (by rw [hl1];repeat (first | exact List.nil_sublist _ | apply List.Sublist.cons_cons))
 ·rw [List.take_of_length_le oM] at hst
  rw [hst] at hpo
  dsimp only at hpo
  repeat' (first | refine jR ?_ | (refine jo ?_;refine jV (af F) ?_) | refine ad F (aH oM) ?_)
  refine Nx.sealS (v:=.slice a ps.length c) fun G2 hG2 hsl=>?_
  refine jZ (vs:=[_,_]) F ⟨F,F,trivial⟩ F ⟨hle.trans hG2,F,?_⟩
  have e8 : decide (((xs.length : Nat) : Int) ≤ 8) = (df s).isSome:=by
   rw [hpo]
   by_cases h8 : ps.length ≤ 8
   ·rw [if_pos h8];exact decide_eq_true oM
   ·rw [if_neg h8];exact decide_eq_false oM
  refine ⟨_,_,_,by rw [e8];rfl,fun p hp=>?_⟩
  rw [hpo] at hp
  split at hp
  ·simp only [Option.some.injEq] at hp;subst hp;exact ⟨F,hsl⟩
  ·cases hp
theorem abw {ts : List Ty} {c : UInt8} {r : ael} (h : c.toNat ≠ 64) : aZ ts (c :: r) = none:=by
 cases h2 : aZ ts (c :: r) with
 | none=>rfl
 | some t=>exact (dB h2 F h).elim
theorem yQ {p : Nat → Prop} {n : Nat} (h : ∃ j,j < n ∧ p j) : ∃ j,j < n ∧ p j ∧ ∀ i,i < j → ¬ p i:=by
 obtain ⟨j,hj,hp⟩:=h
 induction j using Nat.strongRecOn with
 | _ j ih =>
  by_cases hc : ∃ i,i < j ∧ p i
  ·obtain ⟨i,hi,hpi⟩:=hc
   exact ih i hi oM hpi
  ·exact ⟨j,hj,hp,fun i hi hpi=>hc ⟨i,hi,hpi⟩⟩
theorem oQ {f : Fld} : ∀ {fs : List (Fld × V)} {j : Nat},j < fs.length → (ab fs j).1.tag = f.tag → (∀ i,i < j → (ab fs i).1.tag ≠ f.tag) → cF f (fs.map aq) = some (ab fs j).2
 | [],j,hj,_,_=>by simp at hj
 | p :: fs,0,_,ht,_=>by
  rw [List.map_cons,cF,if_pos (show (aq p).tag = f.tag from ht)];rfl
 | p :: fs,j + 1,hj,ht,hno=>by
  rw [List.map_cons,cF,if_neg (show ¬ (aq p).tag = f.tag from hno 0 oM)]
  exact oQ (fs:=fs) (j:=j) (by simpa using hj) ht fun i hi=>hno (i + 1) oM
theorem oP {f : Fld} : ∀ {fs : List (Fld × V)},(∀ i,i < fs.length → (ab fs i).1.tag ≠ f.tag) → cF f (fs.map aq) = none
 | [],_=>rfl
 | p :: fs,h=>by
  rw [List.map_cons,cF,if_neg (show ¬ (aq p).tag = f.tag from h 0 (by simp))]
  exact oP fun i hi=>h (i + 1) (by simpa using hi)
theorem iS {ts : List Ty} {k w : ael} {v : V} (h : co ts k w = some v) : rd ts 12 k w = some (v,[]) ∧ w.length ≤ 400:=by
 unfold co at h
 split at h
 ·rename_i hl
  split at h
  ·rename_i v' hv;rw [hv];exact ⟨congrArg (fun x=>some (x,[])) (Option.some.inj h),hl⟩
  ·cases h
 ·cases h
theorem ady {b j : Nat} {k : ael} {tg : List Int} {bs : List Nat} {a a2 : Option Addr} {c c2 : Nat} {n : Int} (hl : bs.length = tg.length) (h9 : tg.length ≤ 100000) (hs : bU G b 0 [S k,S [82],.slice a tg.length c,.slice a2 tg.length c2]) (h1 : aN G (.slice a tg.length c) 1 tg.length (ag cL tg)) (h2 : aN G (.slice a2 tg.length c2) 1 tg.length (ag dH bs)) (hj : j < tg.length) (hjn : ab tg j = n) (hno : ∀ i,i < j → ab tg i ≠ n) :
  a7 aek 101 [Pt b 0,I n] G (· = Tu [Pt (ab bs j) 0,Bo true]):=by
 obtain ⟨xb,xo,xc,e,hs1⟩:=h1.expl oM
 simp only [Value.slice.injEq] at e
 obtain ⟨rfl,-,rfl⟩:=e
 obtain ⟨zb,zo,zc,e,hs2⟩:=h2.expl oM
 simp only [Value.slice.injEq] at e
 obtain ⟨rfl,-,rfl⟩:=e
 refine jE [(0,_),(1,_)] Tryz.func101 Tryz.ntmps101 fun B hB=>?_
 repeat' (refine jR ?_)
 refine aW (ι:=Nat) (fun i=>i ≤ j) (fun i=>[(0,Pt b 0),(1,I n),(6,I i)]) (fun _=>G) (fun i=>[]) (fun i=>j - i) 0 ?_ tU F bc (fun i Hi=>?_)
 ·exact Nat.zero_le _
 have hxi : ab bs i = ab bs i:=rfl
 have hti : ab tg i = ab tg i:=rfl
 by_cases hij : i = j
 ·subst hij
  repeat' (first | refine jR ?_ | (refine jo ?_;first | refine jV (aj F F aS F F) ?_ | (refine jV (cn F F aS ?_ aS F) ?_;focus omega) | refine jV (af F) ?_ | refine aP F ?_ | refine jV (ak F F oM) ?_) | refine aF F F (aA oM) ?_ | (refine ac F (by first | rfl | (refine decide_eq_true ?_;(rfl))) ?_))
  all_goals refine jY (vs:=[_,_]) ?_
  all_goals rfl
 ·have h3:=hno i oM
  repeat' (first | refine jM ?_ | (refine jo ?_;first | refine jV (aj F F aS F F) ?_ | (refine jV (cn F F aS ?_ aS F) ?_;focus omega) | refine jV (af F) ?_ | refine aP F ?_ | refine jV (ak F F oM) ?_) | refine aF F F (aA oM) ?_ | refine ac F F ?_ | refine ad F (aH ‹_›) ?_)
  exact br (i + 1) (show i + 1 ≤ j by have : i ≤ j:=Hi;omega) (by have : i ≤ j:=Hi;omega) tU rfl bc
theorem adz {b : Nat} {k : ael} {tg : List Int} {a a2 : Option Addr} {c c2 : Nat} {n : Int} (h9 : tg.length ≤ 100000) (hs : bU G b 0 [S k,S [82],.slice a tg.length c,.slice a2 tg.length c2]) (h1 : aN G (.slice a tg.length c) 1 tg.length (ag cL tg)) (hno : ∀ i,i < tg.length → ab tg i ≠ n) :
  a7 aek 101 [Pt b 0,I n] G (· = Tu [.pointer none,Bo false]):=by
 refine jE [(0,_),(1,_)] Tryz.func101 Tryz.ntmps101 fun B hB=>?_
 repeat' (refine jR ?_)
 refine aW (ι:=Nat) (fun i=>i ≤ tg.length) (fun i=>[(0,Pt b 0),(1,I n),(6,I i)]) (fun _=>G) (fun i=>[]) (fun i=>tg.length - i) 0 ?_ tU F bc (fun i Hi=>?_)
 ·exact Nat.zero_le _
 by_cases hi : i < tg.length
 ·obtain ⟨xb,xo,xc,e,hs1⟩:=h1.expl oM
  simp only [Value.slice.injEq] at e
  obtain ⟨rfl,-,rfl⟩:=e
  have h3:=hno i hi
  have hti : ab tg i = ab tg i:=rfl
  repeat' (first | refine jM ?_ | (refine jo ?_;first | refine jV (aj F F aS F F) ?_ | (refine jV (cn F F aS ?_ aS F) ?_;focus omega) | refine jV (af F) ?_ | refine aP F ?_ | refine jV (ak F F oM) ?_) | refine aF F F (aA oM) ?_ | refine ac F F ?_ | refine ad F (aH ‹_›) ?_)
  exact br (i + 1) oM oM tU F bc
 ·repeat' (first | refine jR ?_ | (refine jo ?_;first | refine jV (aj F F aS F F) ?_ | refine jV (af F) ?_ | refine aE F ?_) | refine aw F F (aH oM) ?_ | refine ad F F ?_)
  all_goals refine jY (vs:=[_,_]) ?_
  all_goals rfl
theorem qr {u : Value} {x : cG} {k : ael} {n : Int} (hu : u.oneCell' = true) (hf : aN G (gx x) 4 x.2.fields.length (ag ig x.2.fields)) (hl : x.2.fields.length ≤ 1000) (cx_rf : a7 aek 136 [u,S k] G (· = Tu [Ag [U8 x.2.sort,S x.2.name,gx x],Bo true])) (hso : x.2.sort = 82) :
  a7 aek 100 [u,S k,I n] G (· = Tu [Ag (ig ((cm x.2.fields n).getD zF)),Bo (cm x.2.fields n).isSome]):=by
 have cx_fld:=uq (tag:=n) hf hl
 obtain ⟨⟨a,ca⟩,⟨so,nm,fs⟩⟩:=x
 dsimp only at hso cx_fld cx_rf ⊢
 subst hso
 dsimp only [gx] at cx_fld cx_rf ⊢
 cases hg : cm fs n with
 | none =>
  rw [hg] at cx_fld
  simp only [Option.getD_none,Option.isSome_none] at cx_fld ⊢
  refine jE [(0,_),(1,_),(2,_)] Tryz.func100 Tryz.ntmps100 fun B hB=>?_
  repeat' (first | refine jR ?_ | (refine jo ?_;first | refine jL fun _=>?_ | refine jC F F F ?_ | refine bO F ?_ | refine ae F F F cx_rf F ?_ | refine ae F F F cx_fld F ?_) | (refine an (em (id:=3) (tt:=6) F am ?_);refine jW 10 [1,2] (aa 12 6) ?_;(try (refine Nx.re (d:=26) (v':=Bo true) F (congrArg Value.bool F) ?_));refine jW 9 [3] (aa 12 14) ?_;(refine jG (aa 12 15) 0 F (bS F F F F) ?_);((refine jG (aa 12 31) 4 F (bR F F ?_) ?_;(focus ((rfl);done))));refine jW 6 [5] (aa 12 63) ?_;(try (refine Nx.re (d:=29) (v':=Bo false) F (congrArg Value.bool F) ?_));refine jW 5 [6] (aa 12 127) ?_;(refine jN (aa 12 255) 7 F ?_);refine jW 3 [8] (aa 12 511) ?_;((refine jG (aa 12 1023) 9 F (bm F F ?_) ?_;(focus ((rfl);done))));refine jA 10 F ?_;(refine jC F F F ?_);refine jK (aa 12 2047) ?_;refine jW 0 [11] (aa 12 4095) ?_;refine jQ ?_))
  all_goals refine jZ (vs:=[_,_]) F ⟨aJ F F F F,F,trivial⟩ F ⟨F,F,?_⟩
  all_goals rfl
 | some f =>
  rw [hg] at cx_fld
  simp only [Option.getD_some,Option.isSome_some] at cx_fld ⊢
  refine jE [(0,_),(1,_),(2,_)] Tryz.func100 Tryz.ntmps100 fun B hB=>?_
  repeat' (first | refine jR ?_ | (refine jo ?_;first | refine jL fun _=>?_ | refine jC F F F ?_ | refine bO F ?_ | refine ae F F F cx_rf F ?_ | refine ae F F F cx_fld F ?_) | (refine an (em (id:=3) (tt:=6) F am ?_);refine jW 10 [1,2] (aa 12 6) ?_;(try (refine Nx.re (d:=26) (v':=Bo true) F (congrArg Value.bool F) ?_));refine jW 9 [3] (aa 12 14) ?_;(refine jG (aa 12 15) 0 F (bS F F F F) ?_);((refine jG (aa 12 31) 4 F (bR F F ?_) ?_;(focus ((rfl);done))));refine jW 6 [5] (aa 12 63) ?_;(try (refine Nx.re (d:=29) (v':=Bo true) F (congrArg Value.bool F) ?_));refine jW 5 [6] (aa 12 127) ?_;(refine jG (aa 12 255) 7 F (aV F F F) ?_);refine jW 3 [8] (aa 12 511) ?_;((refine jG (aa 12 1023) 9 F (bR F F ?_) ?_;(focus ((rfl);done))));refine jA 10 F ?_;(refine jC F F F ?_);refine jK (aa 12 2047) ?_;refine jW 0 [11] (aa 12 4095) ?_;refine jQ ?_))
  all_goals refine jZ (vs:=[_,_]) F ⟨aJ F F F F,F,trivial⟩ F ⟨F,F,?_⟩
  all_goals rfl
def gU (ts : List Ty) (o : Option (ael × V)) (r : Value) (G' : Gh) : Prop:=(o = none ∧ ∃ q,r = Tu [.pointer q,Bo false]) ∨ ∃ k' v' b',o = some (k',v') ∧ r = Tu [Pt b' 0,Bo true] ∧ RepR G' ts v' k' b'
theorem gU.no {f : FuncId} {args : List Value} {ts : List Ty} {o : Option (ael × V)} (h : bJ aek f args G (gU ts o)) (e : o = none) : bJ aek f args G (fun r _=>∃ q,r = Tu [.pointer q,Bo false]):=by
 refine h.mono ?_
 rintro v G' L' ⟨h1,h2,⟨_,h3⟩ | ⟨k',v',b',h3,_⟩⟩
 ·exact ⟨h1,h2,h3⟩
 ·rw [e] at h3;cases h3
theorem gU.yes {f : FuncId} {args : List Value} {ts : List Ty} {o : Option (ael × V)} {k' : ael} {v' : V} (h : bJ aek f args G (gU ts o)) (e : o = some (k',v')) : bJ aek f args G (fun r G'=>∃ b',r = Tu [Pt b' 0,Bo true] ∧ RepR G' ts v' k' b'):=by
 refine h.mono ?_
 rintro v G' L' ⟨h1,h2,⟨h3,_⟩ | ⟨k2,v2,b',h3,h4,h5⟩⟩
 ·rw [e] at h3;cases h3
 ·rw [e] at h3
  simp only [Option.some.injEq,Prod.mk.injEq] at h3
  obtain ⟨rfl,rfl⟩:=h3
  exact ⟨h1,h2,b',h4,h5⟩
theorem ji {ts : List Ty} {c : UInt8} {r : ael} {v : V} {n : Int} (h1 : c.toNat ≠ 91) (h2 : c.toNat ≠ 63) (h3 : c.toNat ≠ 64) : aB ts (c :: r) v n = none:=by
 unfold aB;dsimp only;rw [if_neg (fun h=>by rcases h with h | h;exact h1 h;exact h2 h),abw h3]
theorem dZ {ts : List Ty} {c : UInt8} {r : ael} {v : V} {n : Int} (h : c.toNat = 91 ∨ c.toNat = 63) : aB ts (c :: r) v n = if n < (v.kids.length : Nat) then some (r,ab v.kids n.toNat) else none:=by
 unfold aB;dsimp only;rw [if_pos h]
theorem eB {ts : List Ty} {k : ael} {v : V} {n : Int} {t : Ty} (h : aZ ts k = some t) : aB ts k v n = match cm t.fields n with
  | none=>none
  | some f=>if t.sort = 69 then none else if t.sort = 82 then some (f.kind,cZ ts v f) else if v.tag = n then some (f.kind,ab v.kids 0) else none:=by
 obtain ⟨r,rfl⟩:=d5 h
 unfold aB;dsimp only;rw [if_neg dC,h]
 all_goals rfl
theorem n5 {u : Value} {vs : List cG} (h : SchR G u vs) (hw : SchW (ah vs)) {k : ael} {v : V} {b : Nat} (hr : RepR G (ah vs) v k b) (ho : OfK (ah vs) k v) (hki : ax (ah vs) k = true) {n : Int} (hn : 0 ≤ n ∧ n ≤ 999999) (htt : v.tot ≤ 1000000) :
  bJ aek 54 [u,Pt b 0,I n] G (gU (ah vs) (aB (ah vs) k v n)):=by
 have hu:=h.sl.one
 obtain ⟨ua,uc,rfl⟩:=h.sl.sl
 cases hr with
 | leaf w x k tx b h1 h2 =>
  have hn82 : ¬ tx = [82]:=by
   rcases h2 with ⟨_,_,rfl,h⟩ | ⟨_,_,rfl⟩ | ⟨_,_,rfl,h⟩
   ·rintro rfl;exact absurd (h 82 (by simp)) dC
   ·simp
   ·rcases h with rfl | rfl <;> decide
  have hn85 : ¬ tx = [85]:=by
   rcases h2 with ⟨_,_,rfl,h⟩ | ⟨_,_,rfl⟩ | ⟨_,_,rfl,h⟩
   ·rintro rfl;exact absurd (h 85 (by simp)) dC
   ·simp
   ·rcases h with rfl | rfl <;> decide
  have hno : aB (ah vs) k (.nd w x 0 []) n = none:=by
   rcases h2 with ⟨_,rfl,_⟩ | ⟨_,rfl,_⟩ | ⟨_,rfl,_⟩
   all_goals exact ji dC dC dC
  rw [hno]
  rcases h2 with ⟨rfl,rfl,_⟩ | ⟨rfl,rfl,_⟩ | ⟨rfl,rfl,_⟩
  all_goals
   refine jB [(0,_),(1,_),(2,_)] Tryz.func54 Tryz.ntmps54 fun B hok hB hW=>?_
   repeat' (first | refine jX ?_ | (refine jo ?_;first | refine jV (aj F F aS F F) ?_ | refine aE F ?_) | (refine aw F F (by first | rfl | (refine decide_eq_false ?_;(assumption))) ?_) | refine ad F F ?_)
   all_goals refine jZ (vs:=[_,_]) F ⟨F,F,trivial⟩ F ⟨Gh.le.refl _,F,?_⟩
   all_goals exact .inl ⟨F,_,F⟩
 | lst k b ks bs a c h1 h2 h3 hk =>
  have hk0 : bt (91 :: k) (Int.toNat 0) = 91:=bH 91 k
  have hkl2 : (91 :: k).length = k.length + 1:=rfl
  have hst:=dZ (ts:=ah vs) (c:=91) (r:=k) (v:=.nd 91 [] 0 ks) (n:=n) (.inl rfl)
  rw [V.kids] at hst
  rw [hst]
  by_cases hn2 : n < ((ks.length : Nat) : Int)
  ·obtain ⟨i,rfl⟩ : ∃ i : Nat,n = i:=⟨n.toNat,oM⟩
   obtain ⟨kb,ko,kc,e,hs⟩:=h2.expl oM
   simp only [Value.slice.injEq] at e
   obtain ⟨rfl,-,rfl⟩:=e
   have hxi : ab bs i = ab bs i:=rfl
   rw [if_pos hn2]
   refine jB [(0,_),(1,_),(2,_)] Tryz.func54 Tryz.ntmps54 fun B hok hB hW=>?_
   repeat' (first | refine jM ?_ | (refine jo ?_;first | refine jV (aj F F aS F F) ?_ | (refine jV (cn F F aS ?_ aS F) ?_;focus omega) | refine aP F ?_ | refine jV (af F) ?_ | refine jV (ak F F oM) ?_) | refine aF F F F ?_ | refine ac F F ?_ | refine ad F (aH oM) ?_)
   all_goals refine jZ (vs:=[_,_]) F ⟨F,F,trivial⟩ F ⟨Gh.le.refl _,F,?_⟩
   all_goals exact .inr ⟨_,_,ab bs i,F,F,hk i oM⟩
  ·rw [if_neg hn2]
   refine jB [(0,_),(1,_),(2,_)] Tryz.func54 Tryz.ntmps54 fun B hok hB hW=>?_
   repeat' (first | refine jM ?_ | (refine jo ?_;first | refine jV (aj F F aS F F) ?_ | refine aP F ?_ | refine jV (af F) ?_) | refine aF F F F ?_ | (refine ac F (by first | rfl | (refine decide_eq_true ?_;(omega))) ?_))
   all_goals refine jZ (vs:=[_,_]) F ⟨F,F,trivial⟩ F ⟨Gh.le.refl _,F,?_⟩
   all_goals exact .inl ⟨F,_,F⟩
 | non k b h1 =>
  have hk0 : bt (63 :: k) (Int.toNat 0) = 63:=bH 63 k
  have hkl2 : (63 :: k).length = k.length + 1:=rfl
  have hst:=dZ (ts:=ah vs) (c:=63) (r:=k) (v:=.nd 63 [] 0 []) (n:=n) (.inr rfl)
  rw [V.kids,if_neg (by simp;omega)] at hst
  rw [hst]
  refine jB [(0,_),(1,_),(2,_)] Tryz.func54 Tryz.ntmps54 fun B hok hB hW=>?_
  repeat' (first | refine jM ?_ | (refine jo ?_;first | refine jV (aj F F aS F F) ?_ | refine aE F ?_ | refine jV (af F) ?_) | refine aw F F F ?_ | (refine ac F (by first | rfl | (refine decide_eq_true ?_;(omega))) ?_))
  all_goals refine jZ (vs:=[_,_]) F ⟨F,F,trivial⟩ F ⟨Gh.le.refl _,F,?_⟩
  all_goals exact .inl ⟨F,_,F⟩
 | opt k b kb b' cc w h0 h1 h2 h3 =>
  have hk0 : bt (63 :: k) (Int.toNat 0) = 63:=bH 63 k
  have hkl2 : (63 :: k).length = k.length + 1:=rfl
  have hst:=dZ (ts:=ah vs) (c:=63) (r:=k) (v:=.nd 63 [] 0 [w]) (n:=n) (.inr rfl)
  rw [V.kids] at hst
  rw [hst]
  by_cases hn2 : n = 0
  ·subst hn2
   rw [if_pos (by simp)]
   refine jB [(0,_),(1,_),(2,_)] Tryz.func54 Tryz.ntmps54 fun B hok hB hW=>?_
   repeat' (first | refine jM ?_ | (refine jo ?_;first | refine jV (aj F F aS F F) ?_ | refine aE F ?_ | refine jV (af F) ?_ | refine jV (aT F F oM) ?_) | refine aw F F F ?_ | refine ac F F ?_ | refine ad F F ?_)
   all_goals refine jZ (vs:=[_,_]) F ⟨F,F,trivial⟩ F ⟨Gh.le.refl _,F,?_⟩
   all_goals exact .inr ⟨_,_,b',F,F,h3⟩
  ·rw [if_neg (by simp;omega)]
   refine jB [(0,_),(1,_),(2,_)] Tryz.func54 Tryz.ntmps54 fun B hok hB hW=>?_
   repeat' (first | refine jM ?_ | (refine jo ?_;first | refine jV (aj F F aS F F) ?_ | refine aE F ?_ | refine jV (af F) ?_) | refine aw F F F ?_ | (refine ac F (by first | rfl | (refine decide_eq_true ?_;(omega))) ?_))
   all_goals refine jZ (vs:=[_,_]) F ⟨F,F,trivial⟩ F ⟨Gh.le.refl _,F,?_⟩
   all_goals exact .inl ⟨F,_,F⟩
 | enm k b tgb t d h0 h1 h2 h3 =>
  have hst:=eB (v:=.nd 69 [] d.tag []) (n:=n) h0.1
  have hno : aB (ah vs) k (.nd 69 [] d.tag []) n = none:=by
   rw [hst]
   cases cm t.fields n with
   | none=>rfl
   | some f=>dsimp only;rw [if_pos h0.2]
  rw [hno]
  obtain ⟨r,rfl⟩:=d5 h0.1
  have hk0 : bt (64 :: r) (Int.toNat 0) = 64:=bH 64 r
  have hkl2 : (64 :: r).length = r.length + 1:=rfl
  refine jB [(0,_),(1,_),(2,_)] Tryz.func54 Tryz.ntmps54 fun B hok hB hW=>?_
  repeat' (first | refine jM ?_ | (refine jo ?_;first | refine jV (aj F F aS F F) ?_ | refine aE F ?_) | refine aw F F F ?_ | refine ad F F ?_)
  all_goals refine jZ (vs:=[_,_]) F ⟨F,F,trivial⟩ F ⟨Gh.le.refl _,F,?_⟩
  all_goals exact .inl ⟨F,_,F⟩
 | uni k b tgb kb b' cc t d w hcc h0 h1 h2 h3 h4 hk =>
  have hst:=eB (v:=.nd 85 [] d.tag [w]) (n:=n) h0.1
  have hTW:=hw.ty _ (bj h0.1)
  have hso:=h0.2
  obtain ⟨r,rfl⟩:=d5 h0.1
  have hk0 : bt (64 :: r) (Int.toNat 0) = 64:=bH 64 r
  have hkl2 : (64 :: r).length = r.length + 1:=rfl
  by_cases hdn : d.tag = n
  ·have hyes : aB (ah vs) (64 :: r) (.nd 85 [] d.tag [w]) n = some (d.kind,w):=by
    rw [hst,← hdn,i8 hTW h1]
    dsimp only
    rw [if_neg oM,if_neg oM,if_pos (show V.tag (.nd 85 [] d.tag [w]) = d.tag from rfl)];rfl
   rw [hyes]
   refine jB [(0,_),(1,_),(2,_)] Tryz.func54 Tryz.ntmps54 fun B hok hB hW=>?_
   repeat' (first | refine jM ?_ | (refine jo ?_;first | refine jV (aj F F aS F F) ?_ | refine aP F ?_ | refine aE F ?_) | refine aF F F F ?_ | refine aw F F F ?_ | refine ac F F ?_ | refine ad F F ?_)
   (refine an (ao (id:=6) _ (fun _ h=>h) am ?_);refine jT 9 [0,1,2,6,7,8,12] (aa 16 4551) ?_;(refine jG (aa 16 4559) 3 F (aj F F aS F F) ?_);(refine jG (aa 16 4575) 4 F (aT F F oM) ?_);(refine jG (aa 16 4607) 5 F (aj F F aS F F) ?_);refine jT 5 [14] (aa 16 20991) ?_;(refine jG (aa 16 21503) 9 F (aj F F aS F F) ?_);(refine jG (aa 16 22527) 10 F (aT F F oM) ?_);(refine jG (aa 16 24575) 11 F (aj F F aS F F) ?_);refine jT 0 [13,15] (aa 16 65535) ?_;refine jQ ?_)
   all_goals repeat' (refine jR ?_)
   all_goals refine jZ (vs:=[_,_]) F ⟨F,F,trivial⟩ F ⟨Gh.le.refl _,F,?_⟩
   all_goals (try rw [decide_eq_true hdn])
   all_goals exact .inr ⟨_,_,b',F,F,hk⟩
  ·have hno : aB (ah vs) (64 :: r) (.nd 85 [] d.tag [w]) n = none:=by
    rw [hst]
    cases cm t.fields n with
    | none=>rfl
    | some f =>
     dsimp only
     rw [if_neg oM,if_neg oM,if_neg (show ¬ V.tag (.nd 85 [] d.tag [w]) = n from hdn)]
   rw [hno]
   refine jB [(0,_),(1,_),(2,_)] Tryz.func54 Tryz.ntmps54 fun B hok hB hW=>?_
   repeat' (first | refine jM ?_ | (refine jo ?_;first | refine jV (aj F F aS F F) ?_ | refine aP F ?_ | refine aE F ?_) | refine aF F F F ?_ | refine aw F F F ?_ | refine ac F F ?_ | refine ad F F ?_)
   (refine an (ao (id:=6) _ (fun _ h=>h) am ?_);refine jT 9 [0,1,2,6,7,8,12] (aa 16 4551) ?_;(refine jG (aa 16 4559) 3 F (aj F F aS F F) ?_);(refine jG (aa 16 4575) 4 F (aT F F oM) ?_);(refine jG (aa 16 4607) 5 F (aj F F aS F F) ?_);refine jT 5 [14] (aa 16 20991) ?_;(refine jG (aa 16 21503) 9 F (aj F F aS F F) ?_);(refine jG (aa 16 22527) 10 F (aT F F oM) ?_);(refine jG (aa 16 24575) 11 F (aj F F aS F F) ?_);refine jT 0 [13,15] (aa 16 65535) ?_;refine jQ ?_)
   all_goals repeat' (refine jR ?_)
   all_goals refine jZ (vs:=[_,_]) F ⟨F,F,trivial⟩ F ⟨Gh.le.refl _,F,?_⟩
   all_goals (try rw [decide_eq_false hdn])
   all_goals exact .inl ⟨F,_,F⟩
 | recd k b t fs bs a a2 c c2 h0 h1 h2 h3 h4 h5 hk =>
  have hst:=eB (v:=.nd 82 [] 0 (fs.map aq)) (n:=n) h0.1
  have hTW:=hw.ty _ (bj h0.1)
  have hso:=h0.2
  have hkk:=dz (dR hki)
  obtain ⟨r,rfl⟩:=d5 h0.1
  have hk0 : bt (64 :: r) (Int.toNat 0) = 64:=bH 64 r
  have hkl2 : (64 :: r).length = r.length + 1:=rfl
  have hvl : vs.length ≤ 8:=by have:=hw.len;unfold ah at this;simpa using this
  have href:=fx vs (64 :: r)
  have cx_rf:=jl (k:=64 :: r) h oM hkk.1 oM
  rcases hrv : fq vs (64 :: r) with _ | x
  ·rw [hrv,h0.1] at href;cases href
  rw [hrv] at href cx_rf
  have htx : x.2 = t:=by rw [h0.1] at href;exact Option.some.inj href
  subst htx
  have hxm:=gz hrv
  have hfl:=hTW.len
  have cx_rec:=qr (n:=n) hu (h.fl x hxm) oM cx_rf hso
  cases hg : cm x.2.fields n with
  | none =>
   rw [hg] at hst cx_rec
   have hno : aB (ah vs) (64 :: r) (.nd 82 [] 0 (fs.map aq)) n = none:=hst
   rw [show (fs.map fun p=>V.nd 61 [] p.1.tag [p.2]) = fs.map aq from rfl,hno]
   refine jB [(0,_),(1,_),(2,_)] Tryz.func54 Tryz.ntmps54 fun B hok hB hW=>?_
   repeat' (first | refine jM ?_ | (refine jo ?_;first | refine jV (aj F F aS F F) ?_ | refine aP F ?_ | refine aE F ?_ | refine jL fun _=>?_ | refine jC F F F ?_ | refine ae F F F cx_rec F ?_) | refine aF F F F ?_ | refine aw F F F ?_ | refine ac F F ?_ | refine ad F F ?_)
   all_goals refine jZ (vs:=[_,_]) F ⟨F,F,trivial⟩ F ⟨Gh.le.refl _,F,?_⟩
   all_goals exact .inl ⟨F,_,F⟩
  | some f =>
   rw [hg] at hst cx_rec
   simp only [Option.getD_some,Option.isSome_some] at cx_rec
   have hfm:=List.mem_of_find?_eq_some hg
   have hft : f.tag = n:=by have:=List.find?_some hg;simpa using this
   have hyes : aB (ah vs) (64 :: r) (.nd 82 [] 0 (fs.map aq)) n = some (f.kind,cZ (ah vs) (.nd 82 [] 0 (fs.map aq)) f):=by
    rw [hst];dsimp only;rw [if_neg oM,if_pos hso]
   rw [show (fs.map fun p=>V.nd 61 [] p.1.tag [p.2]) = fs.map aq from rfl,hyes]
   have hfs9 : fs.length ≤ 100000:=by
    have h7:=dq (fs.map aq)
    rw [bK] at htt
    have e1 : (fs.map aq).length = fs.length:=by simp
    have e2 : (fs.map fun p=>V.nd 61 [] p.1.tag [p.2]) = fs.map aq:=rfl
    rw [e2] at htt
    omega
   have htn : ∀ i,i < fs.length → ab (fs.map fun p : Fld × V=>p.1.tag) i = (ab fs i).1.tag:=fun i hi=>by rw [aI (by simpa using hi),aI hi];simp
   have htl : (fs.map fun p : Fld × V=>p.1.tag).length = fs.length:=by simp
   by_cases hex : ∃ j,j < fs.length ∧ (ab fs j).1.tag = n
   ·obtain ⟨j,hj,hjn,hjf⟩:=yQ hex
    have hget : cZ (ah vs) (.nd 82 [] 0 (fs.map aq)) f = (ab fs j).2:=by
     unfold cZ
     rw [V.kids,oQ hj (by rw [hjn,hft]) (fun i hi=>by rw [hft];exact hjf i hi)];rfl
    have hkd : (ab fs j).1 = f:=fe hTW (h5 j hj) hfm (by rw [hjn,hft])
    rw [hget]
    have cx_at:=ady (tg:=fs.map fun p : Fld × V=>p.1.tag) (n:=n) (by rw [h4,htl]) oM (by rw [htl];exact h1) (by rw [htl];exact h2) (by rw [htl];exact h3) (by rw [htl];exact hj) (by rw [htn j hj];exact hjn) (fun i hi=>by rw [htn i oM];exact hjf i hi)
    have hrj:=hk j hj
    rw [hkd] at hrj
    refine jB [(0,_),(1,_),(2,_)] Tryz.func54 Tryz.ntmps54 fun B hok hB hW=>?_
    repeat' (first | refine jM ?_ | (refine jo ?_;first | refine jV (aj F F aS F F) ?_ | refine aP F ?_ | refine aE F ?_ | refine jL fun _=>?_ | refine jC F F F ?_ | refine ae F F F cx_rec F ?_ | refine ae F F F cx_at F ?_) | refine aF F F F ?_ | refine aw F F F ?_ | refine ac F F ?_ | refine ad F F ?_)
    all_goals refine jZ (vs:=[_,_]) F ⟨F,F,trivial⟩ F ⟨Gh.le.refl _,F,?_⟩
    all_goals exact .inr ⟨_,_,ab bs j,F,F,hrj⟩
   ·have hjno : ∀ i,i < fs.length → (ab fs i).1.tag ≠ n:=fun i hi e=>hex ⟨i,hi,e⟩
    have hget : cZ (ah vs) (.nd 82 [] 0 (fs.map aq)) f = eh (ah vs) f:=by
     unfold cZ
     rw [V.kids,oP fun i hi=>by rw [hft];exact hjno i hi];rfl
    rw [hget]
    obtain ⟨g1,g2,g3⟩:=fB hw (bj h0.1) oM hfm
    obtain ⟨g4,g5⟩:=iS g2
    have hdk : ax (ah vs) f.kind = true:=d6 hw (bj h0.1) oM hfm
    have cx_at:=adz (tg:=fs.map fun p : Fld × V=>p.1.tag) (n:=n) oM (by rw [htl];exact h1) (by rw [htl];exact h2) (fun i hi=>by rw [htn i oM];exact hjno i oM)
    have cx_sta:=mC (f:=f) h hw hdk
    have cx_rd:=gA (u:=.slice ua vs.length uc) (vs:=vs) hw 12 oM G f.kind (bT (ah vs) f) h hdk oM
    rw [g4] at cx_rd
    refine jB [(0,_),(1,_),(2,_)] Tryz.func54 Tryz.ntmps54 fun B hok hB hW=>?_
    repeat' (first | refine jM ?_ | (refine jo ?_;first | refine jV (aj F F aS F F) ?_ | refine aP F ?_ | refine aE F ?_ | refine jL fun _=>?_ | refine jC F F F ?_ | refine ae F F F cx_rec F ?_ | refine ae F F F cx_at F ?_) | refine aF F F F ?_ | refine aw F F F ?_ | refine ac F F ?_ | refine ad F F ?_)
    (refine an (ao (id:=14) _ (fun _ h=>h) am ?_);refine jT 12 [0,2,5] (aa 15 37) ?_;(refine jG (aa 15 39) 1 F (ay F F) ?_);(refine jG (aa 15 47) 3 F (bS F F F F) ?_);(refine jG (aa 15 111) 6 F (aV F F F) ?_);refine jA 4 F ?_;(refine ae F F F cx_sta F ?_);refine jS (aa 15 127) ?_;refine jA 7 F ?_;(refine ar F F F cx_rd F ?_;rintro _ G hle ⟨q1,r1,ok1,rfl,hyes,hno⟩;skip);refine jS (aa 15 255) ?_;refine jT 0 [8,9,10,11,12,13,14] (aa 15 32767) ?_;refine jQ ?_)
    all_goals
     cases ok1 with
     | false=>cases hno rfl
     | true =>
      obtain ⟨w,wb,rfl,hf,hrep⟩:=hyes rfl
      simp only [Option.some.injEq,Prod.mk.injEq] at hf
      obtain ⟨rfl,rfl⟩:=hf
      repeat' (first | refine jR ?_ | (refine jo ?_;refine aP F ?_) | refine aF F F F ?_)
      all_goals refine jZ (vs:=[_,_]) F ⟨F,F,trivial⟩ F ⟨hle,F,?_⟩
      all_goals exact .inr ⟨_,_,wb,F,F,hrep⟩
theorem cQ {s k w : ael} {u : V} (hg : cY s k w = some u) : ∃ ts,a9 s = some ts ∧ ax ts k = true ∧ co ts k w = some u ∧ u.tot ≤ 40000 ∧ u.wf:=by
 obtain ⟨ts,hs,hki,hvo⟩ : ∃ ts,a9 s = some ts ∧ ax ts k = true ∧ co ts k w = some u:=by
  unfold cY at hg
  cases hs : a9 s with
  | none=>rw [hs] at hg;cases hg
  | some ts =>
   rw [hs] at hg
   dsimp only at hg
   by_cases hk : ax ts k = true
   ·rw [if_pos hk] at hg;exact ⟨ts,F,hk,hg⟩
   ·rw [if_neg hk] at hg;cases hg
 refine ⟨ts,hs,hki,hvo,?_,(yh hvo).1⟩
 unfold co at hvo
 split at hvo
 ·split at hvo
  ·rename_i v hv
   obtain rfl:=Option.some.inj hvo
   have:=gB _ _ _ _ hv
   dsimp only at this;omega
  ·cases hvo
 ·cases hvo
theorem pI {ts : List Ty} (hw : SchW ts) {t : Ty} (ht : t ∈ ts) (hs : t.sort ≠ 69) {d : Fld} (hd : d ∈ t.fields) : (eh ts d).tot ≤ 40000:=by
 obtain ⟨g4,g5⟩:=iS (fB hw ht hs hd).2.1
 have:=gB _ _ _ _ g4
 dsimp only at this
 simp only [List.length_nil] at this
 omega
theorem kS {ts : List Ty} (hw : SchW ts) {k : ael} {v : V} (h : OfK ts k v) (hk : ax ts k = true) {n : Int} (hn : 0 ≤ n) {k' : ael} {v' : V} (e : aB ts k v n = some (k',v')) {N : Nat} (hv : v.tot ≤ N) (hN : 40000 ≤ N) : v'.tot ≤ N:=by
 obtain ⟨c,r,rfl⟩:=dT hk
 unfold aB at e
 dsimp only at e
 split at e
 ·rename_i hc
  split at e
  ·rename_i hlt
   simp only [Option.some.injEq,Prod.mk.injEq] at e
   obtain ⟨rfl,rfl⟩:=e
   have h1:=ke (ks:=v.kids) (i:=n.toNat) oM
   obtain ⟨w,x,t,ks⟩:=v
   rw [bK] at hv
   rw [V.kids] at h1 ⊢
   omega
  ·cases e
 ·split at e
  ·cases e
  ·rename_i t hr
   have ht:=bj hr
   split at e
   ·cases e
   ·rename_i f hf
    have hfm:=List.mem_of_find?_eq_some hf
    split at e
    ·cases e
    ·rename_i h69
     split at e
     ·rename_i h82
      simp only [Option.some.injEq,Prod.mk.injEq] at e
      obtain ⟨rfl,rfl⟩:=e
      rcases bE h hr with ⟨_,fs,rfl,g3,g4,_,_⟩ | ⟨h1,_⟩ | ⟨h1,_⟩
      ·unfold cZ
       rw [V.kids]
       cases hto : cF f (fs.map aq) with
       | none =>
        have:=pI hw ht h69 hfm
        show (eh ts f).tot ≤ N
        omega
       | some u =>
        obtain ⟨_,p,hp,_,rfl⟩:=hO (hw.ty t ht) hfm (fun p hp=>⟨g3 p hp,g4 p hp⟩) hto
        have h2:=oO (List.mem_map_of_mem (f:=aq) hp)
        rw [bK] at hv
        simp only [aq,bK,V.tots] at h2
        show p.2.tot ≤ N
        omega
      ·omega
      ·omega
     ·rename_i h82
      split at e
      ·simp only [Option.some.injEq,Prod.mk.injEq] at e
       obtain ⟨rfl,rfl⟩:=e
       rcases bE h hr with ⟨h1,_⟩ | ⟨h1,_⟩ | ⟨_,_,d,u,rfl,g4,g5⟩
       ·omega
       ·omega
       ·simp only [bK,V.tots] at hv
        show u.tot ≤ N
        omega
      ·cases e
theorem nz {ts : List Ty} {p : List Int} {i : Nat} (hi : i < p.length) {k : ael} {v : V} : bP ts k v (p.drop i) = match aB ts k v (ab p i) with
  | none=>none
  | some (k',v')=>bP ts k' v' (p.drop (i + 1)):=by
 rw [List.drop_eq_getElem_cons hi,aI hi,bP]
 all_goals (cases aB ts k v p[i] <;> rfl)
theorem yv {ts : List Ty} {v : V} {k : ael} {b : Nat} (h : RepR G ts v k b) : ∃ x y z,bU G b 0 [S k,x,y,z]:=by
 cases h with
 | leaf w x k tx b h1 h2=>exact ⟨_,_,_,h1⟩
 | lst k b ks bs a c h1 h2 h3 hk=>exact ⟨_,_,_,h1⟩
 | non k b h1=>exact ⟨_,_,_,h1⟩
 | opt k b kb b' cc w h0 h1 h2 h3=>exact ⟨_,_,_,h1⟩
 | recd k b t fs bs a a2 c c2 h0 h1 h2 h3 h4 h5 hk=>exact ⟨_,_,_,h1⟩
 | enm k b tgb t d h0 h1 h2 h3=>exact ⟨_,_,_,h2⟩
 | uni k b tgb kb b' cc t d w hcc h0 h1 h2 h3 h4 hk=>exact ⟨_,_,_,h2⟩
theorem aaL {u : Value} {vs : List cG} (h : SchR G u vs) (hw : SchW (ah vs)) {p : List Int} {pv : Value} (hp : aN G pv 1 p.length (ag cL p)) (hpn : ∀ n ∈ p,0 ≤ n ∧ n ≤ 999999) (hpl : p.length ≤ 1000) {k : ael} {v : V} {b : Nat} (hr : RepR G (ah vs) v k b) (ho : OfK (ah vs) k v) (hki : ax (ah vs) k = true) (htt : v.tot ≤ 1000000) :
  bJ aek 104 [u,Pt b 0,pv] G (gU (ah vs) (bP (ah vs) k v p)):=by
 have hu:=h.sl.one
 obtain ⟨pa,pc,rfl⟩:=hp.sl
 refine jB [(0,_),(1,_),(2,_)] Tryz.func104 Tryz.ntmps104 fun B hok hB hW=>?_
 repeat' (refine jR ?_)
 refine aW (ι:=ael × V × Nat × Nat × Gh) (fun j=>((RepR j.2.2.2.2 (ah vs) j.2.1 j.1 j.2.2.1 ∧ OfK (ah vs) j.1 j.2.1) ∧ (ax (ah vs) j.1 = true ∧ j.2.1.tot ≤ 1000000)) ∧ (Gh.le G j.2.2.2.2 ∧ j.2.2.2.1 ≤ p.length) ∧ bP (ah vs) k v p = bP (ah vs) j.1 j.2.1 (p.drop j.2.2.2.1)) (fun j=>[(0,u),(1,Pt j.2.2.1 0),(2,.slice pa p.length pc),(8,I j.2.2.2.1)]) (fun j=>j.2.2.2.2) (fun j=>[]) (fun j=>p.length - j.2.2.2.1) (k,v,b,0,G) ?_ tU F bc (fun j Hj=>?_)
 ·exact ⟨⟨⟨hr,ho⟩,hki,htt⟩,⟨Gh.le.refl _,Nat.zero_le _⟩,F⟩
 obtain ⟨k0,v0,b0,i,Gq⟩:=j
 dsimp only at Hj ⊢
 obtain ⟨⟨⟨hr0,ho0⟩,hk0,ht0⟩,⟨hgq,hi0⟩,he⟩:=Hj
 by_cases hi : i < p.length
 ·obtain ⟨xb,xo,xc,e,hs1⟩:=(hp.mono hgq).expl oM
  simp only [Value.slice.injEq] at e
  obtain ⟨rfl,-,rfl⟩:=e
  have hni:=hpn _ (bC hi)
  have hti : ab p i = ab p i:=rfl
  have hstp:=n5 (h.mono hgq) hw hr0 ho0 hk0 hni ht0
  rw [nz hi] at he
  cases hsv : aB (ah vs) k0 v0 (ab p i) with
  | none =>
   have cx_stn:=gU.no hstp hsv
   rw [hsv] at he
   repeat' (first | refine jR ?_ | (refine jo ?_;first | refine jV (af F) ?_ | refine jV (ak F F oM) ?_ | (refine jV (cn F F aS ?_ aS F) ?_;focus omega) | (refine ar F F F cx_stn F ?_;rintro _ G hle ⟨q1,rfl⟩;skip)) | (refine ac F (by first | rfl | (refine decide_eq_true ?_;(omega))) ?_))
   all_goals refine jZ (vs:=[_,_]) F ⟨F,F,trivial⟩ F ⟨hgq.trans hle,F,?_⟩
   all_goals exact .inl ⟨he,_,F⟩
  | some y =>
   obtain ⟨k1,v1⟩:=y
   have cx_sty:=gU.yes hstp hsv
   rw [hsv] at he
   obtain ⟨g1,g2⟩:=cJ hw ho0 hk0 hni.1 hsv
   have g3:=kS hw ho0 hk0 hni.1 hsv ht0 oM
   repeat' (first | refine jM ?_ | (refine jo ?_;first | refine jV (af F) ?_ | refine jV (ak F F oM) ?_ | (refine jV (cn F F aS ?_ aS F) ?_;focus omega) | (refine ar F F F cx_sty F ?_;rintro _ G hle ⟨b1,rfl,hrep1⟩;skip)) | refine ac F (aA oM) ?_ | refine ad F F ?_)
   exact br (k1,v1,b1,i + 1,G) ⟨⟨⟨hrep1,g1⟩,g2,g3⟩,⟨hgq.trans hle,by dsimp only;omega⟩,he⟩ (by dsimp only;omega) tU rfl bc
 ·have hd : p.drop i = []:=List.drop_eq_nil_of_le oM
  rw [hd] at he
  repeat' (first | refine jR ?_ | (refine jo ?_;refine jV (af F) ?_) | refine ad F (aH oM) ?_)
  all_goals refine jZ (vs:=[_,_]) F ⟨F,F,trivial⟩ F ⟨hgq,F,?_⟩
  all_goals exact .inr ⟨_,_,b0,he,F,hr0⟩
theorem n6 {s k w : ael} {v : V} {ts : List Ty} (h : s.length ≤ 1048576 ∧ k.length ≤ 1048576 ∧ w.length ≤ 1048576) (hs : a9 s = some ts) (hki : ax ts k = true) (hvo : co ts k w = some v) :
  bJ aek 21 [S s,S k,S w] G (fun r G'=>∃ a c vs b,r = Tu [.slice a vs.length c,Pt b 0,Bo true] ∧ SchR G' (.slice a vs.length c) vs ∧ ah vs = ts ∧ RepR G' ts v k b):=by
 have hw:=dV hs
 have hk : dE s k = true:=by unfold dE;rw [hs];exact hki
 obtain ⟨h12,hl⟩:=iS hvo
 have cx_lka : ∀ G,bJ aek 49 [S s,S k] G (fun v G'=>∃ a c vs,v = Tu [.slice a vs.length c,Bo true] ∧ SchR G' (.slice a vs.length c) vs ∧ ah vs = ts):=fun G=>by
  refine (ik (G:=G) (s:=s) (k:=k) oM oM).mono ?_
  rintro v G' L' ⟨h1,h2,u,vs,rfl,h4,_,h6⟩
  obtain ⟨_,⟨rfl,h0⟩ | ⟨b,o,cap,rfl,_,_⟩⟩:=h4.sl
  ·exact ⟨h1,h2,none,0,vs,by rw [hk,h0],by rw [h0];exact h4,h6 ts hs hki⟩
  ·exact ⟨h1,h2,_,cap,vs,by rw [hk],h4,h6 ts hs hki⟩
 refine jB [(0,_),(1,_),(2,_)] Tryz.func21 Tryz.ntmps21 fun B hok hB hW=>?_
 repeat' (first | refine jR ?_ | (refine jo ?_;first | refine aE F ?_ | refine jV (ay F F) ?_ | (refine ar F F F (cx_lka _) F ?_;rintro _ G hle ⟨av1,cv1,vs1,rfl,hR1,hT1⟩;skip)) | refine aw F F F ?_ | refine ad F (aH oM) ?_)
 subst hT1
 have cx_rd : bJ aek 50 [Ag [.slice av1 vs1.length cv1],S w,S k,I (12 : Nat)] G (fun r G'=>∃ b,r = Tu [Pt b 0,S [],Bo true] ∧ RepR G' (ah vs1) v k b):=by
  refine (gA (u:=.slice av1 vs1.length cv1) (vs:=vs1) hw 12 oM G k w hR1 hki oM).mono ?_
  rintro r G' L' ⟨h1,h2,q,rest,ok,rfl,h3,h4⟩
  cases ok with
  | false=>rw [h12] at h4;cases h4 rfl
  | true =>
   obtain ⟨v',b,rfl,h5,h6⟩:=h3 rfl
   rw [h12] at h5
   simp only [Option.some.injEq,Prod.mk.injEq] at h5
   obtain ⟨rfl,rfl⟩:=h5
   exact ⟨h1,h2,b,F,h6⟩
 refine jo ?_
 refine ar F F F cx_rd F ?_
 rintro _ G2 hle2 ⟨b,rfl,hrep⟩
 repeat' (first | refine jR ?_ | (refine jo ?_;refine aP F ?_) | refine aF F F F ?_)
 refine jZ (vs:=[_,_,_]) F ⟨F,F,F,trivial⟩ F ⟨(Gh.le.trans hle hle2),F,?_⟩
 exact ⟨_,_,_,b,F,hR1.mono hle2,F,hrep⟩
theorem oT {s : ael} (h : s.length ≤ 1048576) (hp : df s = none) : ∀ G,bJ aek 23 [S s] G (fun v _=>∃ a c n,v = Tu [.slice a n c,Bo false] ∧ True):=fun G=>by
 refine (ug (G:=G) h).mono ?_
 rintro v G' L' ⟨h1,h2,a,c,n,rfl,_⟩
 exact ⟨h1,h2,a,c,n,by rw [hp];rfl,trivial⟩
theorem mY {s : ael} {p : List Int} (h : s.length ≤ 1048576) (hp : df s = some p) : ∀ G,bJ aek 23 [S s] G (fun v G'=>∃ a c n,v = Tu [.slice a n c,Bo true] ∧ n = p.length ∧ aN G' (.slice a n c) 1 p.length (ag cL p)):=fun G=>by
 refine (ug (G:=G) h).mono ?_
 rintro v G' L' ⟨h1,h2,a,c,n,rfl,h3⟩
 exact ⟨h1,h2,a,c,n,by rw [hp];rfl,h3 p hp⟩
theorem rB {s : ael} {p : List Int} (h : df s = some p) : p.length ≤ 8 ∧ ∀ n ∈ p,0 ≤ n ∧ n ≤ 999999:=by
 unfold df at h
 split at h
 ·simp only [Option.some.injEq] at h;subst h;simp
 ·split at h
  ·rename_i q hq
   split at h
   ·rename_i h8
    simp only [Option.some.injEq] at h;subst h
    exact ⟨h8,(lf hq).2⟩
   ·cases h
  ·cases h
theorem vi {α : Type} [Inhabited α] {tg : α → Int} {node : α} {tag : Int} {l : List α} {i : Nat} (hi : i < l.length) {d : Bool} : dm tg node tag (l.drop i) d = (if tag < tg (ab l i) ∧ d = false then [node] else []) ++ ((if tg (ab l i) = tag then [] else [ab l i]) ++ dm tg node tag (l.drop (i + 1)) (d || decide (tag < tg (ab l i)))):=by
 rw [List.drop_eq_getElem_cons hi,aI hi,dm]
theorem tq {α : Type} {tg : α → Int} {node : α} {tag : Int} {y : α} : ∀ {l : List α} {d : Bool},y ∈ dm tg node tag l d → y = node ∨ y ∈ l
 | [],d,h=>by
  unfold dm at h
  split at h
  ·simp at h
  ·exact .inl (by simpa using h)
 | z :: r,d,h=>by
  rw [dm] at h
  simp only [List.mem_append] at h
  rcases h with h | h | h
  ·split at h
   ·exact .inl (by simpa using h)
   ·simp at h
  ·split at h
   ·simp at h
   ·exact .inr (by simp at h;simp [h])
  ·exact (tq h).imp id fun h=>by simp [h]
theorem rz {α : Type} {tg : α → Int} {node : α} {tag : Int} {y : α} : ∀ {l : List α},y ∈ dm tg node tag l true → y ∈ l
 | [],h=>by simp [dm] at h
 | z :: r,h=>by
  rw [dm,if_neg (by simp),Bool.true_or,List.nil_append] at h
  rcases List.mem_append.1 h with h | h
  ·split at h
   ·simp at h
   ·simp at h;simp [h]
  ·simp [rz h]
def dM (p : (Fld × V) × Nat) : Int:=p.1.1.tag
def rO (p : (Fld × V) × Nat) : V:=aq p.1
theorem vx {ps : List ((Fld × V) × Nat)} : ps.map rO = (ps.map (·.1)).map aq:=by rw [List.map_map];rfl
theorem yw {ts : List Ty} {k : ael} {t : Ty} {b : Nat} {vs : List V} (hr : RepR G ts (.nd 82 [] 0 vs) k b) (hrf : aZ ts k = some t) : t.sort = 82 ∧ ∃ (ps : List ((Fld × V) × Nat)) (a a2 : Option Addr) (c c2 : Nat),vs = ps.map rO ∧ bU G b 0 [S k,S [82],.slice a ps.length c,.slice a2 ps.length c2] ∧ aN G (.slice a ps.length c) 1 ps.length (ag cL (ps.map dM)) ∧ aN G (.slice a2 ps.length c2) 1 ps.length (ag dH (ps.map (·.2))) ∧ ∀ p ∈ ps,p.1.1 ∈ t.fields ∧ RepR G ts p.1.2 p.1.1.kind p.2:=by
 cases hr with
 | leaf w x k tx b h1 h2=>rcases h2 with ⟨h,_⟩ | ⟨h,_⟩ | ⟨h,_⟩ <;> omega
 | recd k b t' fs bs a a2 c c2 h0 h1 h2 h3 h4 h5 hk =>
  obtain rfl : t' = t:=by rw [hrf] at h0;exact (Option.some.inj h0.1).symm
  have e1 : (fs.zip bs).map (·.1) = fs:=List.map_fst_zip oM
  have e2 : (fs.zip bs).map (·.2) = bs:=List.map_snd_zip oM
  have el : (fs.zip bs).length = fs.length:=by simp [h4]
  have e3 : (fs.zip bs).map dM = fs.map fun p=>p.1.tag:=by
   rw [show dM = (fun p : Fld × V=>p.1.tag) ∘ Prod.fst from rfl,← List.map_map,e1]
  refine ⟨h0.2,fs.zip bs,a,a2,c,c2,by rw [vx,e1],by rw [el];exact h1,by rw [el,e3];exact h2,by rw [el,e2];exact h3,fun p hp=>?_⟩
  obtain ⟨i,hi,e⟩:=List.getElem_of_mem hp
  rw [List.getElem_zip] at e
  subst e
  have hi' : i < fs.length:=by rw [el] at hi;exact hi
  have g1:=hk i hi'
  have g2:=h5 i hi'
  rw [aI hi',aI oM] at g1
  rw [aI hi'] at g2
  exact ⟨g2,g1⟩
theorem qO {ts : List Ty} {k : ael} {t : Ty} {b : Nat} {ps : List ((Fld × V) × Nat)} {a a2 : Option Addr} {c c2 : Nat} (hrf : aZ ts k = some t) (hso : t.sort = 82) (h1 : bU G b 0 [S k,S [82],.slice a ps.length c,.slice a2 ps.length c2]) (h2 : aN G (.slice a ps.length c) 1 ps.length (ag cL (ps.map dM))) (h3 : aN G (.slice a2 ps.length c2) 1 ps.length (ag dH (ps.map (·.2)))) (hm : ∀ p ∈ ps,p.1.1 ∈ t.fields ∧ RepR G ts p.1.2 p.1.1.kind p.2) : RepR G ts (.nd 82 [] 0 (ps.map rO)) k b:=by
 have el : (ps.map (·.1)).length = ps.length:=by simp
 have hn1 : ∀ i,i < ps.length → ab (ps.map (·.1)) i = (ab ps i).1:=fun i hi=>by rw [aI (by simpa using hi),aI hi];simp
 have hn2 : ∀ i,i < ps.length → ab (ps.map (·.2)) i = (ab ps i).2:=fun i hi=>by rw [aI (by simpa using hi),aI hi];simp
 have e3 : (ps.map (·.1)).map (fun p : Fld × V=>p.1.tag) = ps.map dM:=by rw [List.map_map];rfl
 rw [vx]
 refine RepR.recd k b t (ps.map (·.1)) (ps.map (·.2)) a a2 c c2 ⟨hrf,hso⟩ (by rw [el];exact h1) (by rw [el,e3];exact h2) (by rw [el];exact h3) (by simp) (fun i hi=>?_) (fun i hi=>?_)
 ·rw [el] at hi
  rw [hn1 i hi];exact (hm _ (bC hi)).1
 ·rw [el] at hi
  rw [hn1 i hi,hn2 i hi];exact (hm _ (bC hi)).2
abbrev sA : TypeId:=3
abbrev sx : TypeId:=47
section
variable {ts : List Ty} {k : ael} {t : Ty} {b : Nat} {ps : List ((Fld × V) × Nat)} {a a2 : Option Addr} {c c2 : Nat}
theorem aaK {node : (Fld × V) × Nat} {tag : Int} (hrf : aZ ts k = some t) (hso : t.sort = 82) (h1 : bU G b 0 [S k,S [82],.slice a ps.length c,.slice a2 ps.length c2]) (h2 : aN G (.slice a ps.length c) 1 ps.length (ag cL (ps.map dM))) (h3 : aN G (.slice a2 ps.length c2) 1 ps.length (ag dH (ps.map (·.2)))) (hm : ∀ p ∈ ps,p.1.1 ∈ t.fields ∧ RepR G ts p.1.2 p.1.1.kind p.2) (h9 : ps.length ≤ 100000) :
  bJ aek 143 [Pt b 0,I tag,.pointer none] G (fun r G'=>∃ b',r = Pt b' 0 ∧ RepR G' ts (.nd 82 [] 0 ((dm dM node tag ps true).map rO)) k b'):=by
 have htl : (ps.map dM).length = ps.length:=by simp
 have hbl : (ps.map (·.2)).length = ps.length:=by simp
 refine jB [(0,_),(1,_),(2,_)] Tryz.func143 Tryz.ntmps143 fun B hok hB hW=>?_
 repeat' (first | refine jR ?_ | (refine jo ?_;refine jV (dn F F) ?_) | (refine an (ao (id:=1) _ (fun _ h=>h) am ?_);refine jT 5 [0,1,2,4,5,6] (aa 11 119) ?_;(refine jG (aa 11 127) 3 F (aj F F aS F F) ?_);(refine jG (aa 11 255) 7 F (aj F F aS F F) ?_);(refine jG (aa 11 511) 8 F (ay F F) ?_);refine jA 9 F ?_;(refine jO fun _=>?_);refine jS (aa 11 1023) ?_;refine jT 0 [10] (aa 11 2047) ?_;refine jQ ?_))
 rename_i x
 refine Nx.addNil sA 1 (Nx.addNil sx 1 ?_)
 refine aW (ι:=List ((Fld × V) × Nat) × Option Addr × Nat × Option Addr × Nat × Nat) (fun q=>(q.2.2.2.2.2 ≤ ps.length ∧ q.1.length ≤ q.2.2.2.2.2) ∧ dm dM node tag ps true = q.1 ++ dm dM node tag (ps.drop q.2.2.2.2.2) true) (fun q=>[(0,Pt b 0),(1,I tag),(7,Pt x 0),(8,Bo true),(9,I q.2.2.2.2.2)]) (fun _=>G) (fun q=>[.acc (.slice q.2.2.2.1 q.1.length q.2.2.2.2.1) sx 1 q.1.length (ag dH (q.1.map (·.2))),.acc (.slice q.2.1 q.1.length q.2.2.1) sA 1 q.1.length (ag cL (q.1.map dM)),.blk x (.cells (List.toArray [S k,S [82],.slice q.2.1 q.1.length q.2.2.1,.slice q.2.2.2.1 q.1.length q.2.2.2.2.1]) od (0,0))]) (fun q=>ps.length - q.2.2.2.2.2) ([],none,0,none,0,0) ?_ tU F bc (fun q Hq=>?_)
 ·exact ⟨⟨Nat.zero_le _,Nat.zero_le _⟩,F⟩
 obtain ⟨gs,a3,c3,a4,c4,i⟩:=q
 dsimp only at Hq ⊢
 obtain ⟨⟨hi0,hgl⟩,hinv⟩:=Hq
 by_cases hi : i < ps.length
 ·obtain ⟨xb,xo,xc,e,hs1⟩:=h2.expl oM
  simp only [Value.slice.injEq] at e
  obtain ⟨rfl,-,rfl⟩:=e
  obtain ⟨zb,zo,zc,e,hs2⟩:=h3.expl oM
  simp only [Value.slice.injEq] at e
  obtain ⟨rfl,-,rfl⟩:=e
  have hti : ab (ps.map dM) i = dM (ab ps i):=by rw [aI oM,aI hi];simp
  have hxi : ab (ps.map (·.2)) i = (ab ps i).2:=by rw [aI oM,aI hi];simp
  rw [vi hi,if_neg (by simp),List.nil_append,Bool.true_or] at hinv
  by_cases hne : dM (ab ps i) = tag
  ·rw [if_pos hne,List.nil_append] at hinv
   repeat' (first | refine jM ?_ | (refine jo ?_;first | refine jV (aj F F aS F F) ?_ | (refine jV (cn F F aS ?_ aS F) ?_;focus omega) | refine jV (af F) ?_ | refine jV (ak F F oM) ?_ | refine aE F ?_) | refine aw F F F ?_ | refine ac F (aA oM) ?_ | (refine ad F (by first | rfl | (refine decide_eq_false ?_;(omega))) ?_))
   exact br (gs,a3,c3,a4,c4,i + 1) ⟨⟨by dsimp only;omega,by dsimp only;omega⟩,hinv⟩ (by dsimp only;omega) tU rfl bc
  ·rw [if_neg hne,← List.append_assoc] at hinv
   have hl1 : (gs ++ [ab ps i]).length = gs.length + 1:=by simp
   have hr1 : ag cL (gs.map dM) ++ [I (dM (ab ps i))] = ag cL ((gs ++ [ab ps i]).map dM):=by rw [List.map_append];exact (bX cL _ (dM (ab ps i))).symm
   have hr2 : ag dH (gs.map (·.2)) ++ [Pt (ab ps i).2 0] = ag dH ((gs ++ [ab ps i]).map (·.2)):=by rw [List.map_append];exact (bX dH _ (ab ps i).2).symm
   repeat' (first | refine jR ?_ | (refine jo ?_;first | refine jV (aj F F aS F F) ?_ | (refine jV (cn F F aS ?_ aS F) ?_;focus omega) | refine jV (af F) ?_ | refine jV (ak F F oM) ?_ | refine aE F ?_) | refine aw F F F ?_ | (refine ac F (by refine decide_eq_true ?_;first | assumption | omega) ?_) | refine ad F F ?_)
   (refine an (ao (id:=11) [] (fun _ h=>absurd h (by simp)) am ?_);refine jW 9 [0,1,2,3,5,6,7,9] (aa 17 751) ?_;(refine jG (aa 17 1007) 8 F (aj F F aS F F) ?_);((refine jG (aa 17 2031) 10 F (ak F F ?_) ?_;focus omega));((refine jG (aa 17 4079) 11 F (cn F F aS ?_ aS F) ?_;focus omega));refine b8 [4,12] kR dC ⟨?_,?_,trivial⟩;(focus (refine aO F F ?_;(refine aC F ?_);refine jK (aa 17 4095) ?_;refine jA 12 F ?_;(refine jF fun _=>?_);refine jK (aa 17 8191) ?_;refine jA 13 F ?_;((refine bG F F F F F F F F F ?_ fun _ _=>?_;focus omega));refine jK (aa 17 16383) ?_;refine jW 1 [14,15] (aa 17 65535) ?_;refine jA 16 F ?_;(refine jD F F F ?_);refine jK (aa 17 131071) ?_;refine jQ ?_));rotate_left 1;(focus (refine aO F F ?_;(refine jF fun _=>?_);refine jK (aa 17 8175) ?_;refine jA 4 F ?_;(refine aC F ?_);refine jK (aa 17 8191) ?_;refine jA 13 F ?_;((refine bG F F F F F F F F F ?_ fun _ _=>?_;focus omega));refine jK (aa 17 16383) ?_;refine jW 1 [14,15] (aa 17 65535) ?_;refine jA 16 F ?_;(refine jD F F F ?_);refine jK (aa 17 131071) ?_;refine jQ ?_));rotate_left 1)
   all_goals repeat' (refine jR ?_)
   all_goals (refine an (ao (id:=12) [] (fun _ h=>absurd h (by simp)) am ?_);refine jW 9 [0,1,2,3,5,6,7,9] (aa 17 751) ?_;(refine jG (aa 17 1007) 8 F (aj F F aS F F) ?_);((refine jG (aa 17 2031) 10 F (ak F F ?_) ?_;focus omega));((refine jG (aa 17 4079) 11 F (cn F F aS ?_ aS F) ?_;focus omega));refine b8 [4,12] kR dC ⟨?_,?_,trivial⟩;(focus (refine aO F F ?_;(refine aC F ?_);refine jK (aa 17 4095) ?_;refine jA 12 F ?_;(refine jF fun _=>?_);refine jK (aa 17 8191) ?_;refine jA 13 F ?_;((refine bG F F F F F F F F F ?_ fun _ _=>?_;focus omega));refine jK (aa 17 16383) ?_;refine jW 1 [14,15] (aa 17 65535) ?_;refine jA 16 F ?_;(refine jD F F F ?_);refine jK (aa 17 131071) ?_;refine jQ ?_));rotate_left 1;(focus (refine aO F F ?_;(refine jF fun _=>?_);refine jK (aa 17 8175) ?_;refine jA 4 F ?_;(refine aC F ?_);refine jK (aa 17 8191) ?_;refine jA 13 F ?_;((refine bG F F F F F F F F F ?_ fun _ _=>?_;focus omega));refine jK (aa 17 16383) ?_;refine jW 1 [14,15] (aa 17 65535) ?_;refine jA 16 F ?_;(refine jD F F F ?_);refine jK (aa 17 131071) ?_;refine jQ ?_));rotate_left 1)
   all_goals repeat' (refine jM ?_)
   all_goals
    rename_i _ y1 yc1 _ y2 yc2
    rw [hr1,hr2]
    exact br (gs ++ [ab ps i],some ⟨y1,0,none⟩,yc1,some ⟨y2,0,none⟩,yc2,i + 1) ⟨⟨by dsimp only;omega,by dsimp only;omega⟩,hinv⟩ (by dsimp only;omega) tU rfl (by rw [hl1];repeat (first | exact List.Sublist.refl _ | apply List.Sublist.cons_cons | apply List.Sublist.cons))
 ·rw [List.drop_eq_nil_of_le oM,show dm dM node tag [] true = [] from rfl,List.append_nil] at hinv
  repeat' (first | refine jR ?_ | (refine jo ?_;first | refine jV (aj F F aS F F) ?_ | refine jV (af F) ?_) | (refine ad F (by first | rfl | (refine decide_eq_false ?_;(omega))) ?_))
  refine Nx.sealS (v:=.slice a3 gs.length c3) fun G2 hG2 hs1=>?_
  refine Nx.sealS (v:=.slice a4 gs.length c4) fun G3 hG3 hs2=>?_
  refine Nx.sealC (b:=x) fun G4 hG4 hsg=>?_
  refine jZ (vs:=[_]) F ⟨F,trivial⟩ F ⟨((hG2.trans hG3).trans hG4),F,?_⟩
  rw [hinv]
  exact ⟨x,F,qO hrf hso hsg ((hs1.mono hG3).mono hG4) (hs2.mono hG4) fun p hp=>by
   rw [← hinv] at hp
   have hp:=rz hp
   exact ⟨(hm p hp).1,((hm p hp).2).mono ((hG2.trans hG3).trans hG4)⟩⟩
theorem aaJ {f : Fld} {z : V} {zb : Nat} (hrf : aZ ts k = some t) (hso : t.sort = 82) (h1 : bU G b 0 [S k,S [82],.slice a ps.length c,.slice a2 ps.length c2]) (h2 : aN G (.slice a ps.length c) 1 ps.length (ag cL (ps.map dM))) (h3 : aN G (.slice a2 ps.length c2) 1 ps.length (ag dH (ps.map (·.2)))) (hm : ∀ p ∈ ps,p.1.1 ∈ t.fields ∧ RepR G ts p.1.2 p.1.1.kind p.2) (h9 : ps.length ≤ 100000) (hf : f ∈ t.fields) (hz : RepR G ts z f.kind zb) :
  bJ aek 143 [Pt b 0,I f.tag,Pt zb 0] G (fun r G'=>∃ b',r = Pt b' 0 ∧ RepR G' ts (.nd 82 [] 0 ((dm dM ((f,z),zb) f.tag ps false).map rO)) k b'):=by
 have htl : (ps.map dM).length = ps.length:=by simp
 have hbl : (ps.map (·.2)).length = ps.length:=by simp
 have hnd : dM ((f,z),zb) = f.tag:=rfl
 have hap1 : ∀ (gs : List ((Fld × V) × Nat)) (p : (Fld × V) × Nat),ag cL (gs.map dM) ++ [I (dM p)] = ag cL ((gs ++ [p]).map dM):=fun gs p=>by rw [List.map_append];exact (bX cL _ (dM p)).symm
 have hap2 : ∀ (gs : List ((Fld × V) × Nat)) (p : (Fld × V) × Nat),ag dH (gs.map (·.2)) ++ [Pt p.2 0] = ag dH ((gs ++ [p]).map (·.2)):=fun gs p=>by rw [List.map_append];exact (bX dH _ p.2).symm
 have hmem : ∀ {G' : Gh} {p : (Fld × V) × Nat},Gh.le G G' → p ∈ dm dM ((f,z),zb) f.tag ps false → p.1.1 ∈ t.fields ∧ RepR G' ts p.1.2 p.1.1.kind p.2:=fun hle hp=>by
  rcases tq hp with rfl | hp
  ·exact ⟨hf,hz.mono hle⟩
  ·exact ⟨(hm _ hp).1,((hm _ hp).2).mono hle⟩
 refine jB [(0,_),(1,_),(2,_)] Tryz.func143 Tryz.ntmps143 fun B hok hB hW=>?_
 repeat' (first | refine jR ?_ | (refine jo ?_;refine jV (dn F F) ?_) | (refine an (ao (id:=1) _ (fun _ h=>h) am ?_);refine jT 5 [0,1,2,4,5,6] (aa 11 119) ?_;(refine jG (aa 11 127) 3 F (aj F F aS F F) ?_);(refine jG (aa 11 255) 7 F (aj F F aS F F) ?_);(refine jG (aa 11 511) 8 F (ay F F) ?_);refine jA 9 F ?_;(refine jO fun _=>?_);refine jS (aa 11 1023) ?_;refine jT 0 [10] (aa 11 2047) ?_;refine jQ ?_))
 rename_i x
 refine Nx.addNil sA 1 (Nx.addNil sx 1 ?_)
 refine aW (ι:=List ((Fld × V) × Nat) × Option Addr × Nat × Option Addr × Nat × Bool × Nat) (fun q=>(q.2.2.2.2.2.2 ≤ ps.length ∧ q.1.length ≤ 2 * q.2.2.2.2.2.2 + 1) ∧ dm dM ((f,z),zb) f.tag ps false = q.1 ++ dm dM ((f,z),zb) f.tag (ps.drop q.2.2.2.2.2.2) q.2.2.2.2.2.1) (fun q=>[(0,Pt b 0),(1,I f.tag),(2,Pt zb 0),(7,Pt x 0),(8,Bo q.2.2.2.2.2.1),(9,I q.2.2.2.2.2.2)]) (fun _=>G) (fun q=>[.acc (.slice q.2.2.2.1 q.1.length q.2.2.2.2.1) sx 1 q.1.length (ag dH (q.1.map (·.2))),.acc (.slice q.2.1 q.1.length q.2.2.1) sA 1 q.1.length (ag cL (q.1.map dM)),.blk x (.cells (List.toArray [S k,S [82],.slice q.2.1 q.1.length q.2.2.1,.slice q.2.2.2.1 q.1.length q.2.2.2.2.1]) od (0,0))]) (fun q=>ps.length - q.2.2.2.2.2.2) ([],none,0,none,0,false,0) ?_ tU F bc (fun q Hq=>?_)
 ·exact ⟨⟨Nat.zero_le _,Nat.zero_le _⟩,F⟩
 obtain ⟨gs,a3,c3,a4,c4,d,i⟩:=q
 dsimp only at Hq ⊢
 obtain ⟨⟨hi0,hgl⟩,hinv⟩:=Hq
 by_cases hi : i < ps.length
 ·obtain ⟨xb,xo,xc,e,hs1⟩:=h2.expl oM
  simp only [Value.slice.injEq] at e
  obtain ⟨rfl,-,rfl⟩:=e
  obtain ⟨zc,zo,zd,e,hs2⟩:=h3.expl oM
  simp only [Value.slice.injEq] at e
  obtain ⟨rfl,-,rfl⟩:=e
  have hti : ab (ps.map dM) i = dM (ab ps i):=by rw [aI oM,aI hi];simp
  have hxi : ab (ps.map (·.2)) i = (ab ps i).2:=by rw [aI oM,aI hi];simp
  rw [vi hi] at hinv
  have hl1 : (gs ++ [ab ps i]).length = gs.length + 1:=by simp
  have hl2 : (gs ++ [((f,z),zb)] ++ [ab ps i]).length = gs.length + 1 + 1:=by simp
  cases d with
  | true =>
   rw [if_neg (by simp),List.nil_append,Bool.true_or] at hinv
   by_cases hne : dM (ab ps i) = f.tag
   ·rw [if_pos hne,List.nil_append] at hinv
    repeat' (first | refine jM ?_ | (refine jo ?_;first | refine jV (aj F F aS F F) ?_ | (refine jV (cn F F aS ?_ aS F) ?_;focus omega) | refine jV (af F) ?_ | refine jV (ak F F oM) ?_ | refine aE F ?_) | refine aw F F F ?_ | refine ac F (aA oM) ?_ | (refine ad F (by first | rfl | (refine decide_eq_false ?_;(omega))) ?_))
    exact br (gs,a3,c3,a4,c4,true,i + 1) ⟨⟨by dsimp only;omega,by dsimp only;omega⟩,hinv⟩ (by dsimp only;omega) tU rfl bc
   ·rw [if_neg hne,← List.append_assoc] at hinv
    repeat' (first | refine jR ?_ | (refine jo ?_;first | refine jV (aj F F aS F F) ?_ | (refine jV (cn F F aS ?_ aS F) ?_;focus omega) | refine jV (af F) ?_ | refine jV (ak F F oM) ?_ | refine aE F ?_) | refine aw F F F ?_ | (refine ac F (by refine decide_eq_true ?_;first | assumption | omega) ?_) | refine ad F F ?_)
    (refine an (ao (id:=11) [] (fun _ h=>absurd h (by simp)) am ?_);refine jW 9 [0,1,2,3,5,6,7,9] (aa 17 751) ?_;(refine jG (aa 17 1007) 8 F (aj F F aS F F) ?_);((refine jG (aa 17 2031) 10 F (ak F F ?_) ?_;focus omega));((refine jG (aa 17 4079) 11 F (cn F F aS ?_ aS F) ?_;focus omega));refine b8 [4,12] kR dC ⟨?_,?_,trivial⟩;(focus (refine aO F F ?_;(refine aC F ?_);refine jK (aa 17 4095) ?_;refine jA 12 F ?_;(refine jF fun _=>?_);refine jK (aa 17 8191) ?_;refine jA 13 F ?_;((refine bG F F F F F F F F F ?_ fun _ _=>?_;focus omega));refine jK (aa 17 16383) ?_;refine jW 1 [14,15] (aa 17 65535) ?_;refine jA 16 F ?_;(refine jD F F F ?_);refine jK (aa 17 131071) ?_;refine jQ ?_));rotate_left 1;(focus (refine aO F F ?_;(refine jF fun _=>?_);refine jK (aa 17 8175) ?_;refine jA 4 F ?_;(refine aC F ?_);refine jK (aa 17 8191) ?_;refine jA 13 F ?_;((refine bG F F F F F F F F F ?_ fun _ _=>?_;focus omega));refine jK (aa 17 16383) ?_;refine jW 1 [14,15] (aa 17 65535) ?_;refine jA 16 F ?_;(refine jD F F F ?_);refine jK (aa 17 131071) ?_;refine jQ ?_));rotate_left 1)
    all_goals repeat' (refine jR ?_)
    all_goals (refine an (ao (id:=12) [] (fun _ h=>absurd h (by simp)) am ?_);refine jW 9 [0,1,2,3,5,6,7,9] (aa 17 751) ?_;(refine jG (aa 17 1007) 8 F (aj F F aS F F) ?_);((refine jG (aa 17 2031) 10 F (ak F F ?_) ?_;focus omega));((refine jG (aa 17 4079) 11 F (cn F F aS ?_ aS F) ?_;focus omega));refine b8 [4,12] kR dC ⟨?_,?_,trivial⟩;(focus (refine aO F F ?_;(refine aC F ?_);refine jK (aa 17 4095) ?_;refine jA 12 F ?_;(refine jF fun _=>?_);refine jK (aa 17 8191) ?_;refine jA 13 F ?_;((refine bG F F F F F F F F F ?_ fun _ _=>?_;focus omega));refine jK (aa 17 16383) ?_;refine jW 1 [14,15] (aa 17 65535) ?_;refine jA 16 F ?_;(refine jD F F F ?_);refine jK (aa 17 131071) ?_;refine jQ ?_));rotate_left 1;(focus (refine aO F F ?_;(refine jF fun _=>?_);refine jK (aa 17 8175) ?_;refine jA 4 F ?_;(refine aC F ?_);refine jK (aa 17 8191) ?_;refine jA 13 F ?_;((refine bG F F F F F F F F F ?_ fun _ _=>?_;focus omega));refine jK (aa 17 16383) ?_;refine jW 1 [14,15] (aa 17 65535) ?_;refine jA 16 F ?_;(refine jD F F F ?_);refine jK (aa 17 131071) ?_;refine jQ ?_));rotate_left 1)
    all_goals repeat' (refine jM ?_)
    all_goals
     rename_i _ y1 yc1 _ y2 yc2
     rw [hap1,hap2]
     exact br (gs ++ [ab ps i],some ⟨y1,0,none⟩,yc1,some ⟨y2,0,none⟩,yc2,true,i + 1) ⟨⟨by dsimp only;omega,by dsimp only;omega⟩,hinv⟩ (by dsimp only;omega) tU rfl (by rw [hl1];repeat (first | exact List.Sublist.refl _ | apply List.Sublist.cons_cons | apply List.Sublist.cons))
  | false =>
   rw [Bool.false_or] at hinv
   by_cases hgt : f.tag < dM (ab ps i)
   ·rw [if_pos ⟨hgt,rfl⟩,decide_eq_true hgt,if_neg oM,← List.append_assoc,← List.append_assoc] at hinv
    have hne : ¬ dM (ab ps i) = f.tag:=oM
    repeat' (first | refine jR ?_ | (refine jo ?_;first | refine aC F ?_ | refine jV (aj F F aS F F) ?_ | (refine jV (cn F F aS ?_ aS F) ?_;focus omega) | refine jV (af F) ?_ | refine jV (ak F F oM) ?_ | refine aP F ?_ | refine jF fun _=>?_ | refine bG F F F F F F F F F oM fun _ _=>?_ | refine jD F F F ?_) | refine aF F F F ?_ | (refine ac F (by refine decide_eq_true ?_;first | assumption | omega) ?_))
    (refine an (ao (id:=11) [] (fun _ h=>absurd h (by simp)) am ?_);refine jW 9 [0,1,2,3,5,6,7,9] (aa 17 751) ?_;(refine jG (aa 17 1007) 8 F (aj F F aS F F) ?_);((refine jG (aa 17 2031) 10 F (ak F F ?_) ?_;focus omega));((refine jG (aa 17 4079) 11 F (cn F F aS ?_ aS F) ?_;focus omega));refine b8 [4,12] kR dC ⟨?_,?_,trivial⟩;(focus (refine aO F F ?_;(refine aC F ?_);refine jK (aa 17 4095) ?_;refine jA 12 F ?_;(refine jF fun _=>?_);refine jK (aa 17 8191) ?_;refine jA 13 F ?_;((refine bG F F F F F F F F F ?_ fun _ _=>?_;focus omega));refine jK (aa 17 16383) ?_;refine jW 1 [14,15] (aa 17 65535) ?_;refine jA 16 F ?_;(refine jD F F F ?_);refine jK (aa 17 131071) ?_;refine jQ ?_));rotate_left 1;(focus (refine aO F F ?_;(refine jF fun _=>?_);refine jK (aa 17 8175) ?_;refine jA 4 F ?_;(refine aC F ?_);refine jK (aa 17 8191) ?_;refine jA 13 F ?_;((refine bG F F F F F F F F F ?_ fun _ _=>?_;focus omega));refine jK (aa 17 16383) ?_;refine jW 1 [14,15] (aa 17 65535) ?_;refine jA 16 F ?_;(refine jD F F F ?_);refine jK (aa 17 131071) ?_;refine jQ ?_));rotate_left 1)
    all_goals repeat' (refine jR ?_)
    all_goals (refine an (ao (id:=12) [] (fun _ h=>absurd h (by simp)) am ?_);refine jW 9 [0,1,2,3,5,6,7,9] (aa 17 751) ?_;(refine jG (aa 17 1007) 8 F (aj F F aS F F) ?_);((refine jG (aa 17 2031) 10 F (ak F F ?_) ?_;focus omega));((refine jG (aa 17 4079) 11 F (cn F F aS ?_ aS F) ?_;focus omega));refine b8 [4,12] kR dC ⟨?_,?_,trivial⟩;(focus (refine aO F F ?_;(refine aC F ?_);refine jK (aa 17 4095) ?_;refine jA 12 F ?_;(refine jF fun _=>?_);refine jK (aa 17 8191) ?_;refine jA 13 F ?_;((refine bG F F F F F F F F F ?_ fun _ _=>?_;focus omega));refine jK (aa 17 16383) ?_;refine jW 1 [14,15] (aa 17 65535) ?_;refine jA 16 F ?_;(refine jD F F F ?_);refine jK (aa 17 131071) ?_;refine jQ ?_));rotate_left 1;(focus (refine aO F F ?_;(refine jF fun _=>?_);refine jK (aa 17 8175) ?_;refine jA 4 F ?_;(refine aC F ?_);refine jK (aa 17 8191) ?_;refine jA 13 F ?_;((refine bG F F F F F F F F F ?_ fun _ _=>?_;focus omega));refine jK (aa 17 16383) ?_;refine jW 1 [14,15] (aa 17 65535) ?_;refine jA 16 F ?_;(refine jD F F F ?_);refine jK (aa 17 131071) ?_;refine jQ ?_));rotate_left 1)
    all_goals repeat' (refine jM ?_)
    all_goals
     rename_i _ y1 yc1 _ y2 yc2 _ y3 yc3 _ y4 yc4
     rw [show ag cL (gs.map dM) ++ [I f.tag] = ag cL ((gs ++ [((f,z),zb)]).map dM) from hap1 gs ((f,z),zb),show ag dH (gs.map (·.2)) ++ [Pt zb 0] = ag dH ((gs ++ [((f,z),zb)]).map (·.2)) from hap2 gs ((f,z),zb),hap1,hap2]
     exact br (gs ++ [((f,z),zb)] ++ [ab ps i],some ⟨y3,0,none⟩,yc3,some ⟨y4,0,none⟩,yc4,true,i + 1) ⟨⟨by dsimp only;omega,by dsimp only;omega⟩,hinv⟩ (by dsimp only;omega) tU rfl (by rw [hl2];repeat (first | exact List.Sublist.refl _ | apply List.Sublist.cons_cons | apply List.Sublist.cons))
   ·rw [if_neg (by simp [hgt]),decide_eq_false hgt,List.nil_append] at hinv
    by_cases hne : dM (ab ps i) = f.tag
    ·rw [if_pos hne,List.nil_append] at hinv
     repeat' (first | refine jM ?_ | (refine jo ?_;first | refine jV (aj F F aS F F) ?_ | (refine jV (cn F F aS ?_ aS F) ?_;focus omega) | refine jV (af F) ?_ | refine jV (ak F F oM) ?_ | refine aP F ?_) | refine aF F F F ?_ | refine ac F (aA oM) ?_ | (refine ad F (by refine decide_eq_false ?_;first | assumption | omega) ?_))
     exact br (gs,a3,c3,a4,c4,false,i + 1) ⟨⟨by dsimp only;omega,by dsimp only;omega⟩,hinv⟩ (by dsimp only;omega) tU rfl bc
    ·rw [if_neg hne,← List.append_assoc] at hinv
     repeat' (first | refine jR ?_ | (refine jo ?_;first | refine jV (aj F F aS F F) ?_ | (refine jV (cn F F aS ?_ aS F) ?_;focus omega) | refine jV (af F) ?_ | refine jV (ak F F oM) ?_ | refine aP F ?_) | refine aF F F F ?_ | (refine ac F (by refine decide_eq_true ?_;first | assumption | omega) ?_) | refine ad F (aH ‹_›) ?_)
     (refine an (ao (id:=11) [] (fun _ h=>absurd h (by simp)) am ?_);refine jW 9 [0,1,2,3,5,6,7,9] (aa 17 751) ?_;(refine jG (aa 17 1007) 8 F (aj F F aS F F) ?_);((refine jG (aa 17 2031) 10 F (ak F F ?_) ?_;focus omega));((refine jG (aa 17 4079) 11 F (cn F F aS ?_ aS F) ?_;focus omega));refine b8 [4,12] kR dC ⟨?_,?_,trivial⟩;(focus (refine aO F F ?_;(refine aC F ?_);refine jK (aa 17 4095) ?_;refine jA 12 F ?_;(refine jF fun _=>?_);refine jK (aa 17 8191) ?_;refine jA 13 F ?_;((refine bG F F F F F F F F F ?_ fun _ _=>?_;focus omega));refine jK (aa 17 16383) ?_;refine jW 1 [14,15] (aa 17 65535) ?_;refine jA 16 F ?_;(refine jD F F F ?_);refine jK (aa 17 131071) ?_;refine jQ ?_));rotate_left 1;(focus (refine aO F F ?_;(refine jF fun _=>?_);refine jK (aa 17 8175) ?_;refine jA 4 F ?_;(refine aC F ?_);refine jK (aa 17 8191) ?_;refine jA 13 F ?_;((refine bG F F F F F F F F F ?_ fun _ _=>?_;focus omega));refine jK (aa 17 16383) ?_;refine jW 1 [14,15] (aa 17 65535) ?_;refine jA 16 F ?_;(refine jD F F F ?_);refine jK (aa 17 131071) ?_;refine jQ ?_));rotate_left 1)
     all_goals repeat' (refine jR ?_)
     all_goals (refine an (ao (id:=12) [] (fun _ h=>absurd h (by simp)) am ?_);refine jW 9 [0,1,2,3,5,6,7,9] (aa 17 751) ?_;(refine jG (aa 17 1007) 8 F (aj F F aS F F) ?_);((refine jG (aa 17 2031) 10 F (ak F F ?_) ?_;focus omega));((refine jG (aa 17 4079) 11 F (cn F F aS ?_ aS F) ?_;focus omega));refine b8 [4,12] kR dC ⟨?_,?_,trivial⟩;(focus (refine aO F F ?_;(refine aC F ?_);refine jK (aa 17 4095) ?_;refine jA 12 F ?_;(refine jF fun _=>?_);refine jK (aa 17 8191) ?_;refine jA 13 F ?_;((refine bG F F F F F F F F F ?_ fun _ _=>?_;focus omega));refine jK (aa 17 16383) ?_;refine jW 1 [14,15] (aa 17 65535) ?_;refine jA 16 F ?_;(refine jD F F F ?_);refine jK (aa 17 131071) ?_;refine jQ ?_));rotate_left 1;(focus (refine aO F F ?_;(refine jF fun _=>?_);refine jK (aa 17 8175) ?_;refine jA 4 F ?_;(refine aC F ?_);refine jK (aa 17 8191) ?_;refine jA 13 F ?_;((refine bG F F F F F F F F F ?_ fun _ _=>?_;focus omega));refine jK (aa 17 16383) ?_;refine jW 1 [14,15] (aa 17 65535) ?_;refine jA 16 F ?_;(refine jD F F F ?_);refine jK (aa 17 131071) ?_;refine jQ ?_));rotate_left 1)
     all_goals repeat' (refine jM ?_)
     all_goals
      rename_i _ y1 yc1 _ y2 yc2
      rw [hap1,hap2]
      exact br (gs ++ [ab ps i],some ⟨y1,0,none⟩,yc1,some ⟨y2,0,none⟩,yc2,false,i + 1) ⟨⟨by dsimp only;omega,by dsimp only;omega⟩,hinv⟩ (by dsimp only;omega) tU rfl (by rw [hl1];repeat (first | exact List.Sublist.refl _ | apply List.Sublist.cons_cons | apply List.Sublist.cons))
 ·rw [List.drop_eq_nil_of_le oM] at hinv
  cases d with
  | true =>
   rw [show dm dM ((f,z),zb) f.tag [] true = [] from rfl,List.append_nil] at hinv
   repeat' (first | refine jR ?_ | (refine jo ?_;first | refine jV (aj F F aS F F) ?_ | refine jV (af F) ?_) | (refine ad F (by first | rfl | (refine decide_eq_false ?_;(omega))) ?_))
   refine Nx.sealS (v:=.slice a3 gs.length c3) fun G2 hG2 hs1=>?_
   refine Nx.sealS (v:=.slice a4 gs.length c4) fun G3 hG3 hs2=>?_
   refine Nx.sealC (b:=x) fun G4 hG4 hsg=>?_
   refine jZ (vs:=[_]) F ⟨F,trivial⟩ F ⟨((hG2.trans hG3).trans hG4),F,?_⟩
   exact ⟨x,F,by rw [hinv];exact qO hrf hso hsg ((hs1.mono hG3).mono hG4) (hs2.mono hG4) fun p hp=>hmem ((hG2.trans hG3).trans hG4) (by rw [hinv];exact hp)⟩
  | false =>
   rw [show dm dM ((f,z),zb) f.tag [] false = [((f,z),zb)] from rfl] at hinv
   have hl1 : (gs ++ [((f,z),zb)]).length = gs.length + 1:=by simp
   repeat' (first | refine jR ?_ | (refine jo ?_;first | refine aC F ?_ | refine jV (aj F F aS F F) ?_ | refine jV (af F) ?_ | refine jF fun _=>?_ | refine bG F F F F F F F F F oM fun _ _=>?_ | refine jD F F F ?_) | refine ac F F ?_ | refine ad F (aH oM) ?_)
   rename_i _ y1 yc1 _ y2 yc2
   rw [show ag cL (gs.map dM) ++ [I f.tag] = ag cL ((gs ++ [((f,z),zb)]).map dM) from hap1 gs ((f,z),zb),show ag dH (gs.map (·.2)) ++ [Pt zb 0] = ag dH ((gs ++ [((f,z),zb)]).map (·.2)) from hap2 gs ((f,z),zb),← hl1]
   refine Nx.sealS (v:=.slice (some ⟨y1,0,none⟩) (gs ++ [((f,z),zb)]).length yc1) fun G2 hG2 hs1=>?_
   refine Nx.sealS (v:=.slice (some ⟨y2,0,none⟩) (gs ++ [((f,z),zb)]).length yc2) fun G3 hG3 hs2=>?_
   refine Nx.sealC (b:=x) fun G4 hG4 hsg=>?_
   refine jZ (vs:=[_]) F ⟨F,trivial⟩ F ⟨((hG2.trans hG3).trans hG4),F,?_⟩
   exact ⟨x,F,by rw [hinv];exact qO hrf hso hsg ((hs1.mono hG3).mono hG4) (hs2.mono hG4) fun p hp=>hmem ((hG2.trans hG3).trans hG4) (by rw [hinv];exact hp)⟩
end
variable {ts : List Ty}
theorem rR {fs : List Fld} {n : Int} {d : Fld} (h : cm fs n = some d) : d.tag = n ∧ d ∈ fs:=⟨by have:=List.find?_some h;simpa using this,List.mem_of_find?_eq_some h⟩
theorem sN : ∀ {ks : List V} {i : Nat} {y : V},i < ks.length → V.tots (ks.set i y) + (ab ks i).tot = V.tots ks + y.tot
 | [],i,y,h=>by simp at h
 | v :: ks,0,y,_=>by rw [List.set_cons_zero,V.tots,V.tots,show ab (v :: ks) 0 = v from rfl];omega
 | v :: ks,i + 1,y,h=>by
  have:=sN (ks:=ks) (i:=i) (y:=y) (by simpa using h)
  rw [List.set_cons_succ,V.tots,V.tots,show ab (v :: ks) (i + 1) = ab ks i from rfl];omega
theorem tJ {f : Fld} {y : V} : V.tots (nf ts f y) ≤ 20 + y.tot:=by
 unfold nf
 split
 ·simp [V.tots]
 ·simp [V.tots,bK]
theorem tf {f : Fld} {y : V} : ∀ {vs : List V},V.tots (cV ts f y vs) ≤ V.tots vs + 20 + y.tot
 | []=>by rw [dX];have:=tJ (ts:=ts) (f:=f) (y:=y);simp only [V.tots];omega
 | v :: vs=>by
  have h1:=tJ (ts:=ts) (f:=f) (y:=y)
  have h2:=tf (f:=f) (y:=y) (vs:=vs)
  rw [cK]
  split
  ·rw [V.tots,V.tots];omega
  ·rw [fI]
   split
   ·rw [V.tots];omega
   ·rw [V.tots];omega
theorem yF (v : V) : (ab v.kids 0).tot ≤ v.tot:=by
 obtain ⟨w,x,t,ks⟩:=v
 rw [bK,V.kids]
 cases ks with
 | nil =>
  have : (ab ([] : List V) 0).tot = 20:=by show V.tot (.nd 0 [] 0 []) = 20;rw [bK];simp [V.tots]
  omega
 | cons u ks=>rw [V.tots,show ab (u :: ks) 0 = u from rfl];omega
theorem rx {f : Fld} {y u : V} : ∀ {vs : List V},lL vs → cF f vs = some u → V.tots (cV ts f y vs) + u.tot ≤ V.tots vs + 20 + y.tot
 | [],_,h=>by cases h
 | v :: vs,hs,h=>by
  replace hs:=List.pairwise_cons.1 hs
  have h1:=tJ (ts:=ts) (f:=f) (y:=y)
  rw [cF] at h
  rw [cK]
  by_cases he : v.tag = f.tag
  ·rw [if_pos he] at h
   simp only [Option.some.injEq] at h
   have h3:=yF v
   rw [h] at h3
   rw [if_neg oM,if_pos he,fI,V.tots];omega
  ·rw [if_neg he] at h
   by_cases hl : v.tag < f.tag
   ·have h2:=rx (y:=y) hs.2 h
    rw [if_pos hl,V.tots,V.tots];omega
   ·rw [lQ fun z hz=>by have:=hs.1 z hz;omega] at h
    cases h
theorem yp (hw : SchW ts) {k : ael} {v : V} (h : OfK ts k v) (hk : ax ts k = true) {n : Int} (hn : 0 ≤ n) {k1 : ael} {v1 : V} (e : aB ts k v n = some (k1,v1)) (y : V) :
  (cC ts k v n y).tot + v1.tot ≤ v.tot + 40 + y.tot ∨ (v1.tot ≤ 40000 ∧ (cC ts k v n y).tot ≤ v.tot + 40 + y.tot):=by
 obtain ⟨c,r,rfl⟩:=dT hk
 unfold aB at e
 dsimp only at e
 split at e
 ·rename_i hc
  split at e
  ·rename_i hlt
   simp only [Option.some.injEq,Prod.mk.injEq] at e
   obtain ⟨rfl,rfl⟩:=e
   rcases dg h oM with ⟨g1,_⟩ | ⟨g1,_⟩ | ⟨g1,_⟩ | ⟨g1,ks,g2,g3,rfl⟩ | ⟨g1,rfl | ⟨u,g3,rfl⟩⟩
   ·omega
   ·omega
   ·omega
   ·rw [V.kids] at hlt ⊢
    have hs:=sN (ks:=ks) (i:=n.toNat) (y:=y) oM
    unfold cC
    rw [V.what,if_neg dC,if_pos rfl,V.kids,bK,bK]
    left;omega
   ·simp [V.kids] at hlt;omega
   ·simp [V.kids] at hlt
    obtain rfl : n = 0:=oM
    unfold cC
    rw [V.what,if_neg dC,if_neg dC,V.kids,bK,bK]
    left
    simp only [V.tots]
    show 20 + _ + (y.tot + 0) + u.tot ≤ _
    omega
  ·cases e
 ·split at e
  ·cases e
  ·rename_i t hr
   have ht:=bj hr
   split at e
   ·cases e
   ·rename_i f hf
    have hfm:=List.mem_of_find?_eq_some hf
    split at e
    ·cases e
    ·rename_i h69
     split at e
     ·rename_i h82
      simp only [Option.some.injEq,Prod.mk.injEq] at e
      obtain ⟨rfl,rfl⟩:=e
      rcases bE h hr with ⟨_,fs,rfl,g3,g4,g5,g6⟩ | ⟨g1,_⟩ | ⟨g1,_⟩
      ·have e1 : cC ts (c :: r) (.nd 82 [] 0 (fs.map aq)) n y = .nd 82 [] 0 (cV ts f y (fs.map aq)):=by
        unfold cC;rw [V.what,if_pos rfl,hr]
        dsimp only
        rw [hf];rfl
       rw [e1,bK,bK]
       unfold cZ
       rw [V.kids]
       cases hto : cF f (fs.map aq) with
       | none =>
        have h1:=tf (ts:=ts) (f:=f) (y:=y) (vs:=fs.map aq)
        have h2:=pI hw ht h69 hfm
        right
        refine ⟨h2,?_⟩
        omega
       | some u =>
        have h1:=rx (ts:=ts) (y:=y) (m3 g6) hto
        left
        show _ + u.tot ≤ _
        omega
      ·omega
      ·omega
     ·rename_i h82
      split at e
      ·simp only [Option.some.injEq,Prod.mk.injEq] at e
       obtain ⟨rfl,rfl⟩:=e
       rcases bE h hr with ⟨h1,_⟩ | ⟨h1,_⟩ | ⟨_,_,d,u,rfl,g4,g5⟩
       ·omega
       ·omega
       ·unfold cC
        rw [V.what,if_neg dC,if_neg dC,V.kids,bK,bK]
        left
        simp only [V.tots]
        show 20 + _ + (y.tot + 0) + u.tot ≤ _
        omega
      ·cases e
theorem g0 (hw : SchW ts) : ∀ {p : List Int} {k : ael} {v y : V} {k' : ael} {v' : V},OfK ts k v → ax ts k = true → (∀ n ∈ p,0 ≤ n) → bP ts k v p = some (k',v') → (bD ts k v p y).tot ≤ v.tot + 40040 * p.length + y.tot
 | [],k,v,y,k',v',h,hk,_,e=>by rw [bD];omega
 | n :: p,k,v,y,k',v',h,hk,hp,e=>by
  unfold bP at e
  cases hs : aB ts k v n with
  | none=>rw [hs] at e;cases e
  | some x =>
   rw [hs] at e
   obtain ⟨k1,v1⟩:=x
   have hn:=hp n (by simp)
   obtain ⟨h1,h2⟩:=cJ hw h hk hn hs
   have ih:=g0 hw (y:=y) h1 h2 (fun m hm=>hp m (by simp [hm])) e
   rw [c5 hs,List.length_cons]
   rcases yp hw h hk hn hs (bD ts k1 v1 p y) with g | ⟨g1,g2⟩
   ·omega
   ·omega
end Go.E
