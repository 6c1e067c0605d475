/- Contracts and plain laws that the statement rests on, part 5. Conditions: as each says. -/
import Derived.Test.YthcpkoephapecaaGreatDoorT4
set_option linter.unusedVariables false
set_option linter.unusedSimpArgs false
namespace Go.E
set_option maxRecDepth 20000
set_option maxHeartbeats 2000000
open Go.Proofs
variable {G : Gh}
theorem wR {ts : List Ty} {k s : List UInt8} {u : V} {t : List UInt8} {N : Nat} (hN : 12 ≤ N) (hl : s.length ≤ 400) (h : rd ts N k s = some (u,t)) : cb ts k s = if t = [] ∧ V.deep u ≤ 12 then some u else none:=by
 unfold cb
 rw [if_pos hl]
 cases h12 : rd ts 12 k s with
 | none =>
  dsimp only
  rw [if_neg]
  rintro ⟨_,hd⟩
  have:=xZ _ 12 k s _ h hd
  rw [h12] at this;cases this
 | some x =>
  have h1:=xY (m:=N) hN h12
  rw [h] at h1
  have hd:=jj _ _ _ _ h12
  obtain rfl:=Option.some.inj h1
  dsimp only at hd ⊢
  cases t with
  | nil=>dsimp only;rw [if_pos ⟨rfl,hd⟩]
  | cons c t=>dsimp only;rw [if_neg (fun h=>by cases h.1)]
theorem wS {ts : List Ty} {k s : List UInt8} {N : Nat} (hN : 12 ≤ N) (hl : s.length ≤ 400) (h : rd ts N k s = none) : cb ts k s = none:=by
 unfold cb
 rw [if_pos hl]
 cases h12 : rd ts 12 k s with
 | none=>rfl
 | some x=>rw [xY (m:=N) hN h12] at h;cases h
theorem lg {b : Nat} {qs : List dg} {k s : List UInt8} (hS : ScI G b qs) (hw : SchW (ao qs)) (hk : aB (ao qs) k = true) (hs : s.length ≤ 10000000) :
  bB Tryz.prog 57 [Pt b 0,Ag (cX k),S s] G (fun v G'=>(cb (ao qs) k s = none ∧ v = Tu [zP,Bo false]) ∨ ∃ u c,cb (ao qs) k s = some u ∧ v = Tu [Ag (bI c),Bo true] ∧ V.rep G' u c):=by
 unfold cX
 by_cases hl : s.length ≤ 400
 case neg =>
  have hno : cb (ao qs) k s = none:=by unfold cb;rw [if_neg hl]
  refine jB [(0,_),(1,_),(2,_)] Tryz.func57 Tryz.ntmps57 fun B hok hB hW=>?_
  repeat' (first | refine jR ?_ | (refine jo ?_;first | refine jO fun _=>?_ | refine jL fun _=>?_ | refine jV (ax rfl rfl) ?_ | refine jC rfl rfl rfl ?_) | refine ac rfl (ay oM) ?_)
  all_goals refine jZ (vs:=[_,_]) rfl ⟨aJ rfl rfl rfl rfl,rfl,trivial⟩ rfl ⟨Gh.le.refl _,rfl,?_⟩
  all_goals exact .inl ⟨hno,rfl⟩
 obtain ⟨N,hN⟩ : ∃ N,s.length + 12 ≤ N:=⟨_,Nat.le_refl _⟩
 have hN2 : 12 ≤ N:=oM
 have hV:=rA (sc:=b) hw N
 have cy_vl : ∀ {r : Nat},fw Tryz.prog 92 [Pt r 0,Ag (cX k)] G [en r b s false] (iJ (rd (ao qs) N k) r b s false):=fun {r}=>hV G r k s false hS hk oM oM
 refine jB [(0,_),(1,_),(2,_)] Tryz.func57 Tryz.ntmps57 fun B hok hB hW=>?_
 repeat' (first | refine jR ?_ | (refine jo ?_;first | refine jO fun _=>?_ | refine jL fun _=>?_ | refine jV (ax rfl rfl) ?_ | refine bK rfl ?_) | refine ad rfl (aG oM) ?_)
 refine jo ?_
 rename_i r
 refine eo rfl rfl rfl (cy_vl (r:=r)) rfl ?_
 rintro _ G1 _ hle ⟨u1,c1,t1,b1,rfl,hrep,rfl,hP⟩
 dsimp only [zA,fA]
 obtain ⟨hPl,hP0,hP1⟩:=hP
 cases b1 with
 | true =>
  have hno : cb (ao qs) k s = none:=wS hN2 hl (by rcases (hP1 rfl).1 with h | h;cases h;exact h)
  repeat' (first | refine jR ?_ | (refine jo ?_;first | refine jL fun _=>?_ | refine jV (ax rfl rfl) ?_ | refine jC rfl rfl rfl ?_ | refine aD rfl ?_ | refine aN rfl ?_) | refine aH rfl rfl rfl ?_ | refine ac rfl rfl ?_)
  all_goals refine jZ (vs:=[_,_]) rfl ⟨aJ rfl rfl rfl rfl,rfl,trivial⟩ rfl ⟨hle,rfl,?_⟩
  all_goals exact .inl ⟨hno,rfl⟩
 | false =>
  have hrd:=(hP0 rfl).2
  have hof:=wR hN2 hl hrd
  have htt:=gi _ _ _ _ hrd
  dsimp only at htt
  by_cases ht : t1 = []
  case neg =>
   have hno : cb (ao qs) k s = none:=by rw [hof,if_neg (fun h=>ht h.1)]
   repeat' (first | refine jR ?_ | (refine jo ?_;first | refine jL fun _=>?_ | refine jV (ax rfl rfl) ?_ | refine jC rfl rfl rfl ?_ | refine aD rfl ?_ | refine aN rfl ?_ | refine aC rfl ?_) | refine aH rfl rfl (ay ‹_›) ?_ | refine ar rfl rfl rfl ?_ | refine ac rfl rfl ?_)
   all_goals refine jZ (vs:=[_,_]) rfl ⟨aJ rfl rfl rfl rfl,rfl,trivial⟩ rfl ⟨hle,rfl,?_⟩
   all_goals exact .inl ⟨hno,rfl⟩
  have hnn : ¬ t1 ≠ []:=fun h=>h ht
  have cx_dp:=wD (G:=G1) u1.tot (Nat.le_refl _) oM hrep
  have hdt:=oD u1
  by_cases hd : V.deep u1 ≤ 12
  ·have hyes : cb (ao qs) k s = some u1:=by rw [hof,if_pos ⟨ht,hd⟩]
   repeat' (first | refine jR ?_ | (refine jo ?_;first | refine jL fun _=>?_ | refine jC rfl rfl rfl ?_ | refine aD rfl ?_ | refine bK rfl ?_ | refine aC rfl ?_ | refine ae rfl rfl rfl cx_dp rfl ?_) | (refine ar rfl rfl (by first | rfl | (refine decide_eq_false ?_;(assumption))) ?_) | refine ad rfl (aG oM) ?_)
   all_goals refine jZ (vs:=[_,_]) rfl ⟨aJ rfl rfl rfl rfl,rfl,trivial⟩ rfl ⟨hle,rfl,?_⟩
   all_goals exact .inr ⟨u1,c1,hyes,rfl,hrep⟩
  ·have hno : cb (ao qs) k s = none:=by rw [hof,if_neg (fun h=>hd h.2)]
   repeat' (first | refine jR ?_ | (refine jo ?_;first | refine jL fun _=>?_ | refine jV (ax rfl rfl) ?_ | refine jC rfl rfl rfl ?_ | refine aD rfl ?_ | refine bK rfl ?_ | refine aC rfl ?_ | refine ae rfl rfl rfl cx_dp rfl ?_) | (refine ar rfl rfl (by first | rfl | (refine decide_eq_false ?_;(assumption))) ?_) | refine ac rfl (ay oM) ?_)
   all_goals refine jZ (vs:=[_,_]) rfl ⟨aJ rfl rfl rfl rfl,rfl,trivial⟩ rfl ⟨hle,rfl,?_⟩
   all_goals exact .inl ⟨hno,rfl⟩
theorem kW {s k : List UInt8} (h : dh s k = true) : ∃ ts,a7 s = some ts ∧ aB ts k = true ∧ SchW ts:=by
 unfold dh at h
 cases h1 : a7 s with
 | none=>rw [h1] at h;cases h
 | some ts=>rw [h1] at h;exact ⟨ts,rfl,h,dE h1⟩
def cL (s k v : List UInt8) : Option V:=match a7 s with
 | some ts=>if aB ts k = true then cb ts k v else none
 | none=>none
theorem s6 {s k w : List UInt8} (h : s.length ≤ 1048576 ∧ k.length ≤ 1048576 ∧ w.length ≤ 1048576) (hno : cL s k w = none) : bB Tryz.prog 39 [S s,S k,S w] G (fun v _=>∃ p a b c,v = Tu [p,Ag [S a,S b,S c],zP,Bo false]):=by
 by_cases hk : dh s k = true
 case neg =>
  have cx_bo1 : ∀ G,bB Tryz.prog 67 [S s,S k] G (fun v _=>∃ p a b c,v = Tu [p,Ag [S a,S b,S c],Bo false]):=fun G=>by
   refine (te (G:=G) (s:=s) (k:=k) oM oM).mono ?_
   rintro v G' L' ⟨h1,h2,⟨_,p,a,b,c,rfl⟩ | ⟨b,qs,rfl,h4,h5,_⟩⟩
   ·exact ⟨h1,h2,p,a,b,c,rfl⟩
   ·exact absurd (by unfold dh;rw [h4];exact h5) hk
  refine jB [(0,_),(1,_),(2,_)] Tryz.func39 Tryz.ntmps39 fun B hok hB hW=>?_
  repeat' (first | refine jR ?_ | (refine jo ?_;first | refine jL fun _=>?_ | refine jC rfl rfl rfl ?_ | refine jV (ax rfl rfl) ?_ | (refine aq rfl rfl rfl (cx_bo1 _) rfl ?_;rintro _ G hle ⟨p1,a1,b1,c1,rfl⟩;skip)) | refine ac rfl rfl ?_)
  all_goals refine jZ (vs:=[_,_,_,_]) rfl ⟨rfl,aJ rfl rfl rfl rfl,aJ rfl rfl rfl rfl,rfl,trivial⟩ rfl ⟨hle,rfl,?_⟩
  all_goals exact ⟨_,_,_,_,rfl⟩
 obtain ⟨ts,hs,hki,hw⟩:=kW hk
 have hvo : cb ts k w = none:=by unfold cL at hno;rw [hs] at hno;dsimp only at hno;rwa [if_pos hki] at hno
 have cx_boa : ∀ G,bB Tryz.prog 67 [S s,S k] G (fun v G'=>∃ b qs,v = Tu [Pt b 0,Ag [S (sg k),S (bs k),S (nm k)],Bo true] ∧ ao qs = ts ∧ ScI G' b qs):=fun G=>by
  refine (te (G:=G) (s:=s) (k:=k) oM oM).mono ?_
  rintro v G' L' ⟨h1,h2,⟨h4,_⟩ | ⟨b,qs,rfl,h4,h5,h6⟩⟩
  ·rw [h4] at hk;cases hk
  ·rw [hs] at h4;exact ⟨h1,h2,b,qs,rfl,(Option.some.inj h4).symm,h6⟩
 have cx_ri0 : ∀ G b qs,ao qs = ts → ScI G b qs → bB Tryz.prog 57 [Pt b 0,Ag [S (sg k),S (bs k),S (nm k)],S w] G (fun v _=>v = Tu [zP,Bo false]):=fun G b qs hq hS=>by
  subst hq
  refine (lg (G:=G) (b:=b) (s:=w) hS hw hki oM).mono ?_
  rintro v G' L' ⟨h1,h2,⟨_,rfl⟩ | ⟨u,c,h4,_⟩⟩
  ·exact ⟨h1,h2,rfl⟩
  ·rw [hvo] at h4;cases h4
 refine jB [(0,_),(1,_),(2,_)] Tryz.func39 Tryz.ntmps39 fun B hok hB hW=>?_
 repeat' (first | refine jR ?_ | (refine jo ?_;first | refine jL fun _=>?_ | refine jC rfl rfl rfl ?_ | refine bK rfl ?_ | (refine aq rfl rfl rfl (cx_boa _) rfl ?_;rintro _ G hle ⟨ba,qa,rfl,hT1,hR1⟩;skip) | (refine aq rfl rfl rfl ((cx_ri0 _ _ _) (by (repeat (assumption));done) (by (repeat (assumption));done)) rfl ?_;rintro _ G hle rfl;skip)) | refine ad rfl rfl ?_ | (refine am (dV (id:=5) (tt:=7) rfl al ?_);refine jW 5 [0,3,4] (aa 8 25) ?_;(refine jG (aa 8 27) 1 rfl (bM rfl rfl rfl rfl) ?_);(refine jG (aa 8 31) 2 rfl (bM rfl rfl rfl rfl) ?_);refine jA 5 rfl ?_;(refine jC rfl rfl rfl ?_);refine jK (aa 8 63) ?_;refine jA 6 rfl ?_;(refine jC rfl rfl rfl ?_);refine jK (aa 8 127) ?_;refine jW 0 [7] (aa 8 255) ?_;refine jQ ?_))
 all_goals refine jZ (vs:=[_,_,_,_]) rfl ⟨rfl,aJ rfl rfl rfl rfl,aJ rfl rfl rfl rfl,rfl,trivial⟩ rfl ⟨(Gh.le.trans aS hle),rfl,?_⟩
 all_goals exact ⟨_,_,_,_,rfl⟩
theorem s5 {s k w : List UInt8} {u : V} {ts : List Ty} (h : s.length ≤ 1048576 ∧ k.length ≤ 1048576 ∧ w.length ≤ 1048576) (hs : a7 s = some ts) (hki : aB ts k = true) (hvo : cb ts k w = some u) :
  bB Tryz.prog 39 [S s,S k,S w] G (fun v G'=>∃ b qs cv,v = Tu [Pt b 0,Ag [S (sg k),S (bs k),S (nm k)],Ag (bI cv),Bo true] ∧ ao qs = ts ∧ ScI G' b qs ∧ V.rep G' u cv):=by
 have hw:=dE hs
 have hk : dh s k = true:=by unfold dh;rw [hs];exact hki
 have cx_boa : ∀ G,bB Tryz.prog 67 [S s,S k] G (fun v G'=>∃ b qs,v = Tu [Pt b 0,Ag [S (sg k),S (bs k),S (nm k)],Bo true] ∧ ao qs = ts ∧ ScI G' b qs):=fun G=>by
  refine (te (G:=G) (s:=s) (k:=k) oM oM).mono ?_
  rintro v G' L' ⟨h1,h2,⟨h4,_⟩ | ⟨b,qs,rfl,h4,h5,h6⟩⟩
  ·rw [h4] at hk;cases hk
  ·rw [hs] at h4;exact ⟨h1,h2,b,qs,rfl,(Option.some.inj h4).symm,h6⟩
 have cx_ri1 : ∀ G b qs,ao qs = ts → ScI G b qs → bB Tryz.prog 57 [Pt b 0,Ag [S (sg k),S (bs k),S (nm k)],S w] G (fun v G'=>∃ cv,v = Tu [Ag (bI cv),Bo true] ∧ V.rep G' u cv):=fun G b qs hq hS=>by
  subst hq
  refine (lg (G:=G) (b:=b) (s:=w) hS hw hki oM).mono ?_
  rintro v G' L' ⟨h1,h2,⟨h4,_⟩ | ⟨u',c,h4,rfl,h5⟩⟩
  ·rw [hvo] at h4;cases h4
  ·rw [hvo] at h4;obtain rfl:=Option.some.inj h4;exact ⟨h1,h2,c,rfl,h5⟩
 refine jB [(0,_),(1,_),(2,_)] Tryz.func39 Tryz.ntmps39 fun B hok hB hW=>?_
 repeat' (first | refine jR ?_ | (refine jo ?_;first | refine jL fun _=>?_ | refine jC rfl rfl rfl ?_ | refine bK rfl ?_ | (refine aq rfl rfl rfl (cx_boa _) rfl ?_;rintro _ G hle ⟨ba,qa,rfl,hT1,hR1⟩;skip) | (refine aq rfl rfl rfl ((cx_ri1 _ _ _) (by (repeat (assumption));done) (by (repeat (assumption));done)) rfl ?_;rintro _ G hle ⟨cv,rfl,hrv⟩;skip)) | refine ad rfl rfl ?_)
 rename_i x7 x8 Ga hla x11 x13
 dsimp only [bI,VC.sl]
 (refine am (an (id:=5) [.blk x13 (.cells (List.toArray [U8 (cv.what : Nat),S cv.text,I cv.tag,.slice cv.a cv.n cv.c]) cU (0,0)),.blk x11 (.cells (List.toArray [S (sg k),S (bs k),S (nm k)]) fj (0,0))] (by intro y hy;simp only [List.mem_cons,List.not_mem_nil,or_false] at hy ⊢;rcases hy with hy | hy <;> simp [hy]) al ?_);refine jW 5 [0,3,4] (aa 8 25) ?_;(refine jG (aa 8 27) 1 rfl (bM rfl rfl rfl rfl) ?_);(refine jG (aa 8 31) 2 rfl (bM rfl rfl rfl rfl) ?_);refine jA 5 rfl ?_;(refine jC rfl rfl rfl ?_);refine jK (aa 8 63) ?_;refine jA 6 rfl ?_;(refine jC rfl rfl rfl ?_);refine jK (aa 8 127) ?_;refine jW 0 [7] (aa 8 255) ?_;refine jQ ?_)
 all_goals repeat' (refine jR ?_)
 all_goals refine jZ (vs:=[_,_,_,_]) rfl ⟨rfl,aJ rfl rfl rfl rfl,aJ rfl rfl rfl rfl,rfl,trivial⟩ rfl ⟨(Gh.le.trans aS hle),rfl,?_⟩
 all_goals exact ⟨ba,qa,cv,rfl,hT1,hR1.mono hle,hrv⟩
def dl (b : Nat) : List Value:=[Pt b 0]
instance : RowF dl 1:=⟨fun _=>rfl⟩
def cB (n : Int) : List Value:=[I n]
instance : RowF cB 1:=⟨fun _=>rfl⟩
abbrev acF : TypeId:=9
abbrev nJ : TypeId:=86
inductive RepR (G : Gh) (ts : List Ty) : V → List UInt8 → Nat → Prop
 | leaf (w : Nat) (x k tx : List UInt8) (b : Nat) : b7 G b 0 [S k,S tx,aQ,aQ] → ((w = 110 ∧ k = [110] ∧ tx = x ∧ ∀ c ∈ x,bm c = true) ∨ (w = 116 ∧ k = [116] ∧ tx = 39 :: (x ++ [39])) ∨ (w = 102 ∧ k = [102] ∧ tx = x ∧ (x = [121,101,115] ∨ x = [110,111]))) → RepR G ts (.nd w x 0 []) k b
 | lst (k : List UInt8) (b : Nat) (ks : List V) (bs : List Nat) (a : Option Addr) (c : Nat) : b7 G b 0 [S (91 :: k),S [],aQ,.slice a ks.length c] → aP G (.slice a ks.length c) 1 ks.length (aj dl bs) → bs.length = ks.length → (∀ i,i < ks.length → RepR G ts (ab ks i) k (ab bs i)) → RepR G ts (.nd 91 [] 0 ks) (91 :: k) b
 | non (k : List UInt8) (b : Nat) : b7 G b 0 [S (63 :: k),S [],aQ,aQ] → RepR G ts (.nd 63 [] 0 []) (63 :: k) b
 | opt (k : List UInt8) (b kb b' cc : Nat) (v : V) : 1 ≤ cc → b7 G b 0 [S (63 :: k),S [],aQ,.slice (some ⟨kb,0,none⟩) 1 cc] → b7 G kb 0 [Pt b' 0] → RepR G ts v k b' → RepR G ts (.nd 63 [] 0 [v]) (63 :: k) b
 | recd (k : List UInt8) (b : Nat) (t : Ty) (fs : List (Fld × V)) (bs : List Nat) (a a2 : Option Addr) (c c2 : Nat) : aZ ts k = some t ∧ t.sort = 82 → b7 G b 0 [S k,S [82],.slice a fs.length c,.slice a2 fs.length c2] → aP G (.slice a fs.length c) 1 fs.length (aj cB (fs.map fun p=>p.1.tag)) → aP G (.slice a2 fs.length c2) 1 fs.length (aj dl bs) → bs.length = fs.length → (∀ i,i < fs.length → (ab fs i).1 ∈ t.fields) → (∀ i,i < fs.length → RepR G ts (ab fs i).2 (ab fs i).1.kind (ab bs i)) → RepR G ts (.nd 82 [] 0 (fs.map fun p=>.nd 61 [] p.1.tag [p.2])) k b
 | enm (k : List UInt8) (b tb : Nat) (t : Ty) (d : Fld) {tc : Nat} : aZ ts k = some t ∧ t.sort = 69 → d ∈ t.fields → b7 G b 0 [S k,S [69],.slice (some ⟨tb,0,none⟩) 1 (tc + 1),aQ] → b7 G tb 0 [I d.tag] → RepR G ts (.nd 69 [] d.tag []) k b
 | uni (k : List UInt8) (b tb kb b' cc : Nat) (t : Ty) (d : Fld) (v : V) {tc : Nat} : 1 ≤ cc → aZ ts k = some t ∧ t.sort = 85 → d ∈ t.fields → b7 G b 0 [S k,S [85],.slice (some ⟨tb,0,none⟩) 1 (tc + 1),.slice (some ⟨kb,0,none⟩) 1 cc] → b7 G tb 0 [I d.tag] → b7 G kb 0 [Pt b' 0] → RepR G ts v d.kind b' → RepR G ts (.nd 85 [] d.tag [v]) k b
theorem RepR.mono {G G' : Gh} {ts : List Ty} (hl : Gh.le G G') {v : V} {k : List UInt8} {b : Nat} (h : RepR G ts v k b) : RepR G' ts v k b:=by
 induction h with
 | leaf w x k tx b h1 h2=>exact .leaf w x k tx b (h1.mono hl) h2
 | lst k b ks bs a c h1 h2 h3 _ ih=>exact .lst k b ks bs a c (h1.mono hl) (h2.mono hl) h3 ih
 | non k b h1=>exact .non k b (h1.mono hl)
 | opt k b kb b' cc v h0 h1 h2 _ ih=>exact .opt k b kb b' cc v h0 (h1.mono hl) (h2.mono hl) ih
 | recd k b t fs bs a a2 c c2 h0 h1 h2 h3 h4 h5 _ ih=>exact .recd k b t fs bs a a2 c c2 h0 (h1.mono hl) (h2.mono hl) (h3.mono hl) h4 h5 ih
 | enm k b tb t d h0 h1 h2 h3=>exact .enm k b tb t d h0 h1 (h2.mono hl) (h3.mono hl)
 | uni k b tb kb b' cc t d v hcc h0 h1 h2 h3 h4 _ ih=>exact .uni k b tb kb b' cc t d v hcc h0 h1 (h2.mono hl) (h3.mono hl) (h4.mono hl) ih
def eH (ts : List Ty) (f : Option (V × List UInt8)) (k : List UInt8) (v : Value) (G' : Gh) : Prop :=
 ∃ q rest ok,v = Tu [.pointer q,S rest,Bo ok] ∧ (ok = true → ∃ w b,q = some ⟨b,0,none⟩ ∧ f = some (w,rest) ∧ RepR G' ts w k b) ∧ (ok = false → f = none)
theorem s9 {s : List UInt8} (hs : s.length ≤ 100000000) : a9 Tryz.prog 119 [S s] G (· = I ((s.takeWhile bm).length : Nat)):=by
 refine jE [(0,_)] Tryz.func119 Tryz.ntmps119 fun B hB=>?_
 repeat' (refine jR ?_)
 refine aV (ι:=Nat) (fun i=>i ≤ s.length ∧ i + ((s.drop i).takeWhile bm).length = (s.takeWhile bm).length) (fun i=>[(0,S s),(3,I i)]) (fun _=>G) (fun i=>[]) (fun i=>s.length - i) 0 ?_ tU rfl a8 (fun i Hi=>?_)
 ·exact ⟨Nat.zero_le _,by simp⟩
 obtain ⟨hi0,hi1⟩:=Hi
 by_cases hi : i < s.length
 ·obtain ⟨c,hc1,hc2⟩:=ld hi
  have hc3 : bt s ((i : Int).toNat) = c.toNat:=hc2
  rw [hc1,List.takeWhile_cons] at hi1
  by_cases hd : bm c = true
  ·rw [if_pos hd] at hi1
   have hd2:=hd
   unfold bm at hd2
   rw [decide_eq_true_eq] at hd2
   simp only [List.length_cons] at hi1
   repeat' (first | refine jM ?_ | (refine jo ?_;refine aN rfl ?_) | refine aH rfl rfl (ay oM) ?_ | refine ac rfl (ay oM) ?_)
   exact bj (i + 1) ⟨oM,oM⟩ oM tU rfl a8
  ·rw [if_neg hd] at hi1
   have hd2 : ¬ (48 ≤ c.toNat ∧ c.toNat ≤ 57):=fun h=>hd (by unfold bm;rw [decide_eq_true_eq];exact h)
   simp only [List.length_nil] at hi1
   repeat' (first | refine jM ?_ | (refine jo ?_;first | refine aN rfl ?_ | refine aC rfl ?_) | refine aH rfl rfl (ay oM) ?_ | refine eQ rfl rfl (fun _=>?_) (fun _=>?_) | (refine ad rfl (by first | rfl | (refine decide_eq_false ?_;(omega))) ?_))
   all_goals refine jY (vs:=[_]) ?_
   all_goals (rw [aU,← hi1];rfl)
 ·have : i = s.length:=oM
  rw [this,List.drop_length] at hi1
  simp only [List.takeWhile_nil,List.length_nil] at hi1
  repeat' (first | refine jR ?_ | (refine jo ?_;refine aC rfl ?_) | (refine ar rfl rfl (by first | rfl | (refine decide_eq_false ?_;(omega))) ?_) | refine ad rfl rfl ?_)
  all_goals refine jY (vs:=[_]) ?_
  all_goals (rw [aU,← hi1,this];rfl)
theorem oR (q : UInt8 → Bool) (s : List UInt8) : s.take ((((s.takeWhile q).length : Nat) : Int)).toNat = s.takeWhile q ∧ s.drop ((((s.takeWhile q).length : Nat) : Int)).toNat = s.dropWhile q:=by
 have h:=List.takeWhile_append_dropWhile (p:=q) (l:=s)
 have e : ((((s.takeWhile q).length : Nat) : Int)).toNat = (s.takeWhile q).length:=oM
 rw [e]
 constructor
 ·have h2 : (s.takeWhile q ++ s.dropWhile q).take (s.takeWhile q).length = s.takeWhile q:=List.take_left
  rwa [h] at h2
 ·have h2 : (s.takeWhile q ++ s.dropWhile q).drop (s.takeWhile q).length = s.dropWhile q:=List.drop_left
  rwa [h] at h2
theorem xE {u : Value} {ts : List Ty} {s : List UInt8} (hu : u.oneCell' = true) (hs : s.length ≤ 100000000) : bB Tryz.prog 85 [Ag [u],S s,S [110]] G (eH ts ((cE 999999 s).map fun x=>(.nd 110 (bE x.1) 0 [],x.2)) [110]):=by
 have cx_dg:=s9 (G:=G) hs
 obtain ⟨e1,e2⟩:=oR bm s
 have hwl:=ec bm s
 have hlen : (s.take ((((s.takeWhile bm).length : Nat) : Int)).toNat).length ≤ 100000000:=by rw [e1];omega
 refine jB [(0,_),(1,_),(2,_)] Tryz.func85 Tryz.ntmps85 fun B hok hB hW=>?_
 repeat' (first | refine jM ?_ | (refine jo ?_;first | refine jO fun _=>?_ | refine ae rfl rfl rfl cx_dg rfl ?_ | (refine eh rfl rfl rfl (hY oM) rfl ?_;rintro _ ⟨n,rfl,hnum⟩)) | refine ac rfl rfl ?_ | (refine am (an (id:=6) _ (fun _ h=>h) al ?_);refine jW 5 [0,1,2,3,6,7,8,9] (aa 13 975) ?_;(refine jG (aa 13 991) 4 rfl (ax rfl rfl) ?_);refine jA 5 rfl ?_;(refine jO fun _=>?_);refine jS (aa 13 1023) ?_;refine jT 0 [10,11,12] (aa 13 8191) ?_;refine jQ ?_))
 rename_i x3 x4
 refine Nx.sealC (b:=x4) fun G2 hG2 hsy=>?_
 refine jZ (vs:=[_,_,_]) rfl ⟨rfl,rfl,rfl,trivial⟩ rfl ⟨hG2,rfl,?_⟩
 rw [bD]
 rw [e1] at hnum hsy
 rw [e1,e2]
 refine ⟨_,_,_,rfl,fun h=>?_,fun h=>?_⟩
 ·cases hm : aK (s.takeWhile bm) 999999 with
  | none=>rw [hm] at h;cases h
  | some m =>
   have hmd:=(dW hm).2.1
   refine ⟨.nd 110 (bE m) 0 [],x4,rfl,by unfold cE;rw [hm];rfl,.leaf 110 _ _ _ _ hsy (.inl ⟨rfl,rfl,hmd,fun c hc=>List.all_eq_true.1 (List.all_takeWhile (l:=s) (p:=bm)) c (by rw [hmd];exact hc)⟩)⟩
 ·cases hm : aK (s.takeWhile bm) 999999 with
  | none=>unfold cE;rw [hm];rfl
  | some m=>rw [hm] at h;cases h
theorem pk {c : UInt8} {r : List UInt8} {i : Nat} (hc : i ≤ r.length) (hn : ∀ j,j < i → bt r j ≠ 39) (hi : i = r.length ∨ bt r i = 39 ∧ i < r.length) :
  (dw (c :: r) = if dQ ((c :: r).take (min (i + 2) (r.length + 1))) = true then some (.nd 116 (r.take i) 0 [],r.drop (i + 1)) else none) ∧ (dQ ((c :: r).take (min (i + 2) (r.length + 1))) = true → (c :: r).take (min (i + 2) (r.length + 1)) = 39 :: (r.take i ++ [39])):=by
 unfold dw
 dsimp only
 rcases hi with hi | ⟨h39,hlt⟩
 ·have hcut : aF 39 r = (r,[],false):=ql fun j hj=>hn j oM
  have htk : (c :: r).take (min (i + 2) (r.length + 1)) = c :: r:=List.take_of_length_le (by simp;omega)
  have hno : dQ (c :: r) = false:=by
   unfold dQ
   refine decide_eq_false fun h=>?_
   obtain ⟨⟨h2,_⟩,_,h3,_⟩:=h
   simp only [List.length_cons] at h2
   rw [show (c :: r).length - 1 = (r.length - 1) + 1 by simp;omega,ep] at h3
   exact hn (r.length - 1) oM h3
  rw [hcut,htk,hno]
  exact ⟨by simp,fun h=>(by cases h)⟩
 ·have hcut:=nB (k:=39) hlt hn h39
  have htk : (c :: r).take (min (i + 2) (r.length + 1)) = c :: (r.take i ++ [39]):=by
   rw [show min (i + 2) (r.length + 1) = (i + 1) + 1 by omega,List.take_succ_cons,cD hlt]
   congr 1;congr 1;congr 1
   rw [aA hlt]
   have : bt r i = (r[i]).toNat:=by simp [bt,List.getD,List.getElem?_eq_getElem hlt]
   exact UInt8.toNat_inj.1 (by rw [← this,h39];rfl)
  rw [hcut,htk]
  dsimp only
  by_cases h : c.toNat = 39
  ·rw [if_pos h,show c = 39 from UInt8.toNat_inj.1 h]
   exact ⟨rfl,fun _=>rfl⟩
  ·have hno : ¬ dQ (c :: (r.take i ++ [39])) = true:=fun ht=>by
    unfold dQ at ht
    rw [decide_eq_true_eq] at ht
    exact h (by have:=ht.2.1;rwa [bh] at this)
   rw [if_neg h,if_neg hno]
   exact ⟨rfl,fun h2=>absurd h2 hno⟩
theorem xD {u : Value} {ts : List Ty} {s : List UInt8} (hu : u.oneCell' = true) (hs : s.length ≤ 100000000) (hne : s ≠ []) : bB Tryz.prog 85 [Ag [u],S s,S [116]] G (eH ts (dw s) [116]):=by
 match s,hne with
 | c :: r,_ =>
 simp only [List.length_cons] at hs
 have hcl : (c :: r).length = r.length + 1:=rfl
 refine jB [(0,_),(1,_),(2,_)] Tryz.func85 Tryz.ntmps85 fun B hok hB hW=>?_
 repeat' (first | refine jR ?_ | (refine jo ?_;refine jO fun _=>?_) | refine ac rfl rfl ?_ | refine ad rfl rfl ?_)
 rename_i x3
 refine aV (ι:=Nat) (fun i=>i ≤ r.length ∧ ∀ j,j < i → bt r j ≠ 39) (fun i=>[(1,S (c :: r)),(2,S [116]),(9,I (i + 1 : Nat))]) (fun _=>G) (fun i=>[]) (fun i=>r.length - i) 0 ?_ tU rfl (by repeat (exact List.nil_sublist _)) (fun i Hi=>?_)
 ·exact ⟨Nat.zero_le _,fun j hj=>absurd hj oM⟩
 obtain ⟨hi0,hi1⟩:=Hi
 have hb : bt (c :: r) ((i + 1 : Nat) : Int).toNat = bt r i:=ep c r i
 by_cases hi : i < r.length
 ·by_cases h39 : bt r i = 39
  ·have h39' : bt (c :: r) ((i + 1 : Nat) : Int).toNat = 39:=by rw [hb];exact h39
   have hq:=pk (c:=c) hi0 hi1 (.inr ⟨h39,hi⟩)
   have e3 : (min (((i + 1 : Nat) : Int) + 1) ((((c :: r).length : Nat) : Int))).toNat = min (i + 2) (r.length + 1):=oM
   have cx_tx:=gW (G:=G) (s:=(c :: r).take (min (((i + 1 : Nat) : Int) + 1) ((((c :: r).length : Nat) : Int))).toNat) (by rw [List.length_take];omega)
   repeat' (first | refine jM ?_ | (refine jo ?_;first | refine aN rfl ?_ | refine jV (ve rfl rfl) ?_) | refine aH rfl rfl (ay oM) ?_ | refine ad rfl (aG oM) ?_ | (refine am (an (id:=12) _ (fun _ h=>h) al ?_);refine jW 6 [0,1,2,3,6,7,8,9,10,11] (aa 16 4047) ?_;(refine jG (aa 16 4063) 4 rfl (ax rfl rfl) ?_);refine b8 [5,12] kR dC ⟨?_,?_,trivial⟩;(focus (refine aO rfl rfl ?_;(refine jO fun _=>?_);refine jS (aa 16 4095) ?_;refine jA 12 rfl ?_;((refine ae rfl rfl rfl (gW ?_) rfl ?_;(focus ((simp;omega);done))));refine jS (aa 16 8191) ?_;refine jW 0 [13,14,15] (aa 16 65535) ?_;refine jQ ?_));rotate_left 1;(focus (refine aO rfl rfl ?_;((refine ae rfl rfl rfl (gW ?_) rfl ?_;(focus ((simp;omega);done))));refine jS (aa 16 8159) ?_;refine jA 5 rfl ?_;(refine jO fun _=>?_);refine jS (aa 16 8191) ?_;refine jW 0 [13,14,15] (aa 16 65535) ?_;refine jQ ?_));rotate_left 1))
   all_goals
    rename_i x4
    refine Nx.sealC (b:=x4) fun G2 hG2 hsy=>?_
    refine jZ (vs:=[_,_,_]) rfl ⟨rfl,rfl,rfl,trivial⟩ rfl ⟨hG2,rfl,?_⟩
    rw [bD]
    rw [e3] at hsy
    rw [e3]
    refine ⟨_,_,_,rfl,fun h=>?_,fun h=>?_⟩
    ·have htk:=hq.2 h
     rw [htk] at hsy
     have hdr : (c :: r).drop (min (i + 2) (r.length + 1)) = r.drop (i + 1):=by
      rcases Nat.lt_or_ge i r.length with h2 | h2
      ·rw [show min (i + 2) (r.length + 1) = (i + 1) + 1 by omega];rfl
      ·rw [List.drop_eq_nil_of_le (by simp;omega),List.drop_eq_nil_of_le oM]
     exact ⟨_,x4,rfl,by rw [hq.1,if_pos h,hdr],.leaf 116 _ _ _ _ hsy (.inr (.inl ⟨rfl,rfl,rfl⟩))⟩
    ·rw [hq.1,if_neg (by rw [h];decide)]
  ·have h39' : ¬ bt (c :: r) ((i + 1 : Nat) : Int).toNat = 39:=by rw [hb];exact h39
   repeat' (first | refine jM ?_ | (refine jo ?_;refine aN rfl ?_) | refine aH rfl rfl (ay oM) ?_ | refine ac rfl (ay oM) ?_)
   refine Nx.re (d:=9) (v':=I (i + 1 + 1 : Nat)) rfl (congrArg (Value.int .i64) oM) ?_
   exact bj (i + 1) ⟨oM,fun j hj=>(by
    rcases Nat.lt_or_ge j i with h | h
    ·exact hi1 j h
    ·have : j = i:=oM
     subst this;exact h39)⟩ oM tU rfl a8
 ·have hq:=pk (c:=c) hi0 hi1 (.inl oM)
  have e3 : (min (((i + 1 : Nat) : Int) + 1) ((((c :: r).length : Nat) : Int))).toNat = min (i + 2) (r.length + 1):=oM
  have cx_tx:=gW (G:=G) (s:=(c :: r).take (min (((i + 1 : Nat) : Int) + 1) ((((c :: r).length : Nat) : Int))).toNat) (by rw [List.length_take];omega)
  repeat' (first | refine jM ?_ | (refine jo ?_;first | refine aC rfl ?_ | refine jV (ve rfl rfl) ?_) | refine ar rfl rfl (aG oM) ?_ | refine ad rfl rfl ?_ | (refine am (an (id:=12) _ (fun _ h=>h) al ?_);refine jW 6 [0,1,2,3,6,7,8,9,10,11] (aa 16 4047) ?_;(refine jG (aa 16 4063) 4 rfl (ax rfl rfl) ?_);refine b8 [5,12] kR dC ⟨?_,?_,trivial⟩;(focus (refine aO rfl rfl ?_;(refine jO fun _=>?_);refine jS (aa 16 4095) ?_;refine jA 12 rfl ?_;((refine ae rfl rfl rfl (gW ?_) rfl ?_;(focus ((simp;omega);done))));refine jS (aa 16 8191) ?_;refine jW 0 [13,14,15] (aa 16 65535) ?_;refine jQ ?_));rotate_left 1;(focus (refine aO rfl rfl ?_;((refine ae rfl rfl rfl (gW ?_) rfl ?_;(focus ((simp;omega);done))));refine jS (aa 16 8159) ?_;refine jA 5 rfl ?_;(refine jO fun _=>?_);refine jS (aa 16 8191) ?_;refine jW 0 [13,14,15] (aa 16 65535) ?_;refine jQ ?_));rotate_left 1))
  all_goals
   rename_i x4
   refine Nx.sealC (b:=x4) fun G2 hG2 hsy=>?_
   refine jZ (vs:=[_,_,_]) rfl ⟨rfl,rfl,rfl,trivial⟩ rfl ⟨hG2,rfl,?_⟩
   rw [bD]
   rw [e3] at hsy
   rw [e3]
   refine ⟨_,_,_,rfl,fun h=>?_,fun h=>?_⟩
   ·have htk:=hq.2 h
    rw [htk] at hsy
    have hdr : (c :: r).drop (min (i + 2) (r.length + 1)) = r.drop (i + 1):=by
     rcases Nat.lt_or_ge i r.length with h2 | h2
     ·rw [show min (i + 2) (r.length + 1) = (i + 1) + 1 by omega];rfl
     ·rw [List.drop_eq_nil_of_le (by simp;omega),List.drop_eq_nil_of_le oM]
    exact ⟨_,x4,rfl,by rw [hq.1,if_pos h,hdr],.leaf 116 _ _ _ _ hsy (.inr (.inl ⟨rfl,rfl,rfl⟩))⟩
   ·rw [hq.1,if_neg (by rw [h];decide)]
theorem xF {u : Value} {ts : List Ty} {s : List UInt8} (hu : u.oneCell' = true) (hs : s.length ≤ 100000000) : bB Tryz.prog 85 [Ag [u],S s,S [102]] G (eH ts (eC s) [102]):=by
 have hpf : ∀ l : List UInt8,l.isPrefixOf s = true ↔ l.length ≤ s.length ∧ s.take l.length = l:=fun l=>by
  rw [List.isPrefixOf_iff_prefix]
  constructor
  ·rintro ⟨t,rfl⟩;simp
  ·rintro ⟨h1,h2⟩;exact ⟨s.drop l.length,by rw [show l ++ s.drop l.length = s.take l.length ++ s.drop l.length from by rw [h2]];exact List.take_append_drop _ _⟩
 refine jB [(0,_),(1,_),(2,_)] Tryz.func85 Tryz.ntmps85 fun B hok hB hW=>?_
 repeat' (first | refine jR ?_ | (refine jo ?_;first | refine jO fun _=>?_ | refine jF fun _=>?_ | refine jV (af rfl) ?_) | refine ad rfl rfl ?_)
 rename_i x3 x4
 refine aV (ι:=Nat) (fun i=>i ≤ 2 ∧ (1 ≤ i → ([121,101,115] : List UInt8).isPrefixOf s = false) ∧ (2 ≤ i → ([110,111] : List UInt8).isPrefixOf s = false)) (fun i=>[(1,S s),(2,S [102]),(68,.slice (some ⟨x4,0,none⟩) 2 2),(69,I (2 : Nat)),(70,I i)]) (fun _=>G) (fun i=>[.blk x4 (.cells (List.toArray [S [121,101,115],S [110,111]]) acF (0,0))]) (fun i=>2 - i) 0 ?_ tU rfl sB (fun i Hi=>?_)
 ·exact ⟨Nat.zero_le _,fun h=>absurd h oM,fun h=>absurd h oM⟩
 obtain ⟨hi0,hi1,hi2⟩:=Hi
 have h3 : i = 0 ∨ i = 1 ∨ i = 2:=oM
 rcases h3 with rfl | rfl | rfl
 ·cases hp : ([121,101,115] : List UInt8).isPrefixOf s with
  | true =>
   obtain ⟨h1,h2⟩:=(hpf _).1 hp
   have h1' : (((([121,101,115] : List UInt8).length : Nat) : Int)) ≤ s.length:=oM
   have h2' : s.take (((([121,101,115] : List UInt8).length : Nat) : Int)).toNat = [121,101,115]:=h2
   repeat' (first | refine jM ?_ | (refine jo ?_;first | refine aN rfl ?_ | refine jV (ak rfl rfl oM) ?_ | refine aD rfl ?_) | refine aH rfl rfl (ay ‹_›) ?_ | (refine ac rfl (by first | rfl | (refine decide_eq_true ?_;(assumption))) ?_) | (refine am (an (id:=17) _ (fun _ h=>h) al ?_);refine jW 5 [0,1,4,5,6,7] (aa 11 243) ?_;(refine jG (aa 11 247) 2 rfl (ax rfl rfl) ?_);refine jA 3 rfl ?_;(refine jO fun _=>?_);refine jS (aa 11 255) ?_;refine jT 0 [8,9,10] (aa 11 2047) ?_;refine jQ ?_))
   all_goals
    rename_i y
    refine Nx.sealC (b:=y) fun G2 hG2 hsy=>?_
    refine jZ (vs:=[_,_,_]) rfl ⟨rfl,rfl,rfl,trivial⟩ rfl ⟨hG2,rfl,?_⟩
    rw [bD]
    exact ⟨_,_,_,rfl,fun _=>⟨.nd 102 [121,101,115] 0 [],y,rfl,by unfold eC;rw [hp,if_pos rfl];rfl,.leaf 102 _ _ _ _ hsy (.inr (.inr ⟨rfl,rfl,rfl,.inl rfl⟩))⟩,fun h=>(by cases h)⟩
  | false =>
   have hn : ¬ ((([121,101,115] : List UInt8).length : Nat) ≤ s.length ∧ s.take ([121,101,115] : List UInt8).length = [121,101,115]):=fun h=>by rw [(hpf _).2 h] at hp;cases hp
   have hn' : ¬ ((((([121,101,115] : List UInt8).length : Nat) : Int)) ≤ s.length ∧ s.take (((([121,101,115] : List UInt8).length : Nat) : Int)).toNat = [121,101,115]):=fun h=>hn ⟨oM,h.2⟩
   by_cases h1' : (((([121,101,115] : List UInt8).length : Nat) : Int)) ≤ s.length
   ·have h2' : ¬ s.take (((([121,101,115] : List UInt8).length : Nat) : Int)).toNat = [121,101,115]:=fun h=>hn' ⟨h1',h⟩
    repeat' (first | refine jM ?_ | (refine jo ?_;first | refine aN rfl ?_ | refine jV (ak rfl rfl oM) ?_ | refine aD rfl ?_) | refine aH rfl rfl (ay ‹_›) ?_ | refine ac rfl rfl ?_ | refine ad rfl (aG ‹_›) ?_)
    exact bj 1 ⟨oM,fun _=>rfl,fun h=>absurd h oM⟩ oM tU rfl a8
   ·repeat' (first | refine jM ?_ | (refine jo ?_;first | refine aC rfl ?_ | refine jV (ak rfl rfl oM) ?_ | refine aD rfl ?_) | refine ar rfl rfl (aG ‹_›) ?_ | refine ac rfl rfl ?_ | refine ad rfl rfl ?_)
    exact bj 1 ⟨oM,fun _=>rfl,fun h=>absurd h oM⟩ oM tU rfl a8
 ·have hy:=hi1 (Nat.le_refl _)
  cases hp : ([110,111] : List UInt8).isPrefixOf s with
  | true =>
   obtain ⟨h1,h2⟩:=(hpf _).1 hp
   have h1' : (((([110,111] : List UInt8).length : Nat) : Int)) ≤ s.length:=oM
   have h2' : s.take (((([110,111] : List UInt8).length : Nat) : Int)).toNat = [110,111]:=h2
   repeat' (first | refine jM ?_ | (refine jo ?_;first | refine aN rfl ?_ | refine jV (ak rfl rfl oM) ?_ | refine aD rfl ?_) | refine aH rfl rfl (ay ‹_›) ?_ | (refine ac rfl (by first | rfl | (refine decide_eq_true ?_;(assumption))) ?_) | (refine am (an (id:=17) _ (fun _ h=>h) al ?_);refine jW 5 [0,1,4,5,6,7] (aa 11 243) ?_;(refine jG (aa 11 247) 2 rfl (ax rfl rfl) ?_);refine jA 3 rfl ?_;(refine jO fun _=>?_);refine jS (aa 11 255) ?_;refine jT 0 [8,9,10] (aa 11 2047) ?_;refine jQ ?_))
   all_goals
    rename_i y
    refine Nx.sealC (b:=y) fun G2 hG2 hsy=>?_
    refine jZ (vs:=[_,_,_]) rfl ⟨rfl,rfl,rfl,trivial⟩ rfl ⟨hG2,rfl,?_⟩
    rw [bD]
    exact ⟨_,_,_,rfl,fun _=>⟨.nd 102 [110,111] 0 [],y,rfl,by unfold eC;rw [hy,if_neg dC,hp,if_pos rfl];rfl,.leaf 102 _ _ _ _ hsy (.inr (.inr ⟨rfl,rfl,rfl,.inr rfl⟩))⟩,fun h=>(by cases h)⟩
  | false =>
   have hn : ¬ ((([110,111] : List UInt8).length : Nat) ≤ s.length ∧ s.take ([110,111] : List UInt8).length = [110,111]):=fun h=>by rw [(hpf _).2 h] at hp;cases hp
   have hn' : ¬ ((((([110,111] : List UInt8).length : Nat) : Int)) ≤ s.length ∧ s.take (((([110,111] : List UInt8).length : Nat) : Int)).toNat = [110,111]):=fun h=>hn ⟨oM,h.2⟩
   by_cases h1' : (((([110,111] : List UInt8).length : Nat) : Int)) ≤ s.length
   ·have h2' : ¬ s.take (((([110,111] : List UInt8).length : Nat) : Int)).toNat = [110,111]:=fun h=>hn' ⟨h1',h⟩
    repeat' (first | refine jM ?_ | (refine jo ?_;first | refine aN rfl ?_ | refine jV (ak rfl rfl oM) ?_ | refine aD rfl ?_) | refine aH rfl rfl (ay ‹_›) ?_ | refine ac rfl rfl ?_ | refine ad rfl (aG ‹_›) ?_)
    exact bj 2 ⟨oM,fun _=>hy,fun _=>rfl⟩ oM tU rfl a8
   ·repeat' (first | refine jM ?_ | (refine jo ?_;first | refine aC rfl ?_ | refine jV (ak rfl rfl oM) ?_ | refine aD rfl ?_) | refine ar rfl rfl (aG ‹_›) ?_ | refine ac rfl rfl ?_ | refine ad rfl rfl ?_)
    exact bj 2 ⟨oM,fun _=>hy,fun _=>rfl⟩ oM tU rfl a8
 ·repeat' (first | refine jR ?_ | refine ad rfl rfl ?_)
  refine jZ (vs:=[_,_,_]) rfl ⟨rfl,rfl,rfl,trivial⟩ rfl ⟨Gh.le.refl _,rfl,?_⟩
  rw [bD]
  exact ⟨_,_,_,rfl,fun h=>(by cases h),fun _=>by unfold eC;rw [hi1 oM,if_neg dC,hi2 oM,if_neg dC]⟩
theorem rx {u : Value} {x : co} {s : List UInt8} (hs : s.length ≤ 100000000) (hu : u.oneCell' = true) (hf : aP G (ge x) 4 x.2.fields.length (aj gU x.2.fields)) (hl : x.2.fields.length ≤ 1000) :
  a9 Tryz.prog 118 [Ag [u],S s,Ag (jI x)] G (fun v=>∃ n,v = Tu [Ag (gU ((ci x.2.fields n).getD zF)),S (s.dropWhile bm),Bo ((aK (s.takeWhile bm) 200).isSome && (ci x.2.fields n).isSome)] ∧ ∀ m,aK (s.takeWhile bm) 200 = some m → n = m):=by
 have cx_dg:=s9 (G:=G) hs
 obtain ⟨e1,e2⟩:=oR bm s
 have hwl:=ec bm s
 have hlen : (s.take ((((s.takeWhile bm).length : Nat) : Int)).toNat).length ≤ 100000000:=by rw [e1];omega
 simp only [jI]
 refine jE [(0,_),(1,_),(2,_)] Tryz.func118 Tryz.ntmps118 fun B hB=>?_
 repeat' (first | refine jM ?_ | (refine jo ?_;first | refine jO fun _=>?_ | refine jL fun _=>?_ | refine bK rfl ?_ | refine ae rfl rfl rfl cx_dg rfl ?_ | (refine eh rfl rfl rfl (hY oM) rfl ?_;rintro _ ⟨n,rfl,hnum⟩)))
 rename_i n
 have cx_fld:=s8 (G:=G) (tag:=n) hf hl
 rw [e1] at hnum
 cases hm : (aK (s.take ((((s.takeWhile bm).length : Nat) : Int)).toNat) 200).isSome with
 | false =>
  repeat' (first | refine jR ?_ | (refine jo ?_;first | refine jL fun _=>?_ | refine jC rfl rfl rfl ?_ | refine ae rfl rfl rfl cx_fld rfl ?_) | (refine am (dV (id:=4) (tt:=6) rfl al ?_);refine jW 6 [1,2,3,4,5] (aa 11 62) ?_;(try (refine Nx.re (d:=34) (v':=Bo false) rfl (congrArg Value.bool rfl) ?_));refine jW 5 [6] (aa 11 126) ?_;(refine jG (aa 11 127) 0 rfl (bM rfl rfl rfl rfl) ?_);((refine jG (aa 11 255) 7 rfl (bi rfl rfl ?_) ?_;(focus ((rfl);done))));refine jA 8 rfl ?_;(refine jC rfl rfl rfl ?_);refine jK (aa 11 511) ?_;refine jW 0 [9,10] (aa 11 2047) ?_;refine jQ ?_))
  all_goals refine jZ (vs:=[_,_,_]) rfl ⟨aJ rfl rfl rfl rfl,rfl,rfl,trivial⟩ rfl ⟨rfl,rfl,?_⟩
  all_goals (rw [bD];exact ⟨n,by rw [e1] at hm;rw [hm,e2];rfl,hnum⟩)
 | true =>
  repeat' (first | refine jR ?_ | (refine jo ?_;first | refine jL fun _=>?_ | refine jC rfl rfl rfl ?_ | refine ae rfl rfl rfl cx_fld rfl ?_) | (refine am (dV (id:=4) (tt:=6) rfl al ?_);refine jW 6 [1,2,3,4,5] (aa 11 62) ?_;(try (refine Nx.re (d:=34) (v':=Bo true) rfl (congrArg Value.bool rfl) ?_));refine jW 5 [6] (aa 11 126) ?_;(refine jG (aa 11 127) 0 rfl (bM rfl rfl rfl rfl) ?_);((refine jG (aa 11 255) 7 rfl (bL rfl rfl ?_) ?_;(focus ((rfl);done))));refine jA 8 rfl ?_;(refine jC rfl rfl rfl ?_);refine jK (aa 11 511) ?_;refine jW 0 [9,10] (aa 11 2047) ?_;refine jQ ?_))
  all_goals refine jZ (vs:=[_,_,_]) rfl ⟨aJ rfl rfl rfl rfl,rfl,rfl,trivial⟩ rfl ⟨rfl,rfl,?_⟩
  all_goals (rw [bD];exact ⟨n,by rw [e1] at hm;rw [hm,e2];rfl,hnum⟩)
def iv (v : V) : Prop:=v.out.length + 1 ≤ 2 * v.tot
theorem kC : ∀ {ks : List V},(∀ v ∈ ks,iv v) → du (V.outs ks) + ks.length ≤ 2 * V.tots ks
 | [],_=>by simp [V.outs,du]
 | v :: r,h=>by
  have h1:=h v (.head _)
  have h2:=kC fun u hu=>h u (.tail _ hu)
  unfold iv at h1
  simp only [V.outs,du,List.map_cons,List.sum_cons,V.tots,List.length_cons] at *
  omega
theorem gw {w : Nat} {x : List UInt8} {t : Int} {ks : List V} (h : ∀ v ∈ ks,iv v) (ht : t ≤ 999999) : iv (.nd w x t ks):=by
 have h1:=kC h
 have h2:=gk 44 (V.outs ks)
 rw [j9] at h2
 have h4:=r9 (w:=w) (x:=x) (e:=ks.isEmpty) (j:=aL 44 (V.outs ks)) ht
 have h5:=c7 ks
 unfold iv
 rw [V.out,V.tot]
 omega
theorem pq {α : Type} [Inhabited α] {l : List α} {x : α} (h : x ∈ l) : ∃ i,i < l.length ∧ ab l i = x:=by
 obtain ⟨i,hi,rfl⟩:=List.mem_iff_getElem.1 h
 exact ⟨i,hi,aA hi⟩
theorem j7 {ts : List Ty} (hw : SchW ts) {k : List UInt8} {t : Ty} (h : aZ ts k = some t) {d : Fld} (hd : d ∈ t.fields) : d.tag ≤ 999999 ∧ 0 ≤ d.tag:=by
 have:=((hw.ty t (bn h)).fld d hd).tag
 omega
theorem df {ts : List Ty} {k : List UInt8} {t : Ty} (h : aZ ts k = some t) : ∃ r,k = 64 :: r:=by
 unfold aZ at h
 cases k with
 | nil=>cases h
 | cons c r =>
  unfold ce at h
  dsimp only at h
  by_cases h64 : c.toNat = 64
  ·exact ⟨r,by rw [show c = 64 from UInt8.toNat_inj.1 h64]⟩
  ·rw [if_neg h64] at h;cases h
theorem lK {ts : List Ty} (hw : SchW ts) {v : V} {k : List UInt8} {b : Nat} (h : RepR G ts v k b) : iv v:=by
 induction h with
 | leaf w x k tx b h1 h2=>exact gw (by simp) dC
 | lst k b ks bs a c h1 h2 h3 _ ih =>
  exact gw (fun v hv=>by obtain ⟨i,hi,rfl⟩:=pq hv;exact ih i hi) dC
 | non k b h1=>exact gw (by simp) dC
 | opt k b kb b' cc v h0 h1 h2 _ ih=>exact gw (fun u hu=>by simp only [List.mem_singleton] at hu;subst hu;exact ih) dC
 | recd k b t fs bs a a2 c c2 h0 h1 h2 h3 h4 h5 _ ih =>
  refine gw (fun v hv=>?_) dC
  obtain ⟨p,hp,rfl⟩:=List.mem_map.1 hv
  obtain ⟨i,hi,rfl⟩:=pq hp
  exact gw (fun u hu=>by simp only [List.mem_singleton] at hu;subst hu;exact ih i hi) (j7 hw h0.1 (h5 i hi)).1
 | enm k b tgb t d h0 h1 h2 h3=>exact gw (by simp) (j7 hw h0.1 h1).1
 | uni k b tgb kb b' cc t d v hcc h0 h1 h2 h3 h4 _ ih=>exact gw (fun u hu=>by simp only [List.mem_singleton] at hu;subst hu;exact ih) (j7 hw h0.1 h1).1
theorem pt {c : UInt8} {xs : List (List UInt8)} {i : Nat} (h : i < xs.length) : aL c (xs.take (i + 1)) = if 0 < i then aL c (xs.take i) ++ c :: ab xs i else ab xs i:=by
 rw [cD h]
 by_cases hi : 0 < i
 ·rw [if_pos hi,lQ]
  rw [ne_eq,List.take_eq_nil_iff]
  rintro (h0 | h0)
  ·omega
  ·subst h0;simp at h
 ·have : i = 0:=oM
  subst this;rfl
theorem fR {ts : List Ty} (hw : SchW ts) {v : V} {k : List UInt8} {b : Nat} (h : RepR G ts v k b) : v.tot ≤ 1000000000000 → a9 Tryz.prog 49 [Pt b 0] G (· = S v.out):=by
 induction h with
 | leaf w x k tx b h1 h2 =>
  intro _
  rcases h2 with ⟨rfl,rfl,rfl,_⟩ | ⟨rfl,rfl,rfl⟩ | ⟨rfl,rfl,rfl,_⟩
  all_goals
   refine jE [(0,_)] Tryz.func49 Tryz.ntmps49 fun B hB=>?_
   repeat' (first | refine jX ?_ | (refine jo ?_;refine jV (ah rfl rfl aS rfl rfl) ?_) | refine ad rfl rfl ?_)
   refine jY (vs:=[_]) ?_
   rw [aU,V.out];rfl
 | lst k b ks bs a c h1 h2 h3 hk ih =>
  intro ht
  rw [br] at ht
  have hb:=kC (ks:=ks) fun v hv=>by obtain ⟨i,hi,rfl⟩:=pq hv;exact lK hw (hk i hi)
  have hol:=j9 ks
  refine jE [(0,_)] Tryz.func49 Tryz.ntmps49 fun B hB=>?_
  repeat' (first | refine jX ?_ | (refine jo ?_;refine jV (ah rfl rfl aS rfl rfl) ?_) | refine ac rfl rfl ?_)
  refine aV (ι:=Nat) (fun i=>i ≤ ks.length) (fun i=>[(0,Pt b 0),(3,S (91 :: aL 44 ((V.outs ks).take i))),(4,I i)]) (fun _=>G) (fun i=>[]) (fun i=>ks.length - i) 0 ?_ tU rfl a8 (fun i Hi=>?_)
  ·exact Nat.zero_le _
  have hj1:=gk 44 ((V.outs ks).take i)
  have hj2:=e7 (V.outs ks) i
  have hj3 : ((V.outs ks).take i).length ≤ ks.length:=by rw [List.length_take];omega
  by_cases hi : i < ks.length
  ·have hti:=gu hi
   have cx_out:=ih i hi oM
   have hou:=lI hi
   have hxi : ab bs i = ab bs i:=rfl
   have hob:=lK hw (hk i hi)
   unfold iv at hob
   have hst:=pt (c:=44) (xs:=V.outs ks) (i:=i) oM
   rw [hou] at hst
   obtain ⟨kb,ko,kc,e,hs⟩:=h2.expl oM
   simp only [Value.slice.injEq] at e
   obtain ⟨rfl,-,rfl⟩:=e
   by_cases h0 : 0 < i
   ·rw [if_pos h0] at hst
    repeat' (first | refine jX ?_ | (refine jo ?_;first | refine jV (ah rfl rfl aS rfl rfl) ?_ | (refine jV (bU rfl rfl aS ?_ aS rfl) ?_;focus omega) | refine jV (af rfl) ?_ | refine jV (ak rfl rfl oM) ?_ | refine ae rfl rfl rfl cx_out rfl ?_) | refine ac rfl (ay oM) ?_)
    refine Nx.re (d:=3) (v':=S (91 :: aL 44 ((V.outs ks).take (i + 1)))) rfl (congrArg (fun l=>S l) (by rw [hst];simp)) ?_
    exact bj (i + 1) oM oM tU rfl a8
   ·rw [if_neg h0] at hst
    have hi0 : i = 0:=oM
    subst hi0
    repeat' (first | refine jX ?_ | (refine jo ?_;first | (refine jV (fX rfl rfl aS ?_ aS rfl rfl) ?_;focus omega) | refine jV (ah rfl rfl aS rfl rfl) ?_ | refine jV (af rfl) ?_ | refine jV (ak rfl rfl oM) ?_ | refine ae rfl rfl rfl cx_out rfl ?_) | refine ac rfl (ay oM) ?_ | refine ad rfl rfl ?_)
    refine Nx.re (d:=3) (v':=S (91 :: aL 44 ((V.outs ks).take (0 + 1)))) rfl (congrArg (fun l=>S l) (by rw [hst];rfl)) ?_
    exact bj (0 + 1) oM oM tU rfl a8
  ·have hin : i = ks.length:=oM
   subst hin
   repeat' (first | refine jX ?_ | (refine jo ?_;first | refine jV (ah rfl rfl aS rfl rfl) ?_ | refine jV (af rfl) ?_) | refine ad rfl (aG oM) ?_)
   refine jY (vs:=[_]) ?_
   rw [aU,V.out,← hol,List.take_length];rfl
 | non k b h1 =>
  intro _
  refine jE [(0,_)] Tryz.func49 Tryz.ntmps49 fun B hB=>?_
  repeat' (first | refine jX ?_ | (refine jo ?_;first | refine jV (ah rfl rfl aS rfl rfl) ?_ | refine jV (af rfl) ?_) | refine ac rfl rfl ?_ | refine ad rfl rfl ?_)
  refine jY (vs:=[_]) ?_
  rfl
 | opt k b kb b' cc v h0 h1 h2 h3 ih =>
  intro ht
  simp only [br,V.tots] at ht
  have cx_out:=ih oM
  have hob:=lK hw h3
  unfold iv at hob
  refine jE [(0,_)] Tryz.func49 Tryz.ntmps49 fun B hB=>?_
  repeat' (first | refine jX ?_ | (refine jo ?_;first | refine jV (ah rfl rfl aS rfl rfl) ?_ | refine jV (af rfl) ?_ | refine jV (aM rfl rfl oM) ?_ | refine ae rfl rfl rfl cx_out rfl ?_) | refine ac rfl rfl ?_ | refine ad rfl rfl ?_)
  refine jY (vs:=[_]) ?_
  rw [aU,V.out];rfl
 | recd k b t fs bs a a2 c c2 h0 h1 h2 h3 h4 h5 hk ih =>
  intro ht
  obtain ⟨r,rfl⟩:=df h0.1
  rw [br] at ht
  have hB1 : ∀ v ∈ fs.map (fun p : Fld × V=>V.nd 61 [] p.1.tag [p.2]),iv v:=fun v hv=>by
   obtain ⟨p,hp,rfl⟩:=List.mem_map.1 hv
   obtain ⟨i,hi,rfl⟩:=pq hp
   exact gw (fun u hu=>by simp only [List.mem_singleton] at hu;subst hu;exact lK hw (hk i hi)) (j7 hw h0.1 (h5 i hi)).1
  have hb:=kC hB1
  have hml : (fs.map (fun p : Fld × V=>V.nd 61 [] p.1.tag [p.2])).length = fs.length:=by simp
  have hol:=j9 (fs.map (fun p : Fld × V=>V.nd 61 [] p.1.tag [p.2]))
  have hnt : ∀ i,i < fs.length → ab (fs.map (fun p : Fld × V=>V.nd 61 [] p.1.tag [p.2])) i = V.nd 61 [] (ab fs i).1.tag [(ab fs i).2]:=fun i hi=>by rw [aA (by simpa using hi),aA hi];simp
  generalize hKS : fs.map (fun p : Fld × V=>V.nd 61 [] p.1.tag [p.2]) = KS at *
  have cx_nmd : a9 Tryz.prog 82 [Pt b 0] G (· = S (V.out (.nd 82 [] 0 KS))):=by
   refine jE [(0,_)] Tryz.func82 Tryz.ntmps82 fun B hB=>?_
   repeat' (first | refine jR ?_ | (refine jo ?_;refine jV (ah rfl rfl aS rfl rfl) ?_) | refine ad rfl rfl ?_)
   refine aV (ι:=Nat) (fun i=>i ≤ fs.length) (fun i=>[(0,Pt b 0),(3,S (123 :: aL 44 ((V.outs KS).take i))),(4,I i)]) (fun _=>G) (fun i=>[]) (fun i=>fs.length - i) 0 ?_ tU rfl a8 (fun i Hi=>?_)
   ·exact Nat.zero_le _
   have hj1:=gk 44 ((V.outs KS).take i)
   have hj2:=e7 (V.outs KS) i
   have hj3 : ((V.outs KS).take i).length ≤ fs.length:=by rw [List.length_take];omega
   by_cases hi : i < fs.length
   ·have hti:=gu (ks:=KS) (i:=i) oM
    rw [hnt i hi] at hti
    simp only [br,V.tots] at hti
    have cx_out:=ih i hi oM
    have hou:=lI (ks:=KS) (i:=i) oM
    rw [hnt i hi,fV] at hou
    have hxi : ab bs i = ab bs i:=rfl
    have htg:=j7 hw h0.1 (h5 i hi)
    have hdl:=gB htg.1
    have hob:=lK hw (hk i hi)
    unfold iv at hob
    have hst:=pt (c:=44) (xs:=V.outs KS) (i:=i) oM
    rw [hou] at hst
    have htn : ab (fs.map fun p : Fld × V=>p.1.tag) i = (ab fs i).1.tag:=by rw [aA (by simpa using hi),aA hi];simp
    have htl : (fs.map fun p : Fld × V=>p.1.tag).length = fs.length:=by simp
    obtain ⟨tgb,to,tc,e,hs1⟩:=h2.expl oM
    simp only [Value.slice.injEq] at e
    obtain ⟨rfl,-,rfl⟩:=e
    obtain ⟨kb,ko,kc,e,hs2⟩:=h3.expl oM
    simp only [Value.slice.injEq] at e
    obtain ⟨rfl,-,rfl⟩:=e
    by_cases hp0 : 0 < i
    ·rw [if_pos hp0] at hst
     repeat' (first | refine jX ?_ | (refine jo ?_;first | refine jV (ah rfl rfl aS rfl rfl) ?_ | refine jV (af rfl) ?_) | refine ac rfl (ay oM) ?_ | (refine am (an (id:=12) _ (fun _ h=>h) al ?_);refine jT 12 [0,1,2,3,5,11,12,13,15] (aa 21 47151) ?_;(refine jG (aa 21 47167) 4 rfl (ah rfl rfl aS rfl rfl) ?_);(refine jG (aa 21 47231) 6 rfl (ak rfl rfl oM) ?_);((refine jG (aa 21 47359) 7 rfl (bU rfl rfl aS ?_ aS rfl) ?_;focus omega));(refine jG (aa 21 63743) 14 rfl (ah rfl rfl aS rfl rfl) ?_);(refine jG (aa 21 129279) 16 rfl (ak rfl rfl oM) ?_);((refine jG (aa 21 260351) 17 rfl (bU rfl rfl aS ?_ aS rfl) ?_;focus omega));refine jA 8 rfl ?_;(refine ae rfl rfl rfl (dn oM) rfl ?_);refine jS (aa 21 260607) ?_;refine jW 3 [9,10] (aa 21 262143) ?_;refine jA 18 rfl ?_;(refine ae rfl rfl rfl cx_out rfl ?_);refine jS (aa 21 524287) ?_;refine jW 0 [19,20] (aa 21 2097151) ?_;refine jQ ?_))
     all_goals
      refine Nx.re (d:=3) (v':=S (123 :: aL 44 ((V.outs KS).take (i + 1)))) rfl (congrArg (fun l=>S l) (by rw [hst];simp)) ?_
      exact bj (i + 1) oM oM tU rfl a8
    ·rw [if_neg hp0] at hst
     have hi0 : i = 0:=oM
     subst hi0
     repeat' (first | refine jM ?_ | (refine jo ?_;first | refine jV (ah rfl rfl aS rfl rfl) ?_ | refine jV (af rfl) ?_) | refine ac rfl (ay oM) ?_ | refine ad rfl rfl ?_ | (refine am (an (id:=12) _ (fun _ h=>h) al ?_);refine jT 12 [0,1,2,3,5,11,12,13,15] (aa 21 47151) ?_;(refine jG (aa 21 47167) 4 rfl (ah rfl rfl aS rfl rfl) ?_);(refine jG (aa 21 47231) 6 rfl (ak rfl rfl oM) ?_);((refine jG (aa 21 47359) 7 rfl (bU rfl rfl aS ?_ aS rfl) ?_;focus omega));(refine jG (aa 21 63743) 14 rfl (ah rfl rfl aS rfl rfl) ?_);(refine jG (aa 21 129279) 16 rfl (ak rfl rfl oM) ?_);((refine jG (aa 21 260351) 17 rfl (fX rfl rfl aS ?_ aS rfl rfl) ?_;focus omega));refine jA 8 rfl ?_;(refine ae rfl rfl rfl (dn oM) rfl ?_);refine jS (aa 21 260607) ?_;refine jW 3 [9,10] (aa 21 262143) ?_;refine jA 18 rfl ?_;(refine ae rfl rfl rfl cx_out rfl ?_);refine jS (aa 21 524287) ?_;refine jW 0 [19,20] (aa 21 2097151) ?_;refine jQ ?_))
     all_goals
      refine Nx.re (d:=3) (v':=S (123 :: aL 44 ((V.outs KS).take (0 + 1)))) rfl (congrArg (fun l=>S l) (by rw [hst];simp [aL])) ?_
      exact bj (0 + 1) oM oM tU rfl a8
   ·have hin : i = fs.length:=oM
    repeat' (first | refine jX ?_ | (refine jo ?_;first | refine jV (ah rfl rfl aS rfl rfl) ?_ | refine jV (af rfl) ?_) | refine ad rfl (aG oM) ?_)
    refine jY (vs:=[_]) ?_
    rw [aU,V.out,hin,← hml,← hol,List.take_length];rfl
  refine jE [(0,_)] Tryz.func49 Tryz.ntmps49 fun B hB=>?_
  repeat' (first | refine jX ?_ | (refine jo ?_;first | refine jV (ah rfl rfl aS rfl rfl) ?_ | refine ae rfl rfl rfl cx_nmd rfl ?_) | refine ac rfl rfl ?_ | refine ad rfl rfl ?_)
  refine jY (vs:=[_]) ?_
  rfl
 | enm k b tgb t d h0 h1 h2 h3 =>
  intro _
  obtain ⟨r,rfl⟩:=df h0.1
  have htg:=j7 hw h0.1 h1
  have hdl:=gB htg.1
  have cx_nmd : a9 Tryz.prog 82 [Pt b 0] G (· = S (V.out (.nd 69 [] d.tag []))):=by
   refine jE [(0,_)] Tryz.func82 Tryz.ntmps82 fun B hB=>?_
   repeat' (first | refine jX ?_ | (refine jo ?_;first | refine jV (ah rfl rfl aS rfl rfl) ?_ | refine jV (aM rfl rfl oM) ?_ | refine ae rfl rfl rfl (dn oM) rfl ?_) | refine ac rfl rfl ?_ | refine ad rfl rfl ?_)
   refine jY (vs:=[_]) ?_
   rw [aU,V.out];rfl
  refine jE [(0,_)] Tryz.func49 Tryz.ntmps49 fun B hB=>?_
  repeat' (first | refine jX ?_ | (refine jo ?_;first | refine jV (ah rfl rfl aS rfl rfl) ?_ | refine ae rfl rfl rfl cx_nmd rfl ?_) | refine ac rfl rfl ?_ | refine ad rfl rfl ?_)
  refine jY (vs:=[_]) ?_
  rfl
 | uni k b tgb kb b' cc t d v hcc h0 h1 h2 h3 h4 hk ih =>
  intro ht
  obtain ⟨r,rfl⟩:=df h0.1
  have htg:=j7 hw h0.1 h1
  have hdl:=gB htg.1
  simp only [br,V.tots] at ht
  have cx_out:=ih oM
  have hob:=lK hw hk
  unfold iv at hob
  have cx_nmd : a9 Tryz.prog 82 [Pt b 0] G (· = S (V.out (.nd 85 [] d.tag [v]))):=by
   refine jE [(0,_)] Tryz.func82 Tryz.ntmps82 fun B hB=>?_
   repeat' (first | refine jR ?_ | (refine jo ?_;refine jV (ah rfl rfl aS rfl rfl) ?_) | refine ac rfl rfl ?_ | (refine am (an (id:=3) _ (fun _ h=>h) al ?_);refine jT 13 [0,1,2,9,10,11] (aa 19 3591) ?_;(refine jG (aa 19 3599) 3 rfl (ah rfl rfl aS rfl rfl) ?_);(refine jG (aa 19 3615) 4 rfl (aM rfl rfl oM) ?_);(refine jG (aa 19 3647) 5 rfl (ah rfl rfl aS rfl rfl) ?_);(refine jG (aa 19 7743) 12 rfl (ah rfl rfl aS rfl rfl) ?_);(refine jG (aa 19 15935) 13 rfl (aM rfl rfl oM) ?_);(refine jG (aa 19 32319) 14 rfl (ah rfl rfl aS rfl rfl) ?_);refine jA 6 rfl ?_;(refine ae rfl rfl rfl (dn oM) rfl ?_);refine jS (aa 19 32383) ?_;refine jW 4 [7,8] (aa 19 32767) ?_;refine jA 15 rfl ?_;(refine ae rfl rfl rfl cx_out rfl ?_);refine jS (aa 19 65535) ?_;refine jW 0 [16,17,18] (aa 19 524287) ?_;refine jQ ?_))
   all_goals refine jY (vs:=[_]) ?_
   all_goals (rw [aU,V.out];simp [V.outs,cO,aL])
  clear cx_out
  refine jE [(0,_)] Tryz.func49 Tryz.ntmps49 fun B hB=>?_
  repeat' (first | refine jX ?_ | (refine jo ?_;first | refine jV (ah rfl rfl aS rfl rfl) ?_ | refine ae rfl rfl rfl cx_nmd rfl ?_) | refine ac rfl rfl ?_ | refine ad rfl rfl ?_)
  refine jY (vs:=[_]) ?_
  rfl
abbrev aac : TypeId:=56
abbrev tRd : TypeId:=90
def kN (n : Nat) (u : Value) (vs : List co) : Prop:=∀ (G : Gh) (k s : List UInt8),SchR G u vs → aB (ag vs) k = true → s.length ≤ 2000000 →
 bB Tryz.prog 50 [Ag [u],S s,S k,I (n : Nat)] G (eH (ag vs) (rd (ag vs) n k s) k)
theorem zI {n : Nat} {u : Value} {vs : List co} {k s : List UInt8} (hR : kN n u vs) (h : SchR G u vs) (hk : aB (ag vs) k = true) (hs : s.length ≤ 2000000) (hn : n ≤ 1000) :
  bB Tryz.prog 83 [Ag [u],S s,S (91 :: k),I (n + 1 : Nat)] G (eH (ag vs) (fC (rd (ag vs) n k) (91 :: s)) (91 :: k)):=by
 have edn : ((n + 1 : Nat) : Int) - 1 = (n : Nat):=oM
 by_cases h93 : ∃ s2,s = 93 :: s2
 ·obtain ⟨s2,rfl⟩:=h93
  refine jB [(0,_),(1,_),(2,_),(3,_)] Tryz.func83 Tryz.ntmps83 fun B hok hB hW=>?_
  repeat' (first | refine jX ?_ | (refine jo ?_;first | refine jO fun _=>?_ | refine jV (ax rfl rfl) ?_ | refine aN rfl ?_) | refine aH rfl rfl rfl ?_ | refine ac rfl rfl ?_ | (refine am (an (id:=3) _ (fun _ h=>h) al ?_);refine jW 0 [0,1,2,3,4,5] (aa 6 63) ?_;refine jQ ?_))
  rename_i x4 x11
  refine Nx.sealC (b:=x11) fun G2 hG2 hsy=>?_
  refine jZ (vs:=[_,_,_]) rfl ⟨rfl,rfl,rfl,trivial⟩ rfl ⟨hG2,rfl,?_⟩
  rw [bD]
  exact ⟨_,_,_,rfl,fun _=>⟨.nd 91 [] 0 [],x11,rfl,rfl,.lst k x11 [] [] none 0 hsy ⟨rfl,.inl ⟨rfl,rfl⟩⟩ rfl (fun i hi=>absurd hi (by simp))⟩,fun h=>(by cases h)⟩
 have hRl : fC (rd (ag vs) n k) (91 :: s) = (bH (rd (ag vs) n k) 20 s []).map fun x=>(.nd 91 [] 0 x.1,x.2):=by
  unfold fC
  dsimp only
  rw [if_pos (show (91 : UInt8).toNat = 91 from rfl)]
  cases s with
  | nil =>
   have : rd (ag vs) n k [] = none:=by
    cases h : rd (ag vs) n k [] with
    | none=>rfl
    | some x=>have:=iD h;simp at this
   simp [bH,this]
  | cons e r' =>
   dsimp only
   rw [if_neg]
   intro h;exact h93 ⟨r',by rw [show e = 93 from UInt8.toNat_inj.1 h]⟩
 have hs0 : s = [] ∨ s ≠ [] ∧ ¬ ((bt s (Int.toNat 0) : Nat) : Int) = 93:=by
  cases s with
  | nil=>exact .inl rfl
  | cons e r' =>
   refine .inr ⟨by simp,fun h=>h93 ⟨r',?_⟩⟩
   have : bt (e :: r') (Int.toNat 0) = e.toNat:=bh e r'
   rw [show e = 93 from UInt8.toNat_inj.1 (show e.toNat = 93 by omega)]
 have hkl : k.length ≤ 1000:=by
  have:=(db (dv hk)).2
  omega
 have hslen : s = [] ∨ 0 < s.length:=by cases s <;> simp
 rcases hs0 with hs0 | ⟨hs0,hs1⟩
 all_goals
  have hslen2 : s ≠ [] → 0 < s.length:=fun h=>by rcases hslen with h' | h';exact absurd h' h;exact h'
  try have hslen3:=hslen2 hs0
  refine jB [(0,_),(1,_),(2,_),(3,_)] Tryz.func83 Tryz.ntmps83 fun B hok hB hW=>?_
  repeat' (first | refine jM ?_ | (refine jo ?_;first | refine jO fun _=>?_ | refine jV (ax rfl rfl) ?_ | refine aN rfl ?_ | refine aC rfl ?_) | refine aH rfl rfl (ay ‹_›) ?_ | (refine ar rfl rfl ?_ ?_;(focus ((simp [*];done);done))) | (refine ad rfl (by first | rfl | (refine decide_eq_false ?_;(assumption))) ?_))
  rename_i x4 x11
  refine Nx.addNil aac 1 ?_
  refine aV (ι:=List V × List Nat × Option Addr × Nat × List UInt8 × Gh) (fun q=>((q.2.1.length = q.1.length ∧ ∀ i,i < q.1.length → RepR q.2.2.2.2.2 (ag vs) (ab q.1 i) k (ab q.2.1 i)) ∧ Gh.le G q.2.2.2.2.2) ∧ bH (rd (ag vs) n k) 20 s [] = bH (rd (ag vs) n k) (20 - q.1.length) q.2.2.2.2.1 q.1 ∧ q.1.length ≤ 20 ∧ q.2.2.2.2.1.length ≤ s.length) (fun q=>[(1,S q.2.2.2.2.1),(2,S (91 :: k)),(3,I (n + 1 : Nat)),(4,Pt x4 0),(11,Pt x11 0)]) (fun q=>q.2.2.2.2.2) (fun q=>[.acc (.slice q.2.2.1 q.1.length q.2.2.2.1) aac 1 q.1.length (aj dl q.2.1),.blk x11 (.cells (List.toArray [S (91 :: k),S [],aQ,.slice q.2.2.1 q.1.length q.2.2.2.1]) nJ (0,0)),.blk x4 (.cells (List.toArray [u]) tRd (0,0))]) (fun q=>20 - q.1.length) ([],[],none,0,s,G) ?_ tU rfl a8 (fun q Hq=>?_)
  ·exact ⟨⟨⟨rfl,fun i hi=>absurd hi (by simp)⟩,Gh.le.refl _⟩,rfl,Nat.zero_le _,Nat.le_refl _⟩
  obtain ⟨ws,bs,a,cap,t,Gq⟩:=q
  dsimp only at Hq ⊢
  obtain ⟨⟨⟨hbl,hreps⟩,hgq⟩,hit,hwl,htl⟩:=Hq
  by_cases h20 : ws.length < 20
  case neg =>
   have e20 : 20 - ws.length = 0:=oM
   repeat' (first | refine jR ?_ | (refine jo ?_;first | refine aD rfl ?_ | refine jV (af rfl) ?_) | refine ad rfl (aG oM) ?_)
   refine jZ (vs:=[_,_,_]) rfl ⟨rfl,rfl,rfl,trivial⟩ rfl ⟨hgq,rfl,?_⟩
   rw [bD]
   exact ⟨_,_,_,rfl,fun h=>(by cases h),fun _=>by rw [hRl,hit,e20];rfl⟩
  have cx_rd:=hR Gq k t (h.mono hgq) hk oM
  rw [← edn] at cx_rd
  repeat' (first | refine jR ?_ | (refine jo ?_;first | refine aD rfl ?_ | refine jV (af rfl) ?_) | refine ac rfl (ay oM) ?_)
  (refine am (an (id:=5) _ (fun _ h=>h) al ?_);refine jW 9 [1,2,3,4,5] (aa 14 62) ?_;(refine jG (aa 14 63) 0 rfl (bM rfl rfl rfl rfl) ?_);refine jA 6 rfl ?_;(refine aq rfl rfl rfl cx_rd rfl ?_;rintro _ G hle ⟨q1,r1,ok1,rfl,hyes,hno⟩;skip);refine jS (aa 14 127) ?_;refine jT 0 [7,8,9,10,11,12,13] (aa 14 16383) ?_;refine jQ ?_)
  have hgl:=hgq.trans hle
  cases ok1 with
  | false =>
   have hnone : bH (rd (ag vs) n k) (20 - ws.length) t ws = none:=jn (.inl (hno rfl))
   repeat' (first | refine jR ?_ | (refine jo ?_;refine aN rfl ?_) | refine aH rfl rfl rfl ?_ | refine ac rfl rfl ?_)
   refine jZ (vs:=[_,_,_]) rfl ⟨rfl,rfl,rfl,trivial⟩ rfl ⟨hgl,rfl,?_⟩
   rw [bD]
   exact ⟨_,_,_,rfl,fun h=>(by cases h),fun _=>by rw [hRl,hit,hnone];rfl⟩
  | true =>
   obtain ⟨w,wb,rfl,hf,hrep⟩:=hyes rfl
   have hsh:=iD hf
   cases r1 with
   | nil =>
    have hnone : bH (rd (ag vs) n k) (20 - ws.length) t ws = none:=jn (.inr ⟨w,hf⟩)
    repeat' (first | refine jR ?_ | (refine jo ?_;first | refine aN rfl ?_ | refine aC rfl ?_) | refine aH rfl rfl rfl ?_ | refine ar rfl rfl rfl ?_ | refine ac rfl rfl ?_)
    refine jZ (vs:=[_,_,_]) rfl ⟨rfl,rfl,rfl,trivial⟩ rfl ⟨hgl,rfl,?_⟩
    rw [bD]
    exact ⟨_,_,_,rfl,fun h=>(by cases h),fun _=>by rw [hRl,hit,hnone];rfl⟩
   | cons e r2 =>
    have hstep:=jm (vs:=ws) hf (show 0 < 20 - ws.length by omega)
    have he0 : bt (e :: r2) (Int.toNat 0) = e.toNat:=bh e r2
    simp only [List.length_cons] at hsh
    have hel : (e :: r2).length = r2.length + 1:=rfl
    have hrow : aj dl bs ++ [Pt wb 0] = aj dl (bs ++ [wb]):=(bO dl bs wb).symm
    have hwl1 : (ws ++ [w]).length = ws.length + 1:=by simp
    have hbl1 : (bs ++ [wb]).length = (ws ++ [w]).length:=by simp [hbl]
    have hrp : ∀ i,i < (ws ++ [w]).length → RepR G (ag vs) (ab (ws ++ [w]) i) k (ab (bs ++ [wb]) i):=fun i hi=>by
     by_cases h1 : i < ws.length
     ·have e1 : ab (ws ++ [w]) i = ab ws i:=by rw [aA hi,aA h1,List.getElem_append_left h1]
      have e2 : ab (bs ++ [wb]) i = ab bs i:=by rw [aA oM,aA oM,List.getElem_append_left oM]
      rw [e1,e2];exact (hreps i h1).mono hle
     ·have h2 : i = ws.length:=oM
      have e1 : ab (ws ++ [w]) i = w:=by rw [aA hi];simp [h2]
      have e2 : ab (bs ++ [wb]) i = wb:=by rw [aA oM];simp [h2,hbl]
      rw [e1,e2];exact hrep
    by_cases h44 : e.toNat = 44
    ·rw [if_pos h44] at hstep
     have hn93 : ¬ e.toNat = 93:=oM
     repeat' (first | refine jM ?_ | (refine jo ?_;first | refine aC rfl ?_ | refine aD rfl ?_ | refine jF fun _=>?_ | refine bC rfl rfl rfl rfl rfl rfl rfl rfl rfl oM fun _ _=>?_ | refine jD rfl rfl rfl ?_) | (refine ar rfl rfl (by first | rfl | (refine decide_eq_false ?_;(omega))) ?_) | (refine ad rfl (by first | rfl | (refine decide_eq_false ?_;(omega))) ?_))
     rename_i y0 y1 yc
     rw [hrow]
     exact bj (ws ++ [w],bs ++ [wb],some ⟨y1,0,none⟩,yc,r2,G) ⟨⟨⟨hbl1,hrp⟩,hgl⟩,(by dsimp only;rw [hit,hstep,hwl1,Nat.sub_sub]),(by dsimp only;omega),(by dsimp only;omega)⟩ (by dsimp only;omega) tU rfl (by rw [hwl1];repeat (first | exact List.Sublist.refl _ | apply List.Sublist.cons_cons | apply List.Sublist.cons))
    ·rw [if_neg h44] at hstep
     by_cases h93' : e.toNat = 93
     ·rw [if_pos h93'] at hstep
      repeat' (first | refine jM ?_ | (refine jo ?_;first | refine aN rfl ?_ | refine aC rfl ?_ | refine aD rfl ?_ | refine jF fun _=>?_ | refine bC rfl rfl rfl rfl rfl rfl rfl rfl rfl oM fun _ _=>?_ | refine jD rfl rfl rfl ?_) | refine aH rfl rfl (ay oM) ?_ | refine ar rfl rfl rfl ?_ | refine ac rfl (ay oM) ?_ | refine ad rfl (aG oM) ?_)
      rename_i y0 y1 yc
      rw [hrow]
      refine Nx.sealS (v:=.slice (some ⟨y1,0,none⟩) (ws.length + 1) yc) fun G2 hG2 hsl=>?_
      refine Nx.sealC (b:=x11) fun G3 hG3 hsg=>?_
      refine jZ (vs:=[_,_,_]) rfl ⟨rfl,rfl,rfl,trivial⟩ rfl ⟨((hgl.trans hG2).trans hG3),rfl,?_⟩
      rw [bD]
      exact ⟨_,_,_,rfl,fun _=>⟨.nd 91 [] 0 (ws ++ [w]),x11,rfl,by rw [hRl,hit,hstep];rfl,.lst k x11 _ (bs ++ [wb]) (some ⟨y1,0,none⟩) yc (by rw [hwl1];exact hsg) (by rw [hwl1];exact hsl.mono hG3) hbl1 (fun i hi=>(hrp i hi).mono (hG2.trans hG3))⟩,fun h=>(by cases h)⟩
     ·rw [if_neg h93'] at hstep
      repeat' (first | refine jM ?_ | (refine jo ?_;first | refine aN rfl ?_ | refine aC rfl ?_) | refine aH rfl rfl (ay oM) ?_ | refine ar rfl rfl rfl ?_ | refine ac rfl (ay oM) ?_)
      refine jZ (vs:=[_,_,_]) rfl ⟨rfl,rfl,rfl,trivial⟩ rfl ⟨hgl,rfl,?_⟩
      rw [bD]
      exact ⟨_,_,_,rfl,fun h=>(by cases h),fun _=>by rw [hRl,hit,hstep];rfl⟩
section
variable {P : Program} {n : Nat} {D : List Deferred} {E : bN} {M : World → Prop} {d : Option Nat} {ty : TypeId} {pos : String} {aft : Array Edge} {gd : Option (Nat × Bool)}
theorem vZ {T T0 : TypeId} {x : Operand} {desc : TypeDesc} {size bytes b m cap i : Nat} {zero : Value} {G0 : Gh} {L0 : List Own} {cs : List Int} {xs : List Value} {y : Int} [TI P T desc size bytes zero] [Kn M G0 L0] [h : AccB L0 b m cap T0 1 xs] (hx : ev E x = some (Pt b (0 + i * 1))) (ha : dK desc = false) (hxs : xs = aj cB cs) (hi : i < cs.length) (hy : ab cs i = y) :
  Gives P n D E M ⟨d,.load T x,ty,pos,aft,gd⟩ (I y):=gl hx ha (by
 have:=(gr (S:=M) h.mem).go (i * 1 + 0) (I y) (by rw [hxs,fM hi oM,hy];rfl)
 simpa using this)
end
def iQ (fs : List (Fld × V)) : Int:=match fs.getLast? with
 | some p=>p.1.tag
 | none=>0
def ii (fs : List (Fld × V)) : List V:=fs.map fun p=>.nd 61 [] p.1.tag [p.2]
theorem u9 (fs : List (Fld × V)) (p : Fld × V) : iQ (fs ++ [p]) = p.1.tag:=by simp [iQ]
abbrev xS : TypeId:=56
abbrev xV : TypeId:=3
abbrev tFd : TypeId:=137
abbrev z9 : TypeId:=155
theorem wv {n : Nat} {u : Value} {vs : List co} {x : co} {k s : List UInt8} (hR : kN n u vs) (h : SchR G u vs) (hw : SchW (ag vs)) (hx : x ∈ vs) (hrf : aZ (ag vs) k = some x.2) (hso : x.2.sort = 82) (hs : s.length ≤ 2000000) (hn : n ≤ 1000) (hkl : k.length ≤ 1000) :
  bB Tryz.prog 117 [Ag [u],S s,S k,Ag (jI x),I (n + 1 : Nat)] G (eH (ag vs) (bA (ag vs) (rd (ag vs) n) x.2 (123 :: s)) k):=by
 have edn : ((n + 1 : Nat) : Int) - 1 = (n : Nat):=oM
 have hxt : x.2 ∈ ag vs:=List.mem_map_of_mem hx
 have hTW:=hw.ty _ hxt
 have hfl:=hTW.len
 by_cases h125 : ∃ s2,s = 125 :: s2
 ·obtain ⟨s2,rfl⟩:=h125
  have hgood : bA (ag vs) (rd (ag vs) n) x.2 (123 :: 125 :: s2) = some (.nd 82 [] 0 [],s2):=by
   unfold bA
   dsimp only
   rw [if_pos hso,if_pos (show (123 : UInt8).toNat = 123 from rfl),if_pos (show (125 : UInt8).toNat = 125 from rfl)]
  refine jB [(0,_),(1,_),(2,_),(3,_),(4,_)] Tryz.func117 Tryz.ntmps117 fun B hok hB hW=>?_
  repeat' (first | refine jX ?_ | (refine jo ?_;first | refine jO fun _=>?_ | refine jV (ax rfl rfl) ?_ | refine aN rfl ?_) | refine aH rfl rfl rfl ?_ | refine ac rfl rfl ?_ | (refine am (an (id:=3) _ (fun _ h=>h) al ?_);refine jW 0 [0,1,2,3,4,5] (aa 6 63) ?_;refine jQ ?_))
  rename_i x5 x8 x13
  refine Nx.sealC (b:=x13) fun G2 hG2 hsy=>?_
  refine jZ (vs:=[_,_,_]) rfl ⟨rfl,rfl,rfl,trivial⟩ rfl ⟨hG2,rfl,?_⟩
  rw [bD]
  exact ⟨_,_,_,rfl,fun _=>⟨.nd 82 [] 0 [],x13,rfl,hgood,.recd k x13 x.2 [] [] none none 0 0 ⟨hrf,hso⟩ hsy ⟨rfl,.inl ⟨rfl,rfl⟩⟩ ⟨rfl,.inl ⟨rfl,rfl⟩⟩ rfl (fun i hi=>absurd hi (by simp)) (fun i hi=>absurd hi (by simp))⟩,fun h=>(by cases h)⟩
 have hRl : bA (ag vs) (rd (ag vs) n) x.2 (123 :: s) = (b9 (ag vs) (rd (ag vs) n) x.2 (s.length + 1) 0 s []).map fun x=>(.nd 82 [] 0 x.1,x.2):=by
  unfold bA
  dsimp only
  rw [if_pos hso,if_pos (show (123 : UInt8).toNat = 123 from rfl)]
  cases s with
  | nil=>rw [eg kQ];rfl
  | cons e r' =>
   dsimp only
   rw [if_neg]
   intro h;exact h125 ⟨r',by rw [show e = 125 from UInt8.toNat_inj.1 h]⟩
 have hs0 : s = [] ∨ s ≠ [] ∧ ¬ ((bt s (Int.toNat 0) : Nat) : Int) = 125:=by
  cases s with
  | nil=>exact .inl rfl
  | cons e r' =>
   refine .inr ⟨by simp,fun h=>h125 ⟨r',?_⟩⟩
   have : bt (e :: r') (Int.toNat 0) = e.toNat:=bh e r'
   rw [show e = 125 from UInt8.toNat_inj.1 (show e.toNat = 125 by omega)]
 have hslen : s = [] ∨ 0 < s.length:=by cases s <;> simp
 rcases hs0 with hs0 | ⟨hs0,hs1⟩
 ·subst hs0
  have cx_tg:=rx (G:=G) (u:=u) (x:=x) (s:=[]) (by simp) h.sl.one (h.fl x hx) oM
  have e0 : aK (([] : List UInt8).takeWhile bm) 200 = none:=by
   cases h : aK (([] : List UInt8).takeWhile bm) 200 with
   | none=>rfl
   | some m =>
    have:=(dW h).2.1
    have h2:=gp m
    rw [← this] at h2;simp at h2
  rw [e0] at cx_tg
  refine jB [(0,_),(1,_),(2,_),(3,_),(4,_)] Tryz.func117 Tryz.ntmps117 fun B hok hB hW=>?_
  repeat' (first | refine jR ?_ | (refine jo ?_;first | refine jO fun _=>?_ | refine jV (ax rfl rfl) ?_ | refine aC rfl ?_) | refine ar rfl rfl rfl ?_ | refine ad rfl rfl ?_)
  rename_i x5 x8 x13
  refine aV (ι:=Unit) (fun i=>True) (fun i=>[(1,S []),(2,S k),(4,I (n + 1 : Nat)),(5,Pt x5 0),(8,Pt x8 0),(13,Pt x13 0)]) (fun _=>G) (fun i=>[.blk x13 (.cells (List.toArray [S k,S [82],aQ,aQ]) nJ (0,0)),.blk x8 (.cells (List.toArray [U8 x.2.sort,S x.2.name,ge x]) z9 (0,0)),.blk x5 (.cells (List.toArray [u]) tRd (0,0))]) (fun i=>0) () ?_ tU rfl a8 (fun i Hi=>?_)
  ·trivial
  repeat' (first | refine jR ?_ | (refine jo ?_;first | refine bK rfl ?_ | refine jL fun _=>?_ | refine jC rfl rfl rfl ?_ | (refine eh rfl rfl rfl cx_tg rfl ?_;rintro _ ⟨nt,rfl,hnt⟩)) | refine ac rfl rfl ?_ | (refine am (an (id:=5) _ (fun _ h=>h) al ?_);refine jT 33 [0,1,2] (aa 36 7) ?_;(try (refine Nx.re (d:=43) (v':=Bo true) rfl (congrArg Value.bool rfl) ?_));refine jT 31 [3,4] (aa 36 31) ?_;(refine jG (aa 36 63) 5 rfl (bL rfl rfl rfl) ?_);refine jT 29 [6] (aa 36 127) ?_;(try (refine Nx.re (d:=47) (v':=Bo true) rfl (congrArg Value.bool rfl) ?_));refine jT 26 [7,8,9] (aa 36 1023) ?_;(refine jG (aa 36 2047) 10 rfl (bL rfl rfl rfl) ?_);refine jT 24 [11] (aa 36 4095) ?_;(try (refine Nx.re (d:=52) (v':=Bo true) rfl (congrArg Value.bool rfl) ?_));refine jT 21 [12,13,14] (aa 36 32767) ?_;(refine jN (aa 36 65535) 15 rfl ?_);(refine jN (aa 36 131071) 16 rfl ?_);refine jT 17 [17,18] (aa 36 524287) ?_;(try (fail));refine jT 10 [19,20,21,23,24,25,31] (aa 36 2210398207) ?_;(refine jN (aa 36 2214592511) 22 rfl ?_);(refine jN (aa 36 2281701375) 26 rfl ?_);(refine jN (aa 36 2415919103) 27 rfl ?_);refine jT 6 [28] (aa 36 2684354559) ?_;(refine jN (aa 36 3221225471) 29 rfl ?_);(refine jN (aa 36 4294967295) 30 rfl ?_);(refine jN (aa 36 8589934591) 32 rfl ?_);refine jT 2 [33] (aa 36 17179869183) ?_;(refine jN (aa 36 34359738367) 34 rfl ?_);(refine jG (aa 36 68719476735) 35 rfl (bL rfl rfl rfl) ?_);refine jQ ?_))
  all_goals refine jZ (vs:=[_,_,_]) rfl ⟨rfl,rfl,rfl,trivial⟩ rfl ⟨Gh.le.refl _,rfl,?_⟩
  all_goals (rw [bD];exact ⟨_,_,_,rfl,fun h=>(by cases h),fun _=>by rw [hRl,eg kQ];rfl⟩)
 ·have hslen3 : 0 < s.length:=List.length_pos_iff.2 hs0
  refine jB [(0,_),(1,_),(2,_),(3,_),(4,_)] Tryz.func117 Tryz.ntmps117 fun B hok hB hW=>?_
  repeat' (first | refine jM ?_ | (refine jo ?_;first | refine jO fun _=>?_ | refine jV (ax rfl rfl) ?_ | refine aN rfl ?_) | refine aH rfl rfl (ay ‹_›) ?_ | refine ad rfl (aG ‹_›) ?_)
  rename_i x5 x8 x13
  refine Nx.addNil xV 1 (Nx.addNil xS 1 ?_)
  refine aV (ι:=List (Fld × V) × List Nat × Option Addr × Nat × Option Addr × Nat × List UInt8 × Nat × Gh) (fun q=>((q.2.1.length = q.1.length ∧ (∀ i,i < q.1.length → (ab q.1 i).1 ∈ x.2.fields) ∧ ∀ i,i < q.1.length → RepR q.2.2.2.2.2.2.2.2 (ag vs) (ab q.1 i).2 (ab q.1 i).1.kind (ab q.2.1 i)) ∧ Gh.le G q.2.2.2.2.2.2.2.2) ∧ (b9 (ag vs) (rd (ag vs) n) x.2 (s.length + 1) 0 s [] = b9 (ag vs) (rd (ag vs) n) x.2 q.2.2.2.2.2.2.2.1 (iQ q.1) q.2.2.2.2.2.2.1 (ii q.1) ∧ q.2.2.2.2.2.2.1.length < q.2.2.2.2.2.2.2.1) ∧ q.2.2.2.2.2.2.1.length ≤ s.length ∧ q.1.length + q.2.2.2.2.2.2.1.length ≤ s.length) (fun q=>[(1,S q.2.2.2.2.2.2.1),(2,S k),(4,I (n + 1 : Nat)),(5,Pt x5 0),(8,Pt x8 0),(13,Pt x13 0)]) (fun q=>q.2.2.2.2.2.2.2.2) (fun q=>[.acc (.slice q.2.2.2.2.1 q.1.length q.2.2.2.2.2.1) xS 1 q.1.length (aj dl q.2.1),.acc (.slice q.2.2.1 q.1.length q.2.2.2.1) xV 1 q.1.length (aj cB (q.1.map fun p=>p.1.tag)),.blk x13 (.cells (List.toArray [S k,S [82],.slice q.2.2.1 q.1.length q.2.2.2.1,.slice q.2.2.2.2.1 q.1.length q.2.2.2.2.2.1]) nJ (0,0)),.blk x8 (.cells (List.toArray [U8 x.2.sort,S x.2.name,ge x]) z9 (0,0)),.blk x5 (.cells (List.toArray [u]) tRd (0,0))]) (fun q=>q.2.2.2.2.2.2.1.length) ([],[],none,0,none,0,s,s.length + 1,G) ?_ tU rfl a8 (fun q Hq=>?_)
  ·exact ⟨⟨⟨rfl,fun i hi=>absurd hi (by simp),fun i hi=>absurd hi (by simp)⟩,Gh.le.refl _⟩,⟨rfl,Nat.lt_succ_self _⟩,Nat.le_refl _,by simp⟩
  obtain ⟨fs,bs,a1,c1,a2,c2,t,m,Gq⟩:=q
  dsimp only at Hq ⊢
  obtain ⟨⟨⟨hbl,hfm,hreps⟩,hgq⟩,⟨hit,htm⟩,htl,hft⟩:=Hq
  have cx_tg:=rx (G:=Gq) (u:=u) (x:=x) (s:=t) oM h.sl.one ((h.mono hgq).fl x hx) oM
  repeat' (first | refine jR ?_ | (refine jo ?_;first | refine bK rfl ?_ | refine jL fun _=>?_ | refine jC rfl rfl rfl ?_ | (refine eh rfl rfl rfl cx_tg rfl ?_;rintro _ ⟨nt,rfl,hnt⟩)))
  have hnone : ∀ {v : Value} {G' : Gh} {r : List UInt8},b9 (ag vs) (rd (ag vs) n) x.2 m (iQ fs) t (ii fs) = none → v = Tu [.pointer none,S r,Bo false] → eH (ag vs) (bA (ag vs) (rd (ag vs) n) x.2 (123 :: s)) k v G':=fun h1 h2=>⟨_,_,_,h2,fun h=>(by cases h),fun _=>by rw [hRl,hit,h1];rfl⟩
  cases hb16 : (aK (t.takeWhile bm) 200).isSome && (ci x.2.fields nt).isSome with
  | false =>
   have hno : aX (rd (ag vs) n) x.2 t = none:=by
    cases hm : aK (t.takeWhile bm) 200 with
    | none=>exact fO (.inl hm)
    | some m0 =>
     refine fO (.inr ⟨m0,hm,?_⟩)
     rw [hm] at hb16
     rw [← hnt m0 hm]
     cases hf : ci x.2.fields nt with
     | none=>rfl
     | some d=>rw [hf] at hb16;cases hb16
   (refine am (an (id:=5) _ (fun _ h=>h) al ?_);refine jT 33 [0,1,2] (aa 36 7) ?_;(try (refine Nx.re (d:=43) (v':=Bo true) rfl (congrArg Value.bool rfl) ?_));refine jT 31 [3,4] (aa 36 31) ?_;(refine jG (aa 36 63) 5 rfl (bL rfl rfl rfl) ?_);refine jT 29 [6] (aa 36 127) ?_;(try (refine Nx.re (d:=47) (v':=Bo true) rfl (congrArg Value.bool rfl) ?_));refine jT 26 [7,8,9] (aa 36 1023) ?_;(refine jG (aa 36 2047) 10 rfl (bL rfl rfl rfl) ?_);refine jT 24 [11] (aa 36 4095) ?_;(try (refine Nx.re (d:=52) (v':=Bo true) rfl (congrArg Value.bool rfl) ?_));refine jT 21 [12,13,14] (aa 36 32767) ?_;(refine jN (aa 36 65535) 15 rfl ?_);(refine jN (aa 36 131071) 16 rfl ?_);refine jT 17 [17,18] (aa 36 524287) ?_;(try (fail));refine jT 10 [19,20,21,23,24,25,31] (aa 36 2210398207) ?_;(refine jN (aa 36 2214592511) 22 rfl ?_);(refine jN (aa 36 2281701375) 26 rfl ?_);(refine jN (aa 36 2415919103) 27 rfl ?_);refine jT 6 [28] (aa 36 2684354559) ?_;(refine jN (aa 36 3221225471) 29 rfl ?_);(refine jN (aa 36 4294967295) 30 rfl ?_);(refine jN (aa 36 8589934591) 32 rfl ?_);refine jT 2 [33] (aa 36 17179869183) ?_;(refine jN (aa 36 34359738367) 34 rfl ?_);(refine jG (aa 36 68719476735) 35 rfl (bL rfl rfl rfl) ?_);refine jQ ?_)
   repeat' (first | refine jR ?_ | refine ac rfl rfl ?_)
   all_goals refine jZ (vs:=[_,_,_]) rfl ⟨rfl,rfl,rfl,trivial⟩ rfl ⟨hgq,rfl,?_⟩
   all_goals exact hnone (eg hno) rfl
  | true =>
   simp only [Bool.and_eq_true] at hb16
   obtain ⟨hb1,hb2⟩:=hb16
   obtain ⟨m0,hm⟩:=Option.isSome_iff_exists.1 hb1
   obtain ⟨d,hd⟩:=Option.isSome_iff_exists.1 hb2
   have hnm:=hnt m0 hm
   subst hnm
   rw [hd]
   simp only [Option.getD_some]
   have hdm : d ∈ x.2.fields:=List.mem_of_find?_eq_some hd
   have hdt : d.tag = nt:=by have:=List.find?_some hd;simpa using this
   have hwl:=ec bm t
   cases hdw : t.dropWhile bm with
   | nil =>
    have hno : aX (rd (ag vs) n) x.2 t = none:=ip hm (fun s2 h=>by rw [hdw] at h;cases h)
    (refine am (an (id:=5) _ (fun _ h=>h) al ?_);refine jT 33 [0,1,2] (aa 36 7) ?_;(try (refine Nx.re (d:=43) (v':=Bo false) rfl (congrArg Value.bool rfl) ?_));refine jT 31 [3,4] (aa 36 31) ?_;(refine jG (aa 36 63) 5 rfl (bi rfl rfl rfl) ?_);refine jT 29 [6] (aa 36 127) ?_;(try (refine Nx.re (d:=47) (v':=Bo true) rfl (congrArg Value.bool rfl) ?_));refine jT 26 [7,8,9] (aa 36 1023) ?_;(refine jG (aa 36 2047) 10 rfl (bL rfl rfl rfl) ?_);refine jT 24 [11] (aa 36 4095) ?_;(try (refine Nx.re (d:=52) (v':=Bo true) rfl (congrArg Value.bool rfl) ?_));refine jT 21 [12,13,14] (aa 36 32767) ?_;(refine jN (aa 36 65535) 15 rfl ?_);(refine jN (aa 36 131071) 16 rfl ?_);refine jT 17 [17,18] (aa 36 524287) ?_;(try (fail));refine jT 10 [19,20,21,23,24,25,31] (aa 36 2210398207) ?_;(refine jN (aa 36 2214592511) 22 rfl ?_);(refine jN (aa 36 2281701375) 26 rfl ?_);(refine jN (aa 36 2415919103) 27 rfl ?_);refine jT 6 [28] (aa 36 2684354559) ?_;(refine jN (aa 36 3221225471) 29 rfl ?_);(refine jN (aa 36 4294967295) 30 rfl ?_);(refine jN (aa 36 8589934591) 32 rfl ?_);refine jT 2 [33] (aa 36 17179869183) ?_;(refine jN (aa 36 34359738367) 34 rfl ?_);(refine jG (aa 36 68719476735) 35 rfl (bL rfl rfl rfl) ?_);refine jQ ?_)
    repeat' (first | refine jR ?_ | refine ac rfl rfl ?_)
    all_goals refine jZ (vs:=[_,_,_]) rfl ⟨rfl,rfl,rfl,trivial⟩ rfl ⟨hgq,rfl,?_⟩
    all_goals exact hnone (eg hno) rfl
   | cons e r2 =>
    have he0 : bt (e :: r2) (Int.toNat 0) = e.toNat:=bh e r2
    have hel : (e :: r2).length = r2.length + 1:=rfl
    by_cases h61 : e.toNat = 61
    case neg =>
     have hno : aX (rd (ag vs) n) x.2 t = none:=ip hm (fun s2 h=>by rw [hdw] at h;simp only [List.cons.injEq] at h;exact h61 (by rw [h.1];rfl))
     (refine am (an (id:=5) _ (fun _ h=>h) al ?_);refine jT 33 [0,1,2] (aa 36 7) ?_;(try (refine Nx.re (d:=43) (v':=Bo false) rfl (congrArg Value.bool rfl) ?_));refine jT 31 [3,4] (aa 36 31) ?_;(refine jG (aa 36 63) 5 rfl (bi rfl rfl rfl) ?_);refine jT 29 [6] (aa 36 127) ?_;(try (refine Nx.re (d:=47) (v':=Bo false) rfl (congrArg Value.bool rfl) ?_));refine jW 26 [7,8,9] (aa 36 1023) ?_;(refine jG (aa 36 2047) 10 rfl (bi rfl rfl rfl) ?_);refine jT 24 [11] (aa 36 4095) ?_;(try ((refine Nx.re (d:=52) (v':=Bo true) rfl (congrArg Value.bool (ay oM)) ?_)));refine jT 21 [12,13,14] (aa 36 32767) ?_;(refine jN (aa 36 65535) 15 rfl ?_);(refine jN (aa 36 131071) 16 rfl ?_);refine jT 17 [17,18] (aa 36 524287) ?_;(try (fail));refine jT 10 [19,20,21,23,24,25,31] (aa 36 2210398207) ?_;(refine jN (aa 36 2214592511) 22 rfl ?_);(refine jN (aa 36 2281701375) 26 rfl ?_);(refine jN (aa 36 2415919103) 27 rfl ?_);refine jT 6 [28] (aa 36 2684354559) ?_;(refine jN (aa 36 3221225471) 29 rfl ?_);(refine jN (aa 36 4294967295) 30 rfl ?_);(refine jN (aa 36 8589934591) 32 rfl ?_);refine jT 2 [33] (aa 36 17179869183) ?_;(refine jN (aa 36 34359738367) 34 rfl ?_);(refine jG (aa 36 68719476735) 35 rfl (bL rfl rfl rfl) ?_);refine jQ ?_)
     repeat' (first | refine jR ?_ | refine ac rfl rfl ?_)
     all_goals refine jZ (vs:=[_,_,_]) rfl ⟨rfl,rfl,rfl,trivial⟩ rfl ⟨hgq,rfl,?_⟩
     all_goals exact hnone (eg hno) rfl
    have he61 : e = 61:=UInt8.toNat_inj.1 h61
    have hfs:=lV (f:=rd (ag vs) n) (t:=x.2) (s:=t) hm hd (by rw [hdw,he61])
    have hm0 : 0 < m:=oM
    have hflt : (fs.map fun p : Fld × V=>p.1.tag).length = fs.length:=by simp
    have hdt1:=((hTW.fld d hdm).tag).1
    have hlast0 : fs.length = 0 → iQ fs = 0:=fun h0=>by rw [List.length_eq_zero_iff.1 h0];rfl
    have hlast1 : 0 < fs.length → ab (fs.map fun p : Fld × V=>p.1.tag) (((fs.length : Nat) : Int) - 1).toNat = iQ fs:=fun h0=>by
     have e1 : (((fs.length : Nat) : Int) - 1).toNat = fs.length - 1:=oM
     rw [e1,aA (by rw [hflt];omega)]
     unfold iQ
     rw [List.getLast?_eq_getElem?,List.getElem?_eq_getElem oM]
     simp
    rename_i x14
    have hf0 : fs.length = 0 ∨ 0 < fs.length:=oM
    by_cases hlt : d.tag ≤ iQ fs
    ·have hpos : 0 < fs.length:=by
      rcases hf0 with h0 | h0
      ·have:=hlast0 h0;omega
      ·exact h0
     have hyl:=hlast1 hpos
     have hno : b9 (ag vs) (rd (ag vs) n) x.2 m (iQ fs) t (ii fs) = none:=by
      cases hy : rd (ag vs) n d.kind r2 with
      | none=>exact eg (by rw [hfs,hy];rfl)
      | some y =>
       obtain ⟨w,r3⟩:=y
       rw [kI (d:=d) (v:=w) (r:=r3) (by rw [hfs,hy];rfl) hm0,if_pos (.inl hlt)]
     refine Nx.shp (v:=.slice a1 fs.length c1) (.tail _ (.tail _ (.head _))) fun hsh=>?_
     obtain ⟨tb1,tc1,e1⟩:=hsh.pos oM
     simp only [Value.slice.injEq] at e1
     obtain ⟨rfl,-,rfl⟩:=e1
     (refine am (an (id:=5) _ (fun _ h=>h) al ?_);refine jT 33 [0,1,2] (aa 36 7) ?_;(try (refine Nx.re (d:=43) (v':=Bo false) rfl (congrArg Value.bool rfl) ?_));refine jT 31 [3,4] (aa 36 31) ?_;(refine jG (aa 36 63) 5 rfl (bi rfl rfl rfl) ?_);refine jT 29 [6] (aa 36 127) ?_;(try (refine Nx.re (d:=47) (v':=Bo false) rfl (congrArg Value.bool rfl) ?_));refine jW 26 [7,8,9] (aa 36 1023) ?_;(refine jG (aa 36 2047) 10 rfl (bi rfl rfl rfl) ?_);refine jT 24 [11] (aa 36 4095) ?_;(try ((refine Nx.re (d:=52) (v':=Bo false) rfl (congrArg Value.bool (aG oM)) ?_)));refine jT 21 [12,13,14] (aa 36 32767) ?_;(refine jG (aa 36 65535) 15 rfl (aT rfl rfl rfl) ?_);(refine jG (aa 36 131071) 16 rfl (af rfl) ?_);refine jT 17 [17,18] (aa 36 524287) ?_;(try ((refine Nx.re (d:=59) (v':=Bo true) rfl (congrArg Value.bool (ay oM)) ?_)));refine jT 10 [19,20,21,23,24,25,31] (aa 36 2210398207) ?_;(refine jG (aa 36 2214592511) 22 rfl (aT rfl rfl rfl) ?_);(refine jG (aa 36 2281701375) 26 rfl (aT rfl rfl rfl) ?_);(refine jG (aa 36 2415919103) 27 rfl (af rfl) ?_);refine jW 6 [28] (aa 36 2684354559) ?_;(refine jG (aa 36 3221225471) 29 rfl (aM rfl rfl oM) ?_);((refine jG (aa 36 4294967295) 30 rfl (vZ rfl rfl rfl ?_ aS) ?_;focus omega));(refine jG (aa 36 8589934591) 32 rfl (aT rfl rfl rfl) ?_);refine jT 2 [33] (aa 36 17179869183) ?_;(refine jG (aa 36 34359738367) 34 rfl (bL rfl rfl rfl) ?_);(refine jG (aa 36 68719476735) 35 rfl (bi rfl rfl rfl) ?_);refine jQ ?_)
     repeat' (first | refine jR ?_ | refine ac rfl (ay ‹_›) ?_)
     all_goals refine jZ (vs:=[_,_,_]) rfl ⟨rfl,rfl,rfl,trivial⟩ rfl ⟨hgq,rfl,?_⟩
     all_goals exact hnone hno rfl
    have hSq:=h.mono hgq
    have hdk : aB (ag vs) d.kind = true:=dN hw hxt oM hdm
    rw [hdw,List.length_cons] at hwl
    have cx_rd:=hR Gq d.kind r2 hSq hdk oM
    rw [← edn] at cx_rd
    rcases hf0 with hf0 | hf0
    rotate_left
    have hyl:=hlast1 hf0
    refine Nx.shp (v:=.slice a1 fs.length c1) (.tail _ (.tail _ (.head _))) fun hsh=>?_
    obtain ⟨tb1,tc1,e1⟩:=hsh.pos oM
    simp only [Value.slice.injEq] at e1
    obtain ⟨rfl,-,rfl⟩:=e1
    all_goals
     (refine am (an (id:=5) _ (fun _ h=>h) al ?_);refine jT 33 [0,1,2] (aa 36 7) ?_;(try (refine Nx.re (d:=43) (v':=Bo false) rfl (congrArg Value.bool rfl) ?_));refine jT 31 [3,4] (aa 36 31) ?_;(refine jG (aa 36 63) 5 rfl (bi rfl rfl rfl) ?_);refine jT 29 [6] (aa 36 127) ?_;(try (refine Nx.re (d:=47) (v':=Bo false) rfl (congrArg Value.bool rfl) ?_));refine jW 26 [7,8,9] (aa 36 1023) ?_;(refine jG (aa 36 2047) 10 rfl (bi rfl rfl rfl) ?_);refine jT 24 [11] (aa 36 4095) ?_;(try ((refine Nx.re (d:=52) (v':=Bo false) rfl (congrArg Value.bool (aG oM)) ?_)));refine jT 21 [12,13,14] (aa 36 32767) ?_;(refine jG (aa 36 65535) 15 rfl (aT rfl rfl rfl) ?_);(refine jG (aa 36 131071) 16 rfl (af rfl) ?_);refine jT 17 [17,18] (aa 36 524287) ?_;(try (first | (refine Nx.re (d:=59) (v':=Bo true) rfl (congrArg Value.bool (ay oM)) ?_) | (refine Nx.re (d:=59) (v':=Bo false) rfl (congrArg Value.bool (aG oM)) ?_)));refine jT 10 [19,20,21,23,24,25,31] (aa 36 2210398207) ?_;(first | refine jG (aa 36 2214592511) 22 rfl (aT rfl rfl rfl) ?_ | refine jN (aa 36 2214592511) 22 rfl ?_);(first | refine jG (aa 36 2281701375) 26 rfl (aT rfl rfl rfl) ?_ | refine jN (aa 36 2281701375) 26 rfl ?_);(first | refine jG (aa 36 2415919103) 27 rfl (af rfl) ?_ | refine jN (aa 36 2415919103) 27 rfl ?_);refine jW 6 [28] (aa 36 2684354559) ?_;(first | refine jG (aa 36 3221225471) 29 rfl (aM rfl rfl oM) ?_ | refine jN (aa 36 3221225471) 29 rfl ?_);(first | (refine jG (aa 36 4294967295) 30 rfl (vZ rfl rfl rfl ?_ aS) ?_;focus omega) | refine jN (aa 36 4294967295) 30 rfl ?_);(first | refine jG (aa 36 8589934591) 32 rfl (aT rfl rfl rfl) ?_ | refine jN (aa 36 8589934591) 32 rfl ?_);refine jT 2 [33] (aa 36 17179869183) ?_;(first | refine jG (aa 36 34359738367) 34 rfl (bL rfl rfl rfl) ?_ | refine jG (aa 36 34359738367) 34 rfl (bi rfl rfl rfl) ?_);(refine jG (aa 36 68719476735) 35 rfl (bi rfl rfl rfl) ?_);refine jQ ?_)
     repeat' (first | refine jR ?_ | (refine ad rfl (by first | rfl | (refine decide_eq_false ?_;(assumption))) ?_))
     (refine am (an (id:=7) _ (fun _ h=>h) al ?_);refine jW 10 [1,2,3,5,6] (aa 15 110) ?_;(refine jG (aa 15 111) 0 rfl (bM rfl rfl rfl rfl) ?_);(refine jG (aa 15 127) 4 rfl (aT rfl rfl rfl) ?_);refine jA 7 rfl ?_;(refine aq rfl rfl rfl cx_rd rfl ?_;rintro _ G hle ⟨q1,r1,ok1,rfl,hyes,hno⟩;skip);refine jS (aa 15 255) ?_;refine jT 0 [8,9,10,11,12,13,14] (aa 15 32767) ?_;refine jQ ?_)
     repeat' (refine jR ?_)
     have hgl:=hgq.trans hle
     cases ok1 with
     | false =>
      have hno2 : aX (rd (ag vs) n) x.2 t = none:=by rw [hfs,hno rfl];rfl
      (refine am (an (id:=8) _ (fun _ h=>h) al ?_);refine jT 22 [0,1,2] (aa 25 7) ?_;(try (refine Nx.re (d:=92) (v':=Bo true) rfl (congrArg Value.bool rfl) ?_));refine jT 20 [3,5] (aa 25 47) ?_;(refine jN (aa 25 111) 6 rfl ?_);(refine jN (aa 25 239) 7 rfl ?_);(refine jN (aa 25 255) 4 rfl ?_);(refine jN (aa 25 511) 8 rfl ?_);refine jT 15 [9] (aa 25 1023) ?_;(refine jG (aa 25 2047) 10 rfl (bL rfl rfl rfl) ?_);refine jT 13 [11] (aa 25 4095) ?_;(try (refine Nx.re (d:=101) (v':=Bo true) rfl (congrArg Value.bool rfl) ?_));refine jT 11 [12,13] (aa 25 16383) ?_;(refine jG (aa 25 32767) 14 rfl (bL rfl rfl rfl) ?_);refine jT 9 [15] (aa 25 65535) ?_;(try (refine Nx.re (d:=105) (v':=Bo true) rfl (congrArg Value.bool rfl) ?_));refine jT 5 [16,17,18,19] (aa 25 1048575) ?_;(try (fail));refine jT 2 [20,21,22] (aa 25 8388607) ?_;(refine jN (aa 25 16777215) 23 rfl ?_);(refine jG (aa 25 33554431) 24 rfl (bL rfl rfl rfl) ?_);refine jQ ?_)
      repeat' (first | refine jR ?_ | refine ac rfl rfl ?_)
      all_goals refine jZ (vs:=[_,_,_]) rfl ⟨rfl,rfl,rfl,trivial⟩ rfl ⟨hgl,rfl,?_⟩
      all_goals exact hnone (eg hno2) rfl
     | true =>
      obtain ⟨w,wb,rfl,hf,hrep⟩:=hyes rfl
      have hsh:=iD hf
      have htt:=gi _ _ _ _ hf
      dsimp only at htt hsh
      have hob:=lK hw hrep
      unfold iv at hob
      have cx_out:=fR hw hrep oM
      have cx_sta:=l6 (f:=d) (h.mono hgl) hw hdk
      have hfd : aX (rd (ag vs) n) x.2 t = some ((d,w),r1):=by rw [hfs,hf];rfl
      have hst:=kI (ts:=ag vs) (vs:=ii fs) (last:=iQ fs) hfd hm0
      by_cases heq : w.out = bQ (ag vs) d
      ·rw [if_pos (.inr heq)] at hst
       (refine am (an (id:=8) _ (fun _ h=>h) al ?_);refine jT 22 [0,1,2] (aa 25 7) ?_;(try (refine Nx.re (d:=92) (v':=Bo false) rfl (congrArg Value.bool rfl) ?_));refine jT 20 [3,5] (aa 25 47) ?_;(refine jG (aa 25 111) 6 rfl (aT rfl rfl rfl) ?_);(refine jG (aa 25 239) 7 rfl (bM rfl rfl rfl rfl) ?_);(refine jA 4 rfl ?_;(refine ae rfl rfl rfl cx_out rfl ?_);refine jS (aa 25 255) ?_);(refine jA 8 rfl ?_;(refine ae rfl rfl rfl cx_sta rfl ?_);refine jS (aa 25 511) ?_);refine jT 15 [9] (aa 25 1023) ?_;(refine jG (aa 25 2047) 10 rfl (bi rfl rfl rfl) ?_);refine jT 13 [11] (aa 25 4095) ?_;(try (refine Nx.re (d:=101) (v':=Bo true) rfl (congrArg Value.bool (ay ‹_›)) ?_));refine jT 11 [12,13] (aa 25 16383) ?_;(refine jG (aa 25 32767) 14 rfl (bL rfl rfl rfl) ?_);refine jT 9 [15] (aa 25 65535) ?_;(try (refine Nx.re (d:=105) (v':=Bo true) rfl (congrArg Value.bool rfl) ?_));refine jT 5 [16,17,18,19] (aa 25 1048575) ?_;(try (fail));refine jT 2 [20,21,22] (aa 25 8388607) ?_;(refine jN (aa 25 16777215) 23 rfl ?_);(refine jG (aa 25 33554431) 24 rfl (bL rfl rfl rfl) ?_);refine jQ ?_)
       repeat' (first | refine jR ?_ | refine ac rfl rfl ?_)
       all_goals refine jZ (vs:=[_,_,_]) rfl ⟨rfl,rfl,rfl,trivial⟩ rfl ⟨hgl,rfl,?_⟩
       all_goals exact hnone hst rfl
      rw [if_neg (fun h=>by rcases h with h | h;exact hlt h;exact heq h)] at hst
      cases r1 with
      | nil =>
       (refine am (an (id:=8) _ (fun _ h=>h) al ?_);refine jT 22 [0,1,2] (aa 25 7) ?_;(try (refine Nx.re (d:=92) (v':=Bo false) rfl (congrArg Value.bool rfl) ?_));refine jT 20 [3,5] (aa 25 47) ?_;(refine jG (aa 25 111) 6 rfl (aT rfl rfl rfl) ?_);(refine jG (aa 25 239) 7 rfl (bM rfl rfl rfl rfl) ?_);(refine jA 4 rfl ?_;(refine ae rfl rfl rfl cx_out rfl ?_);refine jS (aa 25 255) ?_);(refine jA 8 rfl ?_;(refine ae rfl rfl rfl cx_sta rfl ?_);refine jS (aa 25 511) ?_);refine jT 15 [9] (aa 25 1023) ?_;(refine jG (aa 25 2047) 10 rfl (bi rfl rfl rfl) ?_);refine jT 13 [11] (aa 25 4095) ?_;(try (refine Nx.re (d:=101) (v':=Bo false) rfl (congrArg Value.bool (aG ‹_›)) ?_));refine jT 11 [12,13] (aa 25 16383) ?_;(refine jG (aa 25 32767) 14 rfl (bi rfl rfl rfl) ?_);refine jT 9 [15] (aa 25 65535) ?_;(try (refine Nx.re (d:=105) (v':=Bo true) rfl (congrArg Value.bool rfl) ?_));refine jT 5 [16,17,18,19] (aa 25 1048575) ?_;(try (fail));refine jT 2 [20,21,22] (aa 25 8388607) ?_;(refine jN (aa 25 16777215) 23 rfl ?_);(refine jG (aa 25 33554431) 24 rfl (bL rfl rfl rfl) ?_);refine jQ ?_)
       repeat' (first | refine jR ?_ | refine ac rfl rfl ?_)
       all_goals refine jZ (vs:=[_,_,_]) rfl ⟨rfl,rfl,rfl,trivial⟩ rfl ⟨hgl,rfl,?_⟩
       all_goals exact hnone hst rfl
      | cons e2 r3 =>
       have he20 : bt (e2 :: r3) (Int.toNat 0) = e2.toNat:=bh e2 r3
       have hel2 : (e2 :: r3).length = r3.length + 1:=rfl
       have hl' : (fs ++ [(d,w)]).length = fs.length + 1:=by simp
       have hbl' : (bs ++ [wb]).length = (fs ++ [(d,w)]).length:=by simp [hbl]
       have hnth : ∀ i,i < (fs ++ [(d,w)]).length → (i < fs.length ∧ ab (fs ++ [(d,w)]) i = ab fs i ∧ ab (bs ++ [wb]) i = ab bs i) ∨ (ab (fs ++ [(d,w)]) i = (d,w) ∧ ab (bs ++ [wb]) i = wb):=fun i hi=>by
        by_cases h1 : i < fs.length
        ·exact .inl ⟨h1,by rw [aA hi,aA h1,List.getElem_append_left h1],by rw [aA oM,aA oM,List.getElem_append_left oM]⟩
        ·have h2 : i = fs.length:=oM
         exact .inr ⟨by rw [aA hi];simp [h2],by rw [aA oM];simp [h2,hbl]⟩
       have hfm' : ∀ i,i < (fs ++ [(d,w)]).length → (ab (fs ++ [(d,w)]) i).1 ∈ x.2.fields:=fun i hi=>by
        rcases hnth i hi with ⟨h1,h2,_⟩ | ⟨h2,_⟩
        ·rw [h2];exact hfm i h1
        ·rw [h2];exact hdm
       have hreps' : ∀ i,i < (fs ++ [(d,w)]).length → RepR G (ag vs) (ab (fs ++ [(d,w)]) i).2 (ab (fs ++ [(d,w)]) i).1.kind (ab (bs ++ [wb]) i):=fun i hi=>by
        rcases hnth i hi with ⟨h1,h2,h3⟩ | ⟨h2,h3⟩
        ·rw [h2,h3];exact (hreps i h1).mono hle
        ·rw [h2,h3];exact hrep
       have hrow1 : aj cB (fs.map fun p=>p.1.tag) ++ [I d.tag] = aj cB ((fs ++ [(d,w)]).map fun p=>p.1.tag):=by rw [List.map_append];exact (bO cB _ d.tag).symm
       have hrow2 : aj dl bs ++ [Pt wb 0] = aj dl (bs ++ [wb]):=(bO dl bs wb).symm
       have hnd : ii (fs ++ [(d,w)]) = ii fs ++ [.nd 61 [] d.tag [w]]:=by simp [ii]
       dsimp only at hst
       by_cases h44 : e2.toNat = 44
       ·rw [if_pos h44] at hst
        have hn93 : ¬ e2.toNat = 125:=oM
        (refine am (an (id:=8) _ (fun _ h=>h) al ?_);refine jT 22 [0,1,2] (aa 25 7) ?_;(try (refine Nx.re (d:=92) (v':=Bo false) rfl (congrArg Value.bool rfl) ?_));refine jT 20 [3,5] (aa 25 47) ?_;(refine jG (aa 25 111) 6 rfl (aT rfl rfl rfl) ?_);(refine jG (aa 25 239) 7 rfl (bM rfl rfl rfl rfl) ?_);(refine jA 4 rfl ?_;(refine ae rfl rfl rfl cx_out rfl ?_);refine jS (aa 25 255) ?_);(refine jA 8 rfl ?_;(refine ae rfl rfl rfl cx_sta rfl ?_);refine jS (aa 25 511) ?_);refine jT 15 [9] (aa 25 1023) ?_;(refine jG (aa 25 2047) 10 rfl (bi rfl rfl rfl) ?_);refine jT 13 [11] (aa 25 4095) ?_;(try (refine Nx.re (d:=101) (v':=Bo false) rfl (congrArg Value.bool (aG ‹_›)) ?_));refine jT 11 [12,13] (aa 25 16383) ?_;(refine jG (aa 25 32767) 14 rfl (bi rfl rfl rfl) ?_);refine jT 9 [15] (aa 25 65535) ?_;(try (refine Nx.re (d:=105) (v':=Bo false) rfl (congrArg Value.bool rfl) ?_));refine jW 5 [16,17,18,19] (aa 25 1048575) ?_;(try ((refine Nx.re (d:=109) (v':=Bo false) rfl (congrArg Value.bool (aG oM)) ?_)));refine jT 2 [20,21,22] (aa 25 8388607) ?_;(refine jG (aa 25 16777215) 23 rfl (bi rfl rfl rfl) ?_);(refine jG (aa 25 33554431) 24 rfl (bi rfl rfl rfl) ?_);refine jQ ?_)
        repeat' (first | refine jR ?_ | refine ad rfl rfl ?_)
        (refine am (an (id:=10) [.blk x14 (.cells (List.toArray [I d.tag,S d.name,S d.kind,S d.stand]) tFd (0,0))] (by intro y hy;simp only [List.mem_cons,List.not_mem_nil,or_false] at hy ⊢;simp [hy]) al ?_);refine jW 7 [0,1,2,3,5] (aa 12 47) ?_;(refine jG (aa 12 111) 6 rfl (aT rfl rfl rfl) ?_);refine b8 [4,7] kR dC ⟨?_,?_,trivial⟩;(focus (refine aO rfl rfl ?_;(refine aD rfl ?_);refine jK (aa 12 127) ?_;refine jA 7 rfl ?_;(refine jF fun _=>?_);refine jK (aa 12 255) ?_;refine jA 8 rfl ?_;((refine bC rfl rfl rfl rfl rfl rfl rfl rfl rfl ?_ fun _ _=>?_;focus omega));refine jK (aa 12 511) ?_;refine jW 1 [9,10] (aa 12 2047) ?_;refine jA 11 rfl ?_;(refine jD rfl rfl rfl ?_);refine jK (aa 12 4095) ?_;refine jQ ?_));rotate_left 1;(focus (refine aO rfl rfl ?_;(refine jF fun _=>?_);refine jK (aa 12 239) ?_;refine jA 4 rfl ?_;(refine aD rfl ?_);refine jK (aa 12 255) ?_;refine jA 8 rfl ?_;((refine bC rfl rfl rfl rfl rfl rfl rfl rfl rfl ?_ fun _ _=>?_;focus omega));refine jK (aa 12 511) ?_;refine jW 1 [9,10] (aa 12 2047) ?_;refine jA 11 rfl ?_;(refine jD rfl rfl rfl ?_);refine jK (aa 12 4095) ?_;refine jQ ?_));rotate_left 1)
        all_goals repeat' (first | refine jM ?_ | (refine jo ?_;first | refine aD rfl ?_ | refine jD rfl rfl rfl ?_ | refine jF fun _=>?_ | refine bC rfl rfl rfl rfl rfl rfl rfl rfl rfl oM fun _ _=>?_) | refine ad rfl (aG oM) ?_)
        all_goals
         rename_i _ y1 yc1 _ y2 yc2
         rw [hrow1,hrow2]
         exact bj (fs ++ [(d,w)],bs ++ [wb],some ⟨y1,0,none⟩,yc1,some ⟨y2,0,none⟩,yc2,r3,m - 1,G) ⟨⟨⟨hbl',hfm',hreps'⟩,hgl⟩,⟨(by dsimp only;rw [hit,hst,u9,hnd]),(by dsimp only;omega)⟩,(by dsimp only;omega),(by dsimp only;omega)⟩ (by dsimp only;omega) tU rfl (by rw [hl'];repeat (first | exact List.Sublist.refl _ | apply List.Sublist.cons_cons | apply List.Sublist.cons))
       ·rw [if_neg h44] at hst
        by_cases h125' : e2.toNat = 125
        ·rw [if_pos h125'] at hst
         (refine am (an (id:=8) _ (fun _ h=>h) al ?_);refine jT 22 [0,1,2] (aa 25 7) ?_;(try (refine Nx.re (d:=92) (v':=Bo false) rfl (congrArg Value.bool rfl) ?_));refine jT 20 [3,5] (aa 25 47) ?_;(refine jG (aa 25 111) 6 rfl (aT rfl rfl rfl) ?_);(refine jG (aa 25 239) 7 rfl (bM rfl rfl rfl rfl) ?_);(refine jA 4 rfl ?_;(refine ae rfl rfl rfl cx_out rfl ?_);refine jS (aa 25 255) ?_);(refine jA 8 rfl ?_;(refine ae rfl rfl rfl cx_sta rfl ?_);refine jS (aa 25 511) ?_);refine jT 15 [9] (aa 25 1023) ?_;(refine jG (aa 25 2047) 10 rfl (bi rfl rfl rfl) ?_);refine jT 13 [11] (aa 25 4095) ?_;(try (refine Nx.re (d:=101) (v':=Bo false) rfl (congrArg Value.bool (aG ‹_›)) ?_));refine jT 11 [12,13] (aa 25 16383) ?_;(refine jG (aa 25 32767) 14 rfl (bi rfl rfl rfl) ?_);refine jT 9 [15] (aa 25 65535) ?_;(try (refine Nx.re (d:=105) (v':=Bo false) rfl (congrArg Value.bool rfl) ?_));refine jW 5 [16,17,18,19] (aa 25 1048575) ?_;(try ((refine Nx.re (d:=109) (v':=Bo true) rfl (congrArg Value.bool (ay oM)) ?_)));refine jW 2 [20,21,22] (aa 25 8388607) ?_;(refine jG (aa 25 16777215) 23 rfl (bL rfl rfl rfl) ?_);(refine jG (aa 25 33554431) 24 rfl (bi rfl rfl rfl) ?_);refine jQ ?_)
         repeat' (first | refine jR ?_ | refine ad rfl (aG oM) ?_)
         (refine am (an (id:=10) [.blk x14 (.cells (List.toArray [I d.tag,S d.name,S d.kind,S d.stand]) tFd (0,0))] (by intro y hy;simp only [List.mem_cons,List.not_mem_nil,or_false] at hy ⊢;simp [hy]) al ?_);refine jW 7 [0,1,2,3,5] (aa 12 47) ?_;(refine jG (aa 12 111) 6 rfl (aT rfl rfl rfl) ?_);refine b8 [4,7] kR dC ⟨?_,?_,trivial⟩;(focus (refine aO rfl rfl ?_;(refine aD rfl ?_);refine jK (aa 12 127) ?_;refine jA 7 rfl ?_;(refine jF fun _=>?_);refine jK (aa 12 255) ?_;refine jA 8 rfl ?_;((refine bC rfl rfl rfl rfl rfl rfl rfl rfl rfl ?_ fun _ _=>?_;focus omega));refine jK (aa 12 511) ?_;refine jW 1 [9,10] (aa 12 2047) ?_;refine jA 11 rfl ?_;(refine jD rfl rfl rfl ?_);refine jK (aa 12 4095) ?_;refine jQ ?_));rotate_left 1;(focus (refine aO rfl rfl ?_;(refine jF fun _=>?_);refine jK (aa 12 239) ?_;refine jA 4 rfl ?_;(refine aD rfl ?_);refine jK (aa 12 255) ?_;refine jA 8 rfl ?_;((refine bC rfl rfl rfl rfl rfl rfl rfl rfl rfl ?_ fun _ _=>?_;focus omega));refine jK (aa 12 511) ?_;refine jW 1 [9,10] (aa 12 2047) ?_;refine jA 11 rfl ?_;(refine jD rfl rfl rfl ?_);refine jK (aa 12 4095) ?_;refine jQ ?_));rotate_left 1)
         all_goals repeat' (first | refine jM ?_ | (refine jo ?_;first | refine aD rfl ?_ | refine jD rfl rfl rfl ?_ | refine jF fun _=>?_ | refine bC rfl rfl rfl rfl rfl rfl rfl rfl rfl oM fun _ _=>?_) | refine ac rfl (ay oM) ?_)
         all_goals
          rename_i _ y1 yc1 _ y2 yc2
          rw [hrow1,hrow2]
          refine Nx.sealS (v:=.slice (some ⟨y1,0,none⟩) (fs.length + 1) yc1) fun G2 hG2 hs1=>?_
          refine Nx.sealS (v:=.slice (some ⟨y2,0,none⟩) (fs.length + 1) yc2) fun G3 hG3 hs2=>?_
          refine Nx.sealC (b:=x13) fun G4 hG4 hsg=>?_
          refine jZ (vs:=[_,_,_]) rfl ⟨rfl,rfl,rfl,trivial⟩ rfl ⟨(((hgl.trans hG2).trans hG3).trans hG4),rfl,?_⟩
          rw [bD]
          exact ⟨_,_,_,rfl,fun _=>⟨.nd 82 [] 0 (ii (fs ++ [(d,w)])),x13,rfl,(by rw [hRl,hit,hst,hnd];rfl),.recd k x13 x.2 (fs ++ [(d,w)]) (bs ++ [wb]) (some ⟨y1,0,none⟩) (some ⟨y2,0,none⟩) yc1 yc2 ⟨hrf,hso⟩ (by rw [hl'];exact hsg) (by rw [hl'];exact (hs1.mono hG3).mono hG4) (by rw [hl'];exact hs2.mono hG4) hbl' hfm' (fun i hi=>(hreps' i hi).mono ((hG2.trans hG3).trans hG4))⟩,fun h=>(by cases h)⟩
        ·rw [if_neg h125'] at hst
         (refine am (an (id:=8) _ (fun _ h=>h) al ?_);refine jT 22 [0,1,2] (aa 25 7) ?_;(try (refine Nx.re (d:=92) (v':=Bo false) rfl (congrArg Value.bool rfl) ?_));refine jT 20 [3,5] (aa 25 47) ?_;(refine jG (aa 25 111) 6 rfl (aT rfl rfl rfl) ?_);(refine jG (aa 25 239) 7 rfl (bM rfl rfl rfl rfl) ?_);(refine jA 4 rfl ?_;(refine ae rfl rfl rfl cx_out rfl ?_);refine jS (aa 25 255) ?_);(refine jA 8 rfl ?_;(refine ae rfl rfl rfl cx_sta rfl ?_);refine jS (aa 25 511) ?_);refine jT 15 [9] (aa 25 1023) ?_;(refine jG (aa 25 2047) 10 rfl (bi rfl rfl rfl) ?_);refine jT 13 [11] (aa 25 4095) ?_;(try (refine Nx.re (d:=101) (v':=Bo false) rfl (congrArg Value.bool (aG ‹_›)) ?_));refine jT 11 [12,13] (aa 25 16383) ?_;(refine jG (aa 25 32767) 14 rfl (bi rfl rfl rfl) ?_);refine jT 9 [15] (aa 25 65535) ?_;(try (refine Nx.re (d:=105) (v':=Bo false) rfl (congrArg Value.bool rfl) ?_));refine jW 5 [16,17,18,19] (aa 25 1048575) ?_;(try ((refine Nx.re (d:=109) (v':=Bo true) rfl (congrArg Value.bool (ay oM)) ?_)));refine jW 2 [20,21,22] (aa 25 8388607) ?_;(refine jG (aa 25 16777215) 23 rfl (bL rfl rfl rfl) ?_);(refine jG (aa 25 33554431) 24 rfl (bi rfl rfl rfl) ?_);refine jQ ?_)
         repeat' (first | refine jR ?_ | refine ac rfl (ay oM) ?_)
         all_goals refine jZ (vs:=[_,_,_]) rfl ⟨rfl,rfl,rfl,trivial⟩ rfl ⟨hgl,rfl,?_⟩
         all_goals exact hnone hst rfl
theorem uN {ts : List Ty} {f : List UInt8 → List UInt8 → Option (V × List UInt8)} {t : Ty} {e : UInt8} {s : List UInt8} (h : t.sort = 82 ∧ ¬ e.toNat = 123 ∨ t.sort = 69 ∧ ¬ e.toNat = 35 ∨ t.sort = 85 ∧ ¬ e.toNat = 60) : bA ts f t (e :: s) = none:=by
 unfold bA
 dsimp only
 rcases h with ⟨h1,h2⟩ | ⟨h1,h2⟩ | ⟨h1,h2⟩
 ·rw [if_pos h1,if_neg h2]
 ·rw [if_neg oM,if_pos h1,if_neg h2]
 ·rw [if_neg oM,if_neg oM,if_neg h2]
theorem abb {n : Nat} {u : Value} {vs : List co} {x : co} {k s : List UInt8} {e : UInt8} (hu : u.oneCell' = true) (cx_rf : a9 Tryz.prog 116 [u,S k] G (· = Tu [Ag [U8 x.2.sort,S x.2.name,ge x],Bo true])) (hso : x.2.sort = 82 ∧ ¬ e.toNat = 123 ∨ x.2.sort = 69 ∧ ¬ e.toNat = 35 ∨ x.2.sort = 85 ∧ ¬ e.toNat = 60) (hs : s.length ≤ 2000000) (hn : n ≤ 1000) :
  bB Tryz.prog 84 [Ag [u],S (e :: s),S k,I (n + 1 : Nat)] G (eH (ag vs) (bA (ag vs) (rd (ag vs) n) x.2 (e :: s)) k):=by
 have hno:=uN (ts:=ag vs) (f:=rd (ag vs) n) (s:=s) hso
 have he0 : bt (e :: s) (Int.toNat 0) = e.toNat:=bh e s
 have hel : (e :: s).length = s.length + 1:=rfl
 rcases hso with ⟨h1,h2⟩ | ⟨h1,h2⟩ | ⟨h1,h2⟩
 all_goals
  have h1' : (x.2.sort : Int) = 82 ∨ (x.2.sort : Int) = 69 ∨ (x.2.sort : Int) = 85:=oM
  refine jB [(0,_),(1,_),(2,_),(3,_)] Tryz.func84 Tryz.ntmps84 fun B hok hB hW=>?_
  repeat' (first | refine jM ?_ | (refine jo ?_;first | refine jO fun _=>?_ | refine aD rfl ?_ | refine jL fun _=>?_ | refine jC rfl rfl rfl ?_ | refine aN rfl ?_ | refine aC rfl ?_ | refine ae rfl rfl rfl cx_rf rfl ?_) | refine aH rfl rfl (ay oM) ?_ | refine ar rfl rfl (aG oM) ?_ | (refine ad rfl (by first | rfl | (refine decide_eq_false ?_;(omega))) ?_))
  all_goals refine jZ (vs:=[_,_,_]) rfl ⟨rfl,rfl,rfl,trivial⟩ rfl ⟨Gh.le.refl _,rfl,?_⟩
  all_goals (rw [bD];exact ⟨_,_,_,rfl,fun h=>(by cases h),fun _=>hno⟩)
theorem abd {n : Nat} {u : Value} {vs : List co} {x : co} {k s : List UInt8} (hR : kN n u vs) (h : SchR G u vs) (hw : SchW (ag vs)) (hx : x ∈ vs) (hrf : aZ (ag vs) k = some x.2) (cx_rf : a9 Tryz.prog 116 [u,S k] G (· = Tu [Ag [U8 x.2.sort,S x.2.name,ge x],Bo true])) (hso : x.2.sort = 82) (hs : s.length ≤ 1999999) (hn : n ≤ 1000) (hkl : k.length ≤ 1000) :
  bB Tryz.prog 84 [Ag [u],S (123 :: s),S k,I (n + 1 : Nat)] G (eH (ag vs) (bA (ag vs) (rd (ag vs) n) x.2 (123 :: s)) k):=by
 have cx_rc:=wv (s:=s) hR h hw hx hrf hso oM hn hkl
 have he0 : bt (123 :: s) (Int.toNat 0) = 123:=bh 123 s
 have hel : (123 :: s).length = s.length + 1:=rfl
 have h1' : (x.2.sort : Int) = 82:=oM
 refine jB [(0,_),(1,_),(2,_),(3,_)] Tryz.func84 Tryz.ntmps84 fun B hok hB hW=>?_
 repeat' (first | refine jM ?_ | (refine jo ?_;first | refine jO fun _=>?_ | refine aD rfl ?_ | refine jL fun _=>?_ | refine jC rfl rfl rfl ?_ | refine aN rfl ?_ | refine ae rfl rfl rfl cx_rf rfl ?_) | refine aH rfl rfl (ay ‹_›) ?_ | refine ac rfl rfl ?_ | (refine am (an (id:=3) _ (fun _ h=>h) al ?_);refine jW 9 [1,2,3,5] (aa 13 46) ?_;(refine jG (aa 13 47) 0 rfl (bM rfl rfl rfl rfl) ?_);(refine jG (aa 13 63) 4 rfl (bM rfl rfl rfl rfl) ?_);refine jA 6 rfl ?_;(refine aq rfl rfl rfl cx_rc rfl ?_;rintro _ G hle ⟨q1,r1,ok1,rfl,hyes,hno⟩;skip);refine jS (aa 13 127) ?_;refine jT 0 [7,8,9,10,11,12] (aa 13 8191) ?_;refine jQ ?_))
 refine jZ (vs:=[_,_,_]) rfl ⟨rfl,rfl,rfl,trivial⟩ rfl ⟨hle,rfl,?_⟩
 rw [bD]
 exact ⟨_,_,_,rfl,hyes,hno⟩
theorem abe {n : Nat} {u : Value} {vs : List co} {x : co} {k s : List UInt8} (h : SchR G u vs) (hw : SchW (ag vs)) (hx : x ∈ vs) (hrf : aZ (ag vs) k = some x.2) (cx_rf : a9 Tryz.prog 116 [u,S k] G (· = Tu [Ag [U8 x.2.sort,S x.2.name,ge x],Bo true])) (hso : x.2.sort = 69) (hs : s.length ≤ 1999999) (hn : n ≤ 1000) :
  bB Tryz.prog 84 [Ag [u],S (35 :: s),S k,I (n + 1 : Nat)] G (eH (ag vs) (bA (ag vs) (rd (ag vs) n) x.2 (35 :: s)) k):=by
 have hxt : x.2 ∈ ag vs:=List.mem_map_of_mem hx
 have hTW:=hw.ty _ hxt
 have hfl:=hTW.len
 have cx_tg:=rx (G:=G) (u:=u) (x:=x) (s:=s) oM h.sl.one (h.fl x hx) oM
 have he0 : bt (35 :: s) (Int.toNat 0) = 35:=bh 35 s
 have hel : (35 :: s).length = s.length + 1:=rfl
 have h1' : (x.2.sort : Int) = 69:=oM
 have hRT : bA (ag vs) (rd (ag vs) n) x.2 (35 :: s) = match cE 200 s with
   | none=>none
   | some (n,r)=>if (ci x.2.fields n).isSome = true then some (.nd 69 [] n [],r) else none:=by
  unfold bA
  dsimp only
  rw [if_neg oM,if_pos hso,if_pos (show (35 : UInt8).toNat = 35 from rfl)]
  cases cE 200 s <;> rfl
 unfold cE at hRT
 simp only [jI] at cx_tg
 refine jB [(0,_),(1,_),(2,_),(3,_)] Tryz.func84 Tryz.ntmps84 fun B hok hB hW=>?_
 repeat' (first | refine jM ?_ | (refine jo ?_;first | refine jO fun _=>?_ | refine aD rfl ?_ | refine jL fun _=>?_ | refine jC rfl rfl rfl ?_ | refine aN rfl ?_ | refine aC rfl ?_ | refine jF fun _=>?_ | refine jV (ax rfl rfl) ?_ | refine ae rfl rfl rfl cx_rf rfl ?_) | refine aH rfl rfl (ay ‹_›) ?_ | refine ar rfl rfl (aG oM) ?_ | refine ac rfl rfl ?_ | refine ad rfl rfl ?_ | (refine am (an (id:=5) _ (fun _ h=>h) al ?_);refine jW 11 [1,2] (aa 13 6) ?_;(refine jG (aa 13 7) 0 rfl (bM rfl rfl rfl rfl) ?_);(refine jG (aa 13 15) 3 rfl (bM rfl rfl rfl rfl) ?_);refine b8 [4,9] kR dC ⟨?_,?_,trivial⟩;(focus (refine aO rfl rfl ?_;(refine eh rfl rfl rfl cx_tg rfl ?_;rintro _ ⟨nt,rfl,hnt⟩);refine jK (aa 13 31) ?_;refine jW 4 [5,6,7,8] (aa 13 511) ?_;refine jA 9 rfl ?_;(refine jL fun _=>?_);refine jK (aa 13 1023) ?_;refine jA 10 rfl ?_;(refine jC rfl rfl rfl ?_);refine jK (aa 13 2047) ?_;refine jW 0 [11,12] (aa 13 8191) ?_;refine jQ ?_));rotate_left 1;(focus (refine aO rfl rfl ?_;(refine jL fun _=>?_);refine jK (aa 13 527) ?_;refine jA 4 rfl ?_;(refine eh rfl rfl rfl cx_tg rfl ?_;rintro _ ⟨nt,rfl,hnt⟩);refine jK (aa 13 543) ?_;refine jW 3 [5,6,7,8] (aa 13 1023) ?_;refine jA 10 rfl ?_;(refine jC rfl rfl rfl ?_);refine jK (aa 13 2047) ?_;refine jW 0 [11,12] (aa 13 8191) ?_;refine jQ ?_));rotate_left 1))
 all_goals
  rename_i y y8
  refine Nx.sealC (b:=y) fun G2 hG2 hsy=>?_
  refine Nx.sealC (b:=y8) fun G3 hG3 hsg=>?_
  refine jZ (vs:=[_,_,_]) rfl ⟨rfl,rfl,rfl,trivial⟩ rfl ⟨(hG2.trans hG3),rfl,?_⟩
  rw [bD]
  refine ⟨_,_,_,rfl,fun hb=>?_,fun hb=>?_⟩
  ·simp only [Bool.and_eq_true] at hb
   obtain ⟨hb1,hb2⟩:=hb
   obtain ⟨m0,hm⟩:=Option.isSome_iff_exists.1 hb1
   obtain ⟨d,hd⟩:=Option.isSome_iff_exists.1 hb2
   have hnm:=hnt m0 hm
   subst hnm
   rw [hd] at hsy
   simp only [Option.getD_some] at hsy
   have hdm : d ∈ x.2.fields:=List.mem_of_find?_eq_some hd
   have hdt : d.tag = nt:=by have:=List.find?_some hd;simpa using this
   exact ⟨.nd 69 [] d.tag [],y8,rfl,by rw [hRT,hm];dsimp only [Option.map_some];rw [hd,hdt];rfl,.enm k y8 y x.2 d ⟨hrf,hso⟩ hdm hsg (hsy.mono hG3)⟩
  ·rw [hRT]
   cases hm : aK (s.takeWhile bm) 200 with
   | none=>rfl
   | some m0 =>
    have hnm:=hnt m0 hm
    subst hnm
    rw [hm] at hb
    dsimp only [Option.map_some]
    rw [if_neg]
    intro h2
    rw [h2] at hb;cases hb
theorem abc {n : Nat} {u : Value} {vs : List co} {x : co} {k s : List UInt8} (hR : kN n u vs) (h : SchR G u vs) (hw : SchW (ag vs)) (hx : x ∈ vs) (hrf : aZ (ag vs) k = some x.2) (cx_rf : a9 Tryz.prog 116 [u,S k] G (· = Tu [Ag [U8 x.2.sort,S x.2.name,ge x],Bo true])) (hso : x.2.sort = 85) (hs : s.length ≤ 1999999) (hn : n ≤ 1000) :
  bB Tryz.prog 84 [Ag [u],S (60 :: s),S k,I (n + 1 : Nat)] G (eH (ag vs) (bA (ag vs) (rd (ag vs) n) x.2 (60 :: s)) k):=by
 have edn : ((n + 1 : Nat) : Int) - 1 = (n : Nat):=oM
 have hxt : x.2 ∈ ag vs:=List.mem_map_of_mem hx
 have hTW:=hw.ty _ hxt
 have hfl:=hTW.len
 have cx_tg:=rx (G:=G) (u:=u) (x:=x) (s:=s) oM h.sl.one (h.fl x hx) oM
 have he0 : bt (60 :: s) (Int.toNat 0) = 60:=bh 60 s
 have hel : (60 :: s).length = s.length + 1:=rfl
 have h1' : (x.2.sort : Int) = 85:=oM
 have hRT : bA (ag vs) (rd (ag vs) n) x.2 (60 :: s) = match aX (rd (ag vs) n) x.2 s with
   | none=>none
   | some ((d,v),r)=>match r with
    | []=>none
    | c' :: r'=>if c'.toNat = 62 then some (.nd 85 [] d.tag [v],r') else none:=by
  unfold bA
  dsimp only
  rw [if_neg oM,if_neg oM,if_pos (show (60 : UInt8).toNat = 60 from rfl)]
  cases aX (rd (ag vs) n) x.2 s <;> rfl
 simp only [jI] at cx_tg
 refine jB [(0,_),(1,_),(2,_),(3,_)] Tryz.func84 Tryz.ntmps84 fun B hok hB hW=>?_
 repeat' (first | refine jM ?_ | (refine jo ?_;first | refine jO fun _=>?_ | refine aD rfl ?_ | refine jL fun _=>?_ | refine jC rfl rfl rfl ?_ | refine aN rfl ?_ | refine aC rfl ?_ | refine ae rfl rfl rfl cx_rf rfl ?_) | refine aH rfl rfl (ay ‹_›) ?_ | refine ar rfl rfl (aG oM) ?_ | refine ac rfl rfl ?_ | refine ad rfl rfl ?_)
 (refine am (an (id:=8) _ (fun _ h=>h) al ?_);refine jW 11 [1,2] (aa 13 6) ?_;(refine jG (aa 13 7) 0 rfl (bM rfl rfl rfl rfl) ?_);(refine jG (aa 13 15) 3 rfl (bM rfl rfl rfl rfl) ?_);refine b8 [4,9] kR dC ⟨?_,?_,trivial⟩;(focus (refine aO rfl rfl ?_;(refine eh rfl rfl rfl cx_tg rfl ?_;rintro _ ⟨nt,rfl,hnt⟩);refine jK (aa 13 31) ?_;refine jW 4 [5,6,7,8] (aa 13 511) ?_;refine jA 9 rfl ?_;(refine jL fun _=>?_);refine jK (aa 13 1023) ?_;refine jA 10 rfl ?_;(refine jC rfl rfl rfl ?_);refine jK (aa 13 2047) ?_;refine jW 0 [11,12] (aa 13 8191) ?_;refine jQ ?_));rotate_left 1;(focus (refine aO rfl rfl ?_;(refine jL fun _=>?_);refine jK (aa 13 527) ?_;refine jA 4 rfl ?_;(refine eh rfl rfl rfl cx_tg rfl ?_;rintro _ ⟨nt,rfl,hnt⟩);refine jK (aa 13 543) ?_;refine jW 3 [5,6,7,8] (aa 13 1023) ?_;refine jA 10 rfl ?_;(refine jC rfl rfl rfl ?_);refine jK (aa 13 2047) ?_;refine jW 0 [11,12] (aa 13 8191) ?_;refine jQ ?_));rotate_left 1)
 all_goals
  have hnone : ∀ {v : Value} {G' : Gh} {r : List UInt8},aX (rd (ag vs) n) x.2 s = none → v = Tu [.pointer none,S r,Bo false] → eH (ag vs) (bA (ag vs) (rd (ag vs) n) x.2 (60 :: s)) k v G':=fun h1 h2=>⟨_,_,_,h2,fun h=>(by cases h),fun _=>by rw [hRT,h1]⟩
  cases hb16 : (aK (s.takeWhile bm) 200).isSome && (ci x.2.fields nt).isSome with
  | false =>
   have hno : aX (rd (ag vs) n) x.2 s = none:=by
    cases hm : aK (s.takeWhile bm) 200 with
    | none=>exact fO (.inl hm)
    | some m0 =>
     refine fO (.inr ⟨m0,hm,?_⟩)
     rw [hm] at hb16
     rw [← hnt m0 hm]
     cases hf : ci x.2.fields nt with
     | none=>rfl
     | some d=>rw [hf] at hb16;cases hb16
   repeat' (first | refine jR ?_ | (refine jo ?_;refine aN rfl ?_) | refine aH rfl rfl rfl ?_ | refine ac rfl rfl ?_)
   all_goals refine jZ (vs:=[_,_,_]) rfl ⟨rfl,rfl,rfl,trivial⟩ rfl ⟨Gh.le.refl _,rfl,?_⟩
   all_goals exact hnone hno rfl
  | true =>
   simp only [Bool.and_eq_true] at hb16
   obtain ⟨hb1,hb2⟩:=hb16
   obtain ⟨m0,hm⟩:=Option.isSome_iff_exists.1 hb1
   obtain ⟨d,hd⟩:=Option.isSome_iff_exists.1 hb2
   have hnm:=hnt m0 hm
   subst hnm
   rw [hd]
   simp only [Option.getD_some]
   have hdm : d ∈ x.2.fields:=List.mem_of_find?_eq_some hd
   have hwl:=ec bm s
   cases hdw : s.dropWhile bm with
   | nil =>
    have hno : aX (rd (ag vs) n) x.2 s = none:=ip hm (fun s2 h=>by rw [hdw] at h;cases h)
    repeat' (first | refine jR ?_ | (refine jo ?_;first | refine aN rfl ?_ | refine aC rfl ?_) | refine aH rfl rfl rfl ?_ | refine ar rfl rfl rfl ?_ | refine ac rfl rfl ?_)
    all_goals refine jZ (vs:=[_,_,_]) rfl ⟨rfl,rfl,rfl,trivial⟩ rfl ⟨Gh.le.refl _,rfl,?_⟩
    all_goals exact hnone hno rfl
   | cons e r2 =>
    have he20 : bt (e :: r2) (Int.toNat 0) = e.toNat:=bh e r2
    have hel2 : (e :: r2).length = r2.length + 1:=rfl
    by_cases h61 : e.toNat = 61
    case neg =>
     have hno : aX (rd (ag vs) n) x.2 s = none:=ip hm (fun s2 h=>by rw [hdw] at h;simp only [List.cons.injEq] at h;exact h61 (by rw [h.1];rfl))
     repeat' (first | refine jM ?_ | (refine jo ?_;refine aC rfl ?_) | refine ar rfl rfl rfl ?_ | refine ac rfl (ay oM) ?_)
     all_goals refine jZ (vs:=[_,_,_]) rfl ⟨rfl,rfl,rfl,trivial⟩ rfl ⟨Gh.le.refl _,rfl,?_⟩
     all_goals exact hnone hno rfl
    have he61 : e = 61:=UInt8.toNat_inj.1 h61
    have hfs:=lV (f:=rd (ag vs) n) (t:=x.2) (s:=s) hm hd (by rw [hdw,he61])
    have hdk : aB (ag vs) d.kind = true:=dN hw hxt oM hdm
    rw [hdw,List.length_cons] at hwl
    have cx_rd:=hR G d.kind r2 h hdk oM
    rw [← edn] at cx_rd
    repeat' (first | refine jM ?_ | (refine jo ?_;refine aC rfl ?_) | refine ar rfl rfl rfl ?_ | refine ad rfl (aG oM) ?_)
    (refine am (an (id:=11) _ (fun _ h=>h) al ?_);refine jW 10 [1,2,3,5,6] (aa 15 110) ?_;(refine jG (aa 15 111) 0 rfl (bM rfl rfl rfl rfl) ?_);(refine jG (aa 15 127) 4 rfl (aT rfl rfl rfl) ?_);refine jA 7 rfl ?_;(refine aq rfl rfl rfl cx_rd rfl ?_;rintro _ G hle ⟨q1,r1,ok1,rfl,hyes,hno⟩;skip);refine jS (aa 15 255) ?_;refine jT 0 [8,9,10,11,12,13,14] (aa 15 32767) ?_;refine jQ ?_)
    cases ok1 with
    | false =>
     have hno2 : aX (rd (ag vs) n) x.2 s = none:=by rw [hfs,hno rfl];rfl
     repeat' (first | refine jR ?_ | (refine jo ?_;refine aN rfl ?_) | refine aH rfl rfl rfl ?_ | refine ac rfl rfl ?_)
     all_goals refine jZ (vs:=[_,_,_]) rfl ⟨rfl,rfl,rfl,trivial⟩ rfl ⟨hle,rfl,?_⟩
     all_goals exact hnone hno2 rfl
    | true =>
     obtain ⟨w,wb,rfl,hf,hrep⟩:=hyes rfl
     have hfd : aX (rd (ag vs) n) x.2 s = some ((d,w),r1):=by rw [hfs,hf];rfl
     rw [hfd] at hRT
     dsimp only at hRT
     cases r1 with
     | nil =>
      repeat' (first | refine jR ?_ | (refine jo ?_;first | refine aN rfl ?_ | refine aC rfl ?_) | refine aH rfl rfl rfl ?_ | refine ar rfl rfl rfl ?_ | refine ac rfl rfl ?_)
      all_goals refine jZ (vs:=[_,_,_]) rfl ⟨rfl,rfl,rfl,trivial⟩ rfl ⟨hle,rfl,?_⟩
      all_goals (rw [bD];exact ⟨_,_,_,rfl,fun h=>(by cases h),fun _=>hRT⟩)
     | cons e3 r3 =>
      have he30 : bt (e3 :: r3) (Int.toNat 0) = e3.toNat:=bh e3 r3
      have hel3 : (e3 :: r3).length = r3.length + 1:=rfl
      dsimp only at hRT
      by_cases h62 : e3.toNat = 62
      case neg =>
       rw [if_neg h62] at hRT
       repeat' (first | refine jM ?_ | (refine jo ?_;refine aC rfl ?_) | refine ar rfl rfl rfl ?_ | refine ac rfl (ay oM) ?_)
       all_goals refine jZ (vs:=[_,_,_]) rfl ⟨rfl,rfl,rfl,trivial⟩ rfl ⟨hle,rfl,?_⟩
       all_goals (rw [bD];exact ⟨_,_,_,rfl,fun h=>(by cases h),fun _=>hRT⟩)
      rw [if_pos h62] at hRT
      repeat' (first | refine jM ?_ | (refine jo ?_;refine aC rfl ?_) | refine ar rfl rfl rfl ?_ | refine ad rfl (aG oM) ?_)
      (refine am (an (id:=14) _ (fun _ h=>h) al ?_);refine jW 8 [0,1,4,8,9] (aa 13 787) ?_;(refine jG (aa 13 791) 2 rfl (aT rfl rfl rfl) ?_);refine b8 [3,5] kR dC ⟨?_,?_,trivial⟩;(focus (refine aO rfl rfl ?_;(refine jF fun _=>?_);refine jS (aa 13 799) ?_;refine jA 5 rfl ?_;(refine jF fun _=>?_);refine jS (aa 13 831) ?_;(refine jG (aa 13 895) 6 rfl (ax rfl rfl) ?_);refine jA 7 rfl ?_;(refine jO fun _=>?_);refine jS (aa 13 1023) ?_;refine jW 0 [10,11,12] (aa 13 8191) ?_;refine jQ ?_));rotate_left 1;(focus (refine aO rfl rfl ?_;(refine jF fun _=>?_);refine jS (aa 13 823) ?_;refine jA 3 rfl ?_;(refine jF fun _=>?_);refine jS (aa 13 831) ?_;(refine jG (aa 13 895) 6 rfl (ax rfl rfl) ?_);refine jA 7 rfl ?_;(refine jO fun _=>?_);refine jS (aa 13 1023) ?_;refine jW 0 [10,11,12] (aa 13 8191) ?_;refine jQ ?_));rotate_left 1)
      all_goals repeat' (refine jR ?_)
      all_goals
       rename_i y1 y2 y8
       refine Nx.sealC (b:=y1) fun G2 hG2 hs1=>?_
       refine Nx.sealC (b:=y2) fun G3 hG3 hs2=>?_
       refine Nx.sealC (b:=y8) fun G4 hG4 hsg=>?_
       refine jZ (vs:=[_,_,_]) rfl ⟨rfl,rfl,rfl,trivial⟩ rfl ⟨(((hle.trans hG2).trans hG3).trans hG4),rfl,?_⟩
       rw [bD]
       first | exact ⟨_,_,_,rfl,fun _=>⟨.nd 85 [] d.tag [w],y8,rfl,hRT,.uni k y8 y1 y2 wb 1 x.2 d w (Nat.le_refl _) ⟨hrf,hso⟩ hdm hsg (hs1.mono (hG3.trans hG4)) (hs2.mono hG4) (hrep.mono ((hG2.trans hG3).trans hG4))⟩,fun h=>(by cases h)⟩ | exact ⟨_,_,_,rfl,fun _=>⟨.nd 85 [] d.tag [w],y8,rfl,hRT,.uni k y8 y2 y1 wb 1 x.2 d w (Nat.le_refl _) ⟨hrf,hso⟩ hdm hsg (hs2.mono hG4) (hs1.mono (hG3.trans hG4)) (hrep.mono ((hG2.trans hG3).trans hG4))⟩,fun h=>(by cases h)⟩
theorem aam {ts : List Ty} {n : Nat} {k : List UInt8} : rd ts n k [] = none:=by
 cases h : rd ts n k [] with
 | none=>rfl
 | some x=>have:=iD h;simp at this
theorem uA {n : Nat} {u : Value} {vs : List co} {k s : List UInt8} (hc : s = [] ∨ n = 0) (hn : n ≤ 1000) : bB Tryz.prog 50 [Ag [u],S s,S k,I (n : Nat)] G (eH (ag vs) (rd (ag vs) n k s) k):=by
 have hno : rd (ag vs) n k s = none:=by
  rcases hc with rfl | rfl
  ·exact aam
  ·rfl
 by_cases hs : s = []
 ·refine jB [(0,_),(1,_),(2,_),(3,_)] Tryz.func50 Tryz.ntmps50 fun B hok hB hW=>?_
  repeat' (first | refine jR ?_ | (refine jo ?_;first | refine jO fun _=>?_ | refine aN rfl ?_) | refine aH rfl rfl (ay ‹_›) ?_ | refine ac rfl rfl ?_)
  refine jZ (vs:=[_,_,_]) rfl ⟨rfl,rfl,rfl,trivial⟩ rfl ⟨Gh.le.refl _,rfl,?_⟩
  rw [bD]
  exact ⟨_,_,_,rfl,fun h=>(by cases h),fun _=>hno⟩
 ·have hn0 : n = 0:=by
   rcases hc with h | h
   ·exact absurd h hs
   ·exact h
  refine jB [(0,_),(1,_),(2,_),(3,_)] Tryz.func50 Tryz.ntmps50 fun B hok hB hW=>?_
  repeat' (first | refine jR ?_ | (refine jo ?_;first | refine jO fun _=>?_ | refine aC rfl ?_) | refine ar rfl rfl (aG ‹_›) ?_ | refine ac rfl (ay oM) ?_)
  refine jZ (vs:=[_,_,_]) rfl ⟨rfl,rfl,rfl,trivial⟩ rfl ⟨Gh.le.refl _,rfl,?_⟩
  rw [bD]
  exact ⟨_,_,_,rfl,fun h=>(by cases h),fun _=>hno⟩
theorem zE {n : Nat} {u : Value} {vs : List co} {k s : List UInt8} {e : UInt8} (hR : kN n u vs) (h : SchR G u vs) (hk : aB (ag vs) (91 :: k) = true) (hs : s.length ≤ 1999999) (hn : n ≤ 999) :
  bB Tryz.prog 50 [Ag [u],S (e :: s),S (91 :: k),I (n + 1 : Nat)] G (eH (ag vs) (rd (ag vs) (n + 1) (91 :: k) (e :: s)) (91 :: k)):=by
 have hrd : rd (ag vs) (n + 1) (91 :: k) (e :: s) = fC (rd (ag vs) n k) (e :: s):=by rw [rd];exact rR rfl
 have he0 : bt (e :: s) (Int.toNat 0) = e.toNat:=bh e s
 have hel : (e :: s).length = s.length + 1:=rfl
 have hk0 : bt (91 :: k) (Int.toNat 0) = 91:=bh 91 k
 have hkl2 : (91 :: k).length = k.length + 1:=rfl
 by_cases h91 : e.toNat = 91
 ·obtain rfl:=bV h91 dC
  have cx_ls:=zI (s:=s) hR h (fp (.inl rfl) hk) oM oM
  refine jB [(0,_),(1,_),(2,_),(3,_)] Tryz.func50 Tryz.ntmps50 fun B hok hB hW=>?_
  repeat' (first | refine jM ?_ | (refine jo ?_;first | refine jO fun _=>?_ | refine aC rfl ?_) | refine ar rfl rfl rfl ?_ | refine ac rfl rfl ?_ | refine ad rfl rfl ?_ | (refine am (an (id:=7) _ (fun _ h=>h) al ?_);refine jW 8 [1,2,3,4] (aa 12 30) ?_;(refine jG (aa 12 31) 0 rfl (bM rfl rfl rfl rfl) ?_);refine jA 5 rfl ?_;(refine aq rfl rfl rfl cx_ls rfl ?_;rintro _ G hle ⟨q1,r1,ok1,rfl,hyes,hno⟩;skip);refine jS (aa 12 63) ?_;refine jT 0 [6,7,8,9,10,11] (aa 12 4095) ?_;refine jQ ?_))
  refine jZ (vs:=[_,_,_]) rfl ⟨rfl,rfl,rfl,trivial⟩ rfl ⟨hle,rfl,?_⟩
  rw [bD,hrd]
  exact ⟨_,_,_,rfl,hyes,hno⟩
 ·have hno : fC (rd (ag vs) n k) (e :: s) = none:=by unfold fC;dsimp only;rw [if_neg h91]
  refine jB [(0,_),(1,_),(2,_),(3,_)] Tryz.func50 Tryz.ntmps50 fun B hok hB hW=>?_
  repeat' (first | refine jM ?_ | (refine jo ?_;first | refine jO fun _=>?_ | refine aC rfl ?_) | refine ar rfl rfl rfl ?_ | (refine ac rfl (by first | rfl | (refine decide_eq_true ?_;(omega))) ?_) | refine ad rfl rfl ?_)
  refine jZ (vs:=[_,_,_]) rfl ⟨rfl,rfl,rfl,trivial⟩ rfl ⟨Gh.le.refl _,rfl,?_⟩
  rw [bD,hrd]
  exact ⟨_,_,_,rfl,fun h=>(by cases h),fun _=>hno⟩
theorem zD {n : Nat} {u : Value} {vs : List co} {k s : List UInt8} {e : UInt8} (hR : kN n u vs) (h : SchR G u vs) (hk : aB (ag vs) (63 :: k) = true) (hs : s.length ≤ 1999999) (hn : n ≤ 999) :
  bB Tryz.prog 50 [Ag [u],S (e :: s),S (63 :: k),I (n + 1 : Nat)] G (eH (ag vs) (rd (ag vs) (n + 1) (63 :: k) (e :: s)) (63 :: k)):=by
 have edn : ((n + 1 : Nat) : Int) - 1 = (n : Nat):=oM
 have hrd : rd (ag vs) (n + 1) (63 :: k) (e :: s) = if e.toNat = 45 then some (.nd 63 [] 0 [],s) else if e.toNat = 43 then (rd (ag vs) n k s).map fun x=>(.nd 63 [] 0 [x.1],x.2) else none:=by
  rw [rd];unfold fq
  dsimp only
  rw [if_neg (show ¬ (63 : UInt8).toNat = 91 by decide),if_pos (show (63 : UInt8).toNat = 63 from rfl)]
 have he0 : bt (e :: s) (Int.toNat 0) = e.toNat:=bh e s
 have hel : (e :: s).length = s.length + 1:=rfl
 have hk0 : bt (63 :: k) (Int.toNat 0) = 63:=bh 63 k
 have hkl2 : (63 :: k).length = k.length + 1:=rfl
 rw [hrd]
 by_cases h45 : e.toNat = 45
 ·rw [if_pos h45]
  refine jB [(0,_),(1,_),(2,_),(3,_)] Tryz.func50 Tryz.ntmps50 fun B hok hB hW=>?_
  repeat' (first | refine jM ?_ | (refine jo ?_;first | refine jO fun _=>?_ | refine aC rfl ?_) | refine ar rfl rfl rfl ?_ | (refine ac rfl (by first | rfl | (refine decide_eq_true ?_;(omega))) ?_) | refine ad rfl rfl ?_ | (refine am (an (id:=10) _ (fun _ h=>h) al ?_);refine jW 5 [0,3,4] (aa 8 25) ?_;(refine jG (aa 8 27) 1 rfl (ax rfl rfl) ?_);refine jA 2 rfl ?_;(refine jO fun _=>?_);refine jS (aa 8 31) ?_;refine jT 0 [5,6,7] (aa 8 255) ?_;refine jQ ?_))
  rename_i y
  refine Nx.sealC (b:=y) fun G2 hG2 hsy=>?_
  refine jZ (vs:=[_,_,_]) rfl ⟨rfl,rfl,rfl,trivial⟩ rfl ⟨hG2,rfl,?_⟩
  rw [bD]
  exact ⟨_,_,_,rfl,fun _=>⟨_,y,rfl,rfl,.non k y hsy⟩,fun h=>(by cases h)⟩
 rw [if_neg h45]
 by_cases h43 : e.toNat = 43
 ·rw [if_pos h43]
  have cx_rd:=hR G k s h (fp (.inr rfl) hk) oM
  rw [← edn] at cx_rd
  refine jB [(0,_),(1,_),(2,_),(3,_)] Tryz.func50 Tryz.ntmps50 fun B hok hB hW=>?_
  repeat' (first | refine jM ?_ | (refine jo ?_;first | refine jO fun _=>?_ | refine aC rfl ?_ | refine jV (ax rfl rfl) ?_ | refine jF fun _=>?_) | refine ar rfl rfl rfl ?_ | refine ac rfl rfl ?_ | (refine ad rfl (by first | rfl | (refine decide_eq_false ?_;(omega))) ?_) | (refine am (an (id:=13) _ (fun _ h=>h) al ?_);refine jW 9 [1,2,3,4,5,6] (aa 15 126) ?_;(refine jG (aa 15 127) 0 rfl (bM rfl rfl rfl rfl) ?_);refine jA 7 rfl ?_;(refine aq rfl rfl rfl cx_rd rfl ?_;rintro _ G hle ⟨q1,r1,ok1,rfl,hyes,hno⟩;skip);refine jS (aa 15 255) ?_;refine jT 0 [8,9,10,11,12,13,14] (aa 15 32767) ?_;refine jQ ?_))
  rename_i y1 y8
  refine Nx.sealC (b:=y1) fun G2 hG2 hs1=>?_
  refine Nx.sealC (b:=y8) fun G3 hG3 hsg=>?_
  refine jZ (vs:=[_,_,_]) rfl ⟨rfl,rfl,rfl,trivial⟩ rfl ⟨((hle.trans hG2).trans hG3),rfl,?_⟩
  rw [bD]
  refine ⟨_,_,_,rfl,fun hb=>?_,fun hb=>by rw [hno hb];rfl⟩
  obtain ⟨w,wb,rfl,hf,hrep⟩:=hyes hb
  exact ⟨.nd 63 [] 0 [w],y8,rfl,by rw [hf];rfl,.opt k y8 y1 wb 1 w (Nat.le_refl _) hsg (hs1.mono hG3) (hrep.mono (hG2.trans hG3))⟩
 ·rw [if_neg h43]
  refine jB [(0,_),(1,_),(2,_),(3,_)] Tryz.func50 Tryz.ntmps50 fun B hok hB hW=>?_
  repeat' (first | refine jM ?_ | (refine jo ?_;first | refine jO fun _=>?_ | refine aC rfl ?_) | refine ar rfl rfl rfl ?_ | (refine ac rfl (by first | rfl | (refine decide_eq_true ?_;(omega))) ?_) | (refine ad rfl (by first | rfl | (refine decide_eq_false ?_;(omega))) ?_))
  refine jZ (vs:=[_,_,_]) rfl ⟨rfl,rfl,rfl,trivial⟩ rfl ⟨Gh.le.refl _,rfl,?_⟩
  rw [bD]
  exact ⟨_,_,_,rfl,fun h=>(by cases h),fun _=>rfl⟩
theorem zG {n : Nat} {u : Value} {vs : List co} {k s : List UInt8} {e : UInt8} {t : Ty} (hR : kN n u vs) (h : SchR G u vs) (hw : SchW (ag vs)) (hk : aB (ag vs) k = true) (hrf : aZ (ag vs) k = some t) (hs : s.length ≤ 1999999) (hn : n ≤ 999) :
  bB Tryz.prog 50 [Ag [u],S (e :: s),S k,I (n + 1 : Nat)] G (eH (ag vs) (rd (ag vs) (n + 1) k (e :: s)) k):=by
 obtain ⟨r,rfl⟩:=df hrf
 have hkk:=db (dv hk)
 have hrd : rd (ag vs) (n + 1) (64 :: r) (e :: s) = bA (ag vs) (rd (ag vs) n) t (e :: s):=by
  rw [rd];unfold fq
  dsimp only
  rw [if_neg (show ¬ (64 : UInt8).toNat = 91 by decide),if_neg (show ¬ (64 : UInt8).toNat = 63 by decide),hrf]
 have hvl : vs.length ≤ 8:=by have:=hw.len;unfold ag at this;simpa using this
 have href:=eV vs (64 :: r)
 have cx_rf:=iR (k:=64 :: r) h oM hkk.1 oM
 rcases hr : eT vs (64 :: r) with _ | x
 ·rw [hr,hrf] at href;cases href
 rw [hr] at href cx_rf
 have htx : x.2 = t:=by rw [hrf] at href;exact Option.some.inj href
 subst htx
 have hx:=gg hr
 have cx_na : bB Tryz.prog 84 [Ag [u],S (e :: s),S (64 :: r),I (n + 1 : Nat)] G (eH (ag vs) (bA (ag vs) (rd (ag vs) n) x.2 (e :: s)) (64 :: r)):=by
  have hso:=(hw.ty _ (List.mem_map_of_mem hx)).sort
  by_cases h1 : x.2.sort = 82 ∧ e.toNat = 123
  ·obtain rfl:=bV h1.2 dC
   exact abd hR h hw hx hrf cx_rf h1.1 hs oM oM
  by_cases h2 : x.2.sort = 69 ∧ e.toNat = 35
  ·obtain rfl:=bV h2.2 dC
   exact abe h hw hx hrf cx_rf h2.1 hs oM
  by_cases h3 : x.2.sort = 85 ∧ e.toNat = 60
  ·obtain rfl:=bV h3.2 dC
   exact abc hR h hw hx hrf cx_rf h3.1 hs oM
  refine abb h.sl.one cx_rf ?_ oM oM
  rcases hso with h4 | h4 | h4 <;> omega
 have hel : (e :: s).length = s.length + 1:=rfl
 have hk0 : bt (64 :: r) (Int.toNat 0) = 64:=bh 64 r
 have hkl2 : (64 :: r).length = r.length + 1:=rfl
 refine jB [(0,_),(1,_),(2,_),(3,_)] Tryz.func50 Tryz.ntmps50 fun B hok hB hW=>?_
 repeat' (first | refine jM ?_ | (refine jo ?_;first | refine jO fun _=>?_ | refine aC rfl ?_ | refine bK rfl ?_ | (refine aq rfl rfl rfl cx_na rfl ?_;rintro _ G hle ⟨q1,r1,ok1,rfl,hyes,hno⟩;skip)) | refine ar rfl rfl rfl ?_ | refine ac rfl rfl ?_ | refine ad rfl rfl ?_)
 refine jZ (vs:=[_,_,_]) rfl ⟨rfl,rfl,rfl,trivial⟩ rfl ⟨hle,rfl,?_⟩
 rw [bD,hrd]
 exact ⟨_,_,_,rfl,hyes,hno⟩
theorem zC {n : Nat} {u : Value} {vs : List co} {s : List UInt8} {c e : UInt8} (hu : u.oneCell' = true) (hc : c = 110 ∨ c = 116 ∨ c = 102) (hr : aZ (ag vs) [c] = none) (hs : s.length ≤ 1999999) (hn : n ≤ 999) :
  bB Tryz.prog 50 [Ag [u],S (e :: s),S [c],I (n + 1 : Nat)] G (eH (ag vs) (rd (ag vs) (n + 1) [c] (e :: s)) [c]):=by
 have hrd:=lE (ts:=ag vs) (n:=n) (s:=e :: s) hc hr
 have hel : (e :: s).length = s.length + 1:=rfl
 have cx_pl : bB Tryz.prog 85 [Ag [u],S (e :: s),S [c]] G (eH (ag vs) (rd (ag vs) (n + 1) [c] (e :: s)) [c]):=by
  rw [hrd]
  rcases hc with rfl | rfl | rfl
  ·rw [if_pos rfl];exact xE hu oM
  ·rw [if_neg dC,if_pos rfl];exact xD hu oM (by simp)
  ·rw [if_neg dC,if_neg dC];exact xF hu oM
 clear hrd
 rcases hc with rfl | rfl | rfl
 all_goals
  refine jB [(0,_),(1,_),(2,_),(3,_)] Tryz.func50 Tryz.ntmps50 fun B hok hB hW=>?_
  repeat' (first | refine jX ?_ | (refine jo ?_;first | refine jO fun _=>?_ | refine aC rfl ?_ | refine bK rfl ?_ | (refine aq rfl rfl rfl cx_pl rfl ?_;rintro _ G hle ⟨q1,r1,ok1,rfl,hyes,hno⟩;skip)) | refine ar rfl rfl rfl ?_ | refine ad rfl rfl ?_)
  refine jZ (vs:=[_,_,_]) rfl ⟨rfl,rfl,rfl,trivial⟩ rfl ⟨hle,rfl,?_⟩
  rw [bD]
  exact ⟨_,_,_,rfl,hyes,hno⟩
theorem gh {u : Value} {vs : List co} (hw : SchW (ag vs)) : ∀ n,n ≤ 1000 → kN n u vs
 | 0,_=>fun G k s _ _ _=>uA (.inr rfl) oM
 | n + 1,hn=>fun G k s h hk hs=>by
  have hR:=gh (u:=u) (vs:=vs) hw n oM
  match s,hs with
  | [],_=>exact uA (.inl rfl) hn
  | e :: s,hs =>
   simp only [List.length_cons] at hs
   match k,hk with
   | [],hk=>cases hk
   | c :: k,hk =>
    by_cases h1 : c.toNat = 91
    ·obtain rfl:=bV h1 dC
     exact zE hR h hk oM oM
    by_cases h2 : c.toNat = 63
    ·obtain rfl:=bV h2 dC
     exact zD hR h hk oM oM
    have h91 : ¬ (c.toNat = 91 ∨ c.toNat = 63):=fun h=>by rcases h with h | h <;> omega
    cases hr : aZ (ag vs) (c :: k) with
    | some t=>exact zG hR h hw hk hr oM oM
    | none =>
     rcases dS hk h91 hr with e1 | e1 | e1
     all_goals
      simp only [List.cons.injEq] at e1
      obtain ⟨rfl,rfl⟩:=e1
      exact zC h.sl.one (by simp) hr oM oM
theorem jx {s k w : List UInt8} (h : s.length ≤ 1048576 ∧ k.length ≤ 1048576 ∧ w.length ≤ 1048576) (hno : cL s k w = none) : bB Tryz.prog 36 [S s,S k,S w] G (fun v _=>∃ u q,v = Tu [u,.pointer q,Bo false]):=by
 by_cases hk : dh s k = true
 case neg =>
  have hk2 : dh s k = false:=by simpa using hk
  have cx_lk1 : ∀ G,bB Tryz.prog 60 [S s,S k] G (fun v _=>∃ u,v = Tu [u,Bo false]):=fun G=>by
   refine (gX (G:=G) (s:=s) (k:=k) oM oM).mono ?_
   rintro v G' L' ⟨h1,h2,u,vs,rfl,_⟩
   exact ⟨h1,h2,u,by rw [hk2]⟩
  refine jB [(0,_),(1,_),(2,_)] Tryz.func36 Tryz.ntmps36 fun B hok hB hW=>?_
  repeat' (first | refine jR ?_ | (refine jo ?_;first | refine aN rfl ?_ | (refine aq rfl rfl rfl (cx_lk1 _) rfl ?_;rintro _ G hle ⟨u1,rfl⟩;skip)) | refine aH rfl rfl rfl ?_ | refine ac rfl rfl ?_)
  all_goals refine jZ (vs:=[_,_,_]) rfl ⟨rfl,rfl,rfl,trivial⟩ rfl ⟨hle,rfl,?_⟩
  all_goals exact ⟨_,_,rfl⟩
 obtain ⟨ts,hs,hki,hw⟩:=kW hk
 have hvo : cb ts k w = none:=by unfold cL at hno;rw [hs] at hno;dsimp only at hno;rwa [if_pos hki] at hno
 have cx_lka : ∀ G,bB Tryz.prog 60 [S s,S k] G (fun v G'=>∃ a c vs,v = Tu [.slice a vs.length c,Bo true] ∧ SchR G' (.slice a vs.length c) vs ∧ ag vs = ts):=fun G=>by
  refine (gX (G:=G) (s:=s) (k:=k) oM oM).mono ?_
  rintro v G' L' ⟨h1,h2,u,vs,rfl,h4,_,h6⟩
  obtain ⟨_,⟨rfl,h0⟩ | ⟨b,o,cap,rfl,_,_⟩⟩:=h4.sl
  ·exact ⟨h1,h2,none,0,vs,by rw [hk,h0],by rw [h0];exact h4,h6 ts hs hki⟩
  ·exact ⟨h1,h2,_,cap,vs,by rw [hk],h4,h6 ts hs hki⟩
 by_cases hl : w.length ≤ 400
 case neg =>
  refine jB [(0,_),(1,_),(2,_)] Tryz.func36 Tryz.ntmps36 fun B hok hB hW=>?_
  repeat' (first | refine jR ?_ | (refine jo ?_;first | refine aC rfl ?_ | (refine aq rfl rfl rfl (cx_lka _) rfl ?_;rintro _ G hle ⟨av1,cv1,vs1,rfl,hR1,hT1⟩;skip)) | refine ar rfl rfl rfl ?_ | refine ac rfl (ay oM) ?_)
  all_goals refine jZ (vs:=[_,_,_]) rfl ⟨rfl,rfl,rfl,trivial⟩ rfl ⟨hle,rfl,?_⟩
  all_goals exact ⟨_,_,rfl⟩
 refine jB [(0,_),(1,_),(2,_)] Tryz.func36 Tryz.ntmps36 fun B hok hB hW=>?_
 repeat' (first | refine jR ?_ | (refine jo ?_;first | refine aC rfl ?_ | refine jV (ax rfl rfl) ?_ | (refine aq rfl rfl rfl (cx_lka _) rfl ?_;rintro _ G hle ⟨av1,cv1,vs1,rfl,hR1,hT1⟩;skip)) | refine ar rfl rfl rfl ?_ | refine ad rfl (aG oM) ?_)
 have hR:=gh (u:=.slice av1 vs1.length cv1) (vs:=vs1) (by rw [hT1];exact hw) 12 oM G k w hR1 (by rw [hT1];exact hki) oM
 obtain ⟨f,hf⟩ : ∃ f,f = rd (ag vs1) 12 k w:=⟨_,rfl⟩
 rw [← hf] at hR
 have cx_rd:=hR
 clear hR
 repeat' (first | refine jR ?_ | (refine jo ?_;first | refine aN rfl ?_ | refine aC rfl ?_ | (refine aq rfl rfl rfl cx_rd rfl ?_;rintro _ G hle ⟨q1,r1,ok1,rfl,hyes,hno⟩;skip)) | refine mW rfl rfl (fun _=>?_) (fun _=>?_))
 all_goals rename_i hok
 ·have hr : decide (r1 = []) = false:=decide_eq_false fun h=>by
   obtain ⟨v,b,_,h2,_⟩:=hyes hok
   unfold cb at hvo
   rw [if_pos hl,← hT1,← hf,h2,h] at hvo
   cases hvo
  refine jZ (vs:=[_,_,_]) rfl ⟨rfl,rfl,rfl,trivial⟩ rfl ⟨(Gh.le.trans aS hle),rfl,?_⟩
  exact ⟨_,_,by rw [hr];rfl⟩
 ·refine jZ (vs:=[_,_,_]) rfl ⟨rfl,rfl,rfl,trivial⟩ rfl ⟨(Gh.le.trans aS hle),rfl,?_⟩
  exact ⟨_,_,rfl⟩
theorem zL {s k w : List UInt8} {v : V} {ts : List Ty} (h : s.length ≤ 1048576 ∧ k.length ≤ 1048576 ∧ w.length ≤ 1048576) (hs : a7 s = some ts) (hki : aB ts k = true) (hvo : cb ts k w = some v) :
  bB Tryz.prog 36 [S s,S k,S w] G (fun r G'=>∃ u b,r = Tu [u,Pt b 0,Bo true] ∧ RepR G' ts v k b):=by
 have hw:=dE hs
 have hk : dh s k = true:=by unfold dh;rw [hs];exact hki
 have hl : w.length ≤ 400:=by
  by_cases hl : w.length ≤ 400
  ·exact hl
  ·unfold cb at hvo;rw [if_neg hl] at hvo;cases hvo
 have h12 : rd ts 12 k w = some (v,[]):=by
  unfold cb at hvo
  rw [if_pos hl] at hvo
  split at hvo
  ·rename_i v' hv;rw [hv];exact congrArg (fun x=>some (x,[])) (Option.some.inj hvo)
  ·cases hvo
 have cx_lka : ∀ G,bB Tryz.prog 60 [S s,S k] G (fun v G'=>∃ a c vs,v = Tu [.slice a vs.length c,Bo true] ∧ SchR G' (.slice a vs.length c) vs ∧ ag vs = ts):=fun G=>by
  refine (gX (G:=G) (s:=s) (k:=k) oM oM).mono ?_
  rintro v G' L' ⟨h1,h2,u,vs,rfl,h4,_,h6⟩
  obtain ⟨_,⟨rfl,h0⟩ | ⟨b,o,cap,rfl,_,_⟩⟩:=h4.sl
  ·exact ⟨h1,h2,none,0,vs,by rw [hk,h0],by rw [h0];exact h4,h6 ts hs hki⟩
  ·exact ⟨h1,h2,_,cap,vs,by rw [hk],h4,h6 ts hs hki⟩
 refine jB [(0,_),(1,_),(2,_)] Tryz.func36 Tryz.ntmps36 fun B hok hB hW=>?_
 repeat' (first | refine jR ?_ | (refine jo ?_;first | refine aC rfl ?_ | refine jV (ax rfl rfl) ?_ | (refine aq rfl rfl rfl (cx_lka _) rfl ?_;rintro _ G hle ⟨av1,cv1,vs1,rfl,hR1,hT1⟩;skip)) | refine ar rfl rfl rfl ?_ | refine ad rfl (aG oM) ?_)
 subst hT1
 have cx_rd : bB Tryz.prog 50 [Ag [.slice av1 vs1.length cv1],S w,S k,I (12 : Nat)] G (fun r G'=>∃ b,r = Tu [Pt b 0,S [],Bo true] ∧ RepR G' (ag vs1) v k b):=by
  refine (gh (u:=.slice av1 vs1.length cv1) (vs:=vs1) hw 12 oM G k w hR1 hki oM).mono ?_
  rintro r G' L' ⟨h1,h2,q,rest,ok,rfl,h3,h4⟩
  cases ok with
  | false=>rw [h12] at h4;cases h4 rfl
  | true =>
   obtain ⟨v',b,rfl,h5,h6⟩:=h3 rfl
   rw [h12] at h5
   simp only [Option.some.injEq,Prod.mk.injEq] at h5
   obtain ⟨rfl,rfl⟩:=h5
   exact ⟨h1,h2,b,rfl,h6⟩
 refine jo ?_
 refine aq rfl rfl rfl cx_rd rfl ?_
 rintro _ G2 hle2 ⟨b,rfl,hrep⟩
 repeat' (first | refine jR ?_ | (refine jo ?_;refine aN rfl ?_) | refine aH rfl rfl rfl ?_)
 refine jZ (vs:=[_,_,_]) rfl ⟨rfl,rfl,rfl,trivial⟩ rfl ⟨(Gh.le.trans hle hle2),rfl,?_⟩
 exact ⟨_,b,rfl,hrep⟩
theorem j4 {x : List UInt8} : ∀ {xs : List (List UInt8)} {ps : List Int},cC xs = some ps → cC (xs ++ [x]) = (aK x 999999).map fun n=>ps ++ [n]
 | [],ps,h=>by
  simp only [cC,Option.some.injEq] at h;subst h
  simp only [List.nil_append,cC]
  cases aK x 999999 <;> rfl
 | y :: ys,ps,h=>by
  unfold cC at h
  cases hn : aK y 999999 with
  | none=>rw [hn] at h;cases h
  | some n =>
   rw [hn] at h
   dsimp only at h
   cases hs : cC ys with
   | none=>rw [hs] at h;cases h
   | some q =>
    rw [hs] at h
    simp only [Option.map_some,Option.some.injEq] at h
    subst h
    rw [List.cons_append]
    unfold cC
    rw [hn]
    dsimp only
    rw [j4 hs]
    cases aK x 999999 <;> rfl
theorem oU {x : List UInt8} {ys : List (List UInt8)} (h : aK x 999999 = none) : ∀ {xs : List (List UInt8)},cC (xs ++ x :: ys) = none
 | []=>by simp only [List.nil_append,cC,h]
 | y :: xs=>by
  rw [List.cons_append]
  unfold cC
  cases aK y 999999 with
  | none=>rfl
  | some n=>dsimp only;rw [oU h];rfl
abbrev abz : TypeId:=3
def wM (s : List UInt8) (v : Value) (G : Gh) : Prop:=∃ a c n,v = Tu [.slice a n c,Bo (cS s).isSome] ∧ ∀ p,cS s = some p → n = p.length ∧ aP G (.slice a n c) 1 p.length (aj cB p)
theorem mO {s : List UInt8} (h : s ≠ []) : cS s = match cC (aY 47 s) with
  | some p=>if p.length ≤ 8 then some p else none
  | none=>none:=by
 unfold cS;rw [if_neg h]
 all_goals (cases cC (aY 47 s) <;> rfl)
theorem pn {s : List UInt8} (h : s ≠ []) {i : Nat} (hi : i < (aY 47 s).length) (hn : aK (ab (aY 47 s) i) 999999 = none) : cS s = none:=by
 rw [mO h]
 have e : aY 47 s = (aY 47 s).take i ++ ab (aY 47 s) i :: (aY 47 s).drop (i + 1):=by
  rw [aA hi,List.getElem_cons_drop,List.take_append_drop]
 rw [e,oU hn]
theorem sT {s : List UInt8} (h : s.length ≤ 1048576) : bB Tryz.prog 38 [S s] G (wM s):=by
 by_cases h0 : s = []
 ·subst h0
  refine jB [(0,_)] Tryz.func38 Tryz.ntmps38 fun B hok hB hW=>?_
  repeat' (first | refine jR ?_ | (refine jo ?_;refine jF fun _=>?_) | refine ac rfl rfl ?_)
  rename_i x
  refine Nx.blkAcc (m:=0) (sz:=1) .here rfl ?_
  refine Nx.sealS (v:=.slice (some ⟨x,0,none⟩) 0 0) fun G2 hG2 hsl=>?_
  refine jZ (vs:=[_,_]) rfl ⟨rfl,rfl,trivial⟩ rfl ⟨hG2,rfl,?_⟩
  exact ⟨_,_,_,rfl,fun p hp=>by
   obtain rfl : p = []:=by unfold cS at hp;simpa using hp.symm
   exact ⟨rfl,hsl⟩⟩
 have cx_cutS : bB Tryz.prog 65 [S s,U8 47] G (fun v G'=>aP G' v 1 (aY 47 s).length (aj cm (aY 47 s))):=ma (k:=47) oM
 have hcl:=hO (k:=47) (s:=s)
 have hbad:=fun {i : Nat}=>pn h0 (i:=i)
 have hpo:=mO h0
 have hxl : ∀ i,i < (aY 47 s).length → (ab (aY 47 s) i).length ≤ 100000000:=fun i hi=>by
  have:=c5 (be hi)
  omega
 generalize aY 47 s = xs at *
 refine jB [(0,_)] Tryz.func38 Tryz.ntmps38 fun B hok hB hW=>?_
 repeat' (first | refine jR ?_ | (refine jo ?_;first | refine jF fun _=>?_ | (refine aq rfl rfl rfl cx_cutS rfl ?_;rintro _ G hle hcut;skip)) | refine ad rfl (aG ‹_›) ?_)
 rename_i x _
 obtain ⟨la,lc,rfl⟩:=hcut.sl
 refine Nx.blkAcc (m:=0) (sz:=1) .here rfl ?_
 refine aV (ι:=List Int × Option Addr × Nat × Nat) (fun j=>(j.1.length = j.2.2.2 ∧ j.2.2.2 ≤ xs.length) ∧ cC (xs.take j.2.2.2) = some j.1) (fun j=>[(4,.slice j.2.1 j.1.length j.2.2.1),(5,.slice la xs.length lc),(6,I j.2.2.2)]) (fun _=>G) (fun j=>[.acc (.slice j.2.1 j.1.length j.2.2.1) abz 1 j.1.length (aj cB j.1)]) (fun j=>xs.length - j.2.2.2) ([],some ⟨x,0,none⟩,0,0) ?_ tU rfl a8 (fun j Hj=>?_)
 ·exact ⟨⟨rfl,Nat.zero_le _⟩,rfl⟩
 obtain ⟨ps,a,c,i⟩:=j
 dsimp only at Hj ⊢
 obtain ⟨⟨hpl,hi0⟩,hst⟩:=Hj
 by_cases hi : i < xs.length
 ·obtain ⟨bl,ol,cl,e,hsx⟩:=hcut.expl oM
  simp only [Value.slice.injEq] at e
  obtain ⟨rfl,-,rfl⟩:=e
  have hxl1:=hxl i hi
  cases hn : aK (ab xs i) 999999 with
  | none =>
   have hno:=hbad hi hn
   have hns : (!(aK (ab xs i) 999999).isSome) = true:=by rw [hn];rfl
   repeat' (first | refine jR ?_ | (refine jo ?_;first | refine jV (af rfl) ?_ | refine jV (ak rfl rfl oM) ?_ | (refine jV (eD rfl rfl aS ?_) ?_;focus omega) | (refine eh rfl rfl rfl (hY oM) rfl ?_;rintro _ ⟨n,rfl,hnum⟩)) | (refine ac rfl (by first | assumption | (refine decide_eq_true ?_;(omega))) ?_))
   all_goals refine jZ (vs:=[_,_]) rfl ⟨rfl,rfl,trivial⟩ rfl ⟨hle,rfl,?_⟩
   all_goals exact ⟨_,_,_,by rw [hno];rfl,fun p hp=>by rw [hno] at hp;cases hp⟩
  | some m =>
   have hns : (!(aK (ab xs i) 999999).isSome) = false:=by rw [hn];rfl
   repeat' (first | refine jM ?_ | (refine jo ?_;first | refine jF fun _=>?_ | refine jV (af rfl) ?_ | refine jV (ak rfl rfl oM) ?_ | (refine jV (eD rfl rfl aS ?_) ?_;focus omega) | refine bC rfl rfl rfl rfl rfl rfl rfl rfl rfl oM fun _ _=>?_ | (refine eh rfl rfl rfl (hY oM) rfl ?_;rintro _ ⟨n,rfl,hnum⟩)) | refine ac rfl (ay oM) ?_ | refine ad rfl ‹_› ?_)
   rename_i y1 yc
   have hmn:=hnum m hn
   subst hmn
   have hst2 : cC (xs.take (i + 1)) = some (ps ++ [n]):=by rw [cD hi,j4 hst,hn];rfl
   have hl1 : (ps ++ [n]).length = ps.length + 1:=by simp
   rw [show aj cB ps ++ [I n] = aj cB (ps ++ [n]) from (bO cB ps n).symm]
   exact bj (ps ++ [n],some ⟨y1,0,none⟩,yc,i + 1) ⟨⟨by dsimp only;omega,by dsimp only;omega⟩,hst2⟩ (by dsimp only;omega) (by rw [hl1];repeat (first | exact trivial | refine ⟨rfl,?_⟩)) rfl (by rw [hl1];repeat (first | exact List.nil_sublist _ | apply List.Sublist.cons_cons))
 ·rw [List.take_of_length_le oM] at hst
  rw [hst] at hpo
  dsimp only at hpo
  repeat' (first | refine jR ?_ | (refine jo ?_;refine jV (af rfl) ?_) | refine ad rfl (aG oM) ?_)
  refine Nx.sealS (v:=.slice a ps.length c) fun G2 hG2 hsl=>?_
  refine jZ (vs:=[_,_]) rfl ⟨rfl,rfl,trivial⟩ rfl ⟨hle.trans hG2,rfl,?_⟩
  have e8 : decide (((xs.length : Nat) : Int) ≤ 8) = (cS s).isSome:=by
   rw [hpo]
   by_cases h8 : ps.length ≤ 8
   ·rw [if_pos h8];exact decide_eq_true oM
   ·rw [if_neg h8];exact decide_eq_false oM
  refine ⟨_,_,_,by rw [e8];rfl,fun p hp=>?_⟩
  rw [hpo] at hp
  split at hp
  ·simp only [Option.some.injEq] at hp;subst hp;exact ⟨rfl,hsl⟩
  ·cases hp
theorem aal {ts : List Ty} {c : UInt8} {r : List UInt8} (h : c.toNat ≠ 64) : aZ ts (c :: r) = none:=by
 cases h2 : aZ ts (c :: r) with
 | none=>rfl
 | some t=>exact (cZ h2 rfl h).elim
theorem xu {p : Nat → Prop} {n : Nat} (h : ∃ j,j < n ∧ p j) : ∃ j,j < n ∧ p j ∧ ∀ i,i < j → ¬ p i:=by
 obtain ⟨j,hj,hp⟩:=h
 induction j using Nat.strongRecOn with
 | _ j ih =>
  by_cases hc : ∃ i,i < j ∧ p i
  ·obtain ⟨i,hi,hpi⟩:=hc
   exact ih i hi oM hpi
  ·exact ⟨j,hj,hp,fun i hi hpi=>hc ⟨i,hi,hpi⟩⟩
theorem od {f : Fld} : ∀ {fs : List (Fld × V)} {j : Nat},j < fs.length → (ab fs j).1.tag = f.tag → (∀ i,i < j → (ab fs i).1.tag ≠ f.tag) → cn f (fs.map aw) = some (ab fs j).2
 | [],j,hj,_,_=>by simp at hj
 | p :: fs,0,_,ht,_=>by
  rw [List.map_cons,cn,if_pos (show (aw p).tag = f.tag from ht)];rfl
 | p :: fs,j + 1,hj,ht,hno=>by
  rw [List.map_cons,cn,if_neg (show ¬ (aw p).tag = f.tag from hno 0 oM)]
  exact od (fs:=fs) (j:=j) (by simpa using hj) ht fun i hi=>hno (i + 1) oM
theorem oc {f : Fld} : ∀ {fs : List (Fld × V)},(∀ i,i < fs.length → (ab fs i).1.tag ≠ f.tag) → cn f (fs.map aw) = none
 | [],_=>rfl
 | p :: fs,h=>by
  rw [List.map_cons,cn,if_neg (show ¬ (aw p).tag = f.tag from h 0 (by simp))]
  exact oc fun i hi=>h (i + 1) (by simpa using hi)
theorem iA {ts : List Ty} {k w : List UInt8} {v : V} (h : cb ts k w = some v) : rd ts 12 k w = some (v,[]) ∧ w.length ≤ 400:=by
 unfold cb at h
 split at h
 ·rename_i hl
  split at h
  ·rename_i v' hv;rw [hv];exact ⟨congrArg (fun x=>some (x,[])) (Option.some.inj h),hl⟩
  ·cases h
 ·cases h
theorem acg {b j : Nat} {k : List UInt8} {tg : List Int} {bs : List Nat} {a a2 : Option Addr} {c c2 : Nat} {n : Int} (hl : bs.length = tg.length) (h9 : tg.length ≤ 100000) (hs : b7 G b 0 [S k,S [82],.slice a tg.length c,.slice a2 tg.length c2]) (h1 : aP G (.slice a tg.length c) 1 tg.length (aj cB tg)) (h2 : aP G (.slice a2 tg.length c2) 1 tg.length (aj dl bs)) (hj : j < tg.length) (hjn : ab tg j = n) (hno : ∀ i,i < j → ab tg i ≠ n) :
  a9 Tryz.prog 100 [Pt b 0,I n] G (· = Tu [Pt (ab bs j) 0,Bo true]):=by
 obtain ⟨xb,xo,xc,e,hs1⟩:=h1.expl oM
 simp only [Value.slice.injEq] at e
 obtain ⟨rfl,-,rfl⟩:=e
 obtain ⟨zb,zo,zc,e,hs2⟩:=h2.expl oM
 simp only [Value.slice.injEq] at e
 obtain ⟨rfl,-,rfl⟩:=e
 refine jE [(0,_),(1,_)] Tryz.func100 Tryz.ntmps100 fun B hB=>?_
 repeat' (refine jR ?_)
 refine aV (ι:=Nat) (fun i=>i ≤ j) (fun i=>[(0,Pt b 0),(1,I n),(6,I i)]) (fun _=>G) (fun i=>[]) (fun i=>j - i) 0 ?_ tU rfl a8 (fun i Hi=>?_)
 ·exact Nat.zero_le _
 have hxi : ab bs i = ab bs i:=rfl
 have hti : ab tg i = ab tg i:=rfl
 by_cases hij : i = j
 ·subst hij
  repeat' (first | refine jR ?_ | (refine jo ?_;first | refine jV (ah rfl rfl aS rfl rfl) ?_ | (refine jV (bU rfl rfl aS ?_ aS rfl) ?_;focus omega) | refine jV (af rfl) ?_ | refine aN rfl ?_ | refine jV (ak rfl rfl oM) ?_) | refine aH rfl rfl (ay oM) ?_ | (refine ac rfl (by first | rfl | (refine decide_eq_true ?_;(rfl))) ?_))
  all_goals refine jY (vs:=[_,_]) ?_
  all_goals rfl
 ·have h3:=hno i oM
  repeat' (first | refine jM ?_ | (refine jo ?_;first | refine jV (ah rfl rfl aS rfl rfl) ?_ | (refine jV (bU rfl rfl aS ?_ aS rfl) ?_;focus omega) | refine jV (af rfl) ?_ | refine aN rfl ?_ | refine jV (ak rfl rfl oM) ?_) | refine aH rfl rfl (ay oM) ?_ | refine ac rfl rfl ?_ | refine ad rfl (aG ‹_›) ?_)
  exact bj (i + 1) (show i + 1 ≤ j by have : i ≤ j:=Hi;omega) (by have : i ≤ j:=Hi;omega) tU rfl a8
theorem ach {b : Nat} {k : List UInt8} {tg : List Int} {a a2 : Option Addr} {c c2 : Nat} {n : Int} (h9 : tg.length ≤ 100000) (hs : b7 G b 0 [S k,S [82],.slice a tg.length c,.slice a2 tg.length c2]) (h1 : aP G (.slice a tg.length c) 1 tg.length (aj cB tg)) (hno : ∀ i,i < tg.length → ab tg i ≠ n) :
  a9 Tryz.prog 100 [Pt b 0,I n] G (· = Tu [.pointer none,Bo false]):=by
 refine jE [(0,_),(1,_)] Tryz.func100 Tryz.ntmps100 fun B hB=>?_
 repeat' (refine jR ?_)
 refine aV (ι:=Nat) (fun i=>i ≤ tg.length) (fun i=>[(0,Pt b 0),(1,I n),(6,I i)]) (fun _=>G) (fun i=>[]) (fun i=>tg.length - i) 0 ?_ tU rfl a8 (fun i Hi=>?_)
 ·exact Nat.zero_le _
 by_cases hi : i < tg.length
 ·obtain ⟨xb,xo,xc,e,hs1⟩:=h1.expl oM
  simp only [Value.slice.injEq] at e
  obtain ⟨rfl,-,rfl⟩:=e
  have h3:=hno i hi
  have hti : ab tg i = ab tg i:=rfl
  repeat' (first | refine jM ?_ | (refine jo ?_;first | refine jV (ah rfl rfl aS rfl rfl) ?_ | (refine jV (bU rfl rfl aS ?_ aS rfl) ?_;focus omega) | refine jV (af rfl) ?_ | refine aN rfl ?_ | refine jV (ak rfl rfl oM) ?_) | refine aH rfl rfl (ay oM) ?_ | refine ac rfl rfl ?_ | refine ad rfl (aG ‹_›) ?_)
  exact bj (i + 1) oM oM tU rfl a8
 ·repeat' (first | refine jR ?_ | (refine jo ?_;first | refine jV (ah rfl rfl aS rfl rfl) ?_ | refine jV (af rfl) ?_ | refine aC rfl ?_) | refine ar rfl rfl (aG oM) ?_ | refine ad rfl rfl ?_)
  all_goals refine jY (vs:=[_,_]) ?_
  all_goals rfl
theorem pI {u : Value} {x : co} {k : List UInt8} {n : Int} (hu : u.oneCell' = true) (hf : aP G (ge x) 4 x.2.fields.length (aj gU x.2.fields)) (hl : x.2.fields.length ≤ 1000) (cx_rf : a9 Tryz.prog 116 [u,S k] G (· = Tu [Ag [U8 x.2.sort,S x.2.name,ge x],Bo true])) (hso : x.2.sort = 82) :
  a9 Tryz.prog 86 [u,S k,I n] G (· = Tu [Ag (gU ((ci x.2.fields n).getD zF)),Bo (ci x.2.fields n).isSome]):=by
 have cx_fld:=s8 (tag:=n) hf hl
 obtain ⟨⟨a,ca⟩,⟨so,nm,fs⟩⟩:=x
 dsimp only at hso cx_fld cx_rf ⊢
 subst hso
 dsimp only [ge] at cx_fld cx_rf ⊢
 cases hg : ci fs n with
 | none =>
  rw [hg] at cx_fld
  simp only [Option.getD_none,Option.isSome_none] at cx_fld ⊢
  refine jE [(0,_),(1,_),(2,_)] Tryz.func86 Tryz.ntmps86 fun B hB=>?_
  repeat' (first | refine jR ?_ | (refine jo ?_;first | refine jL fun _=>?_ | refine jC rfl rfl rfl ?_ | refine bK rfl ?_ | refine ae rfl rfl rfl cx_rf rfl ?_ | refine ae rfl rfl rfl cx_fld rfl ?_) | (refine am (dV (id:=3) (tt:=6) rfl al ?_);refine jW 10 [1,2] (aa 12 6) ?_;(try (refine Nx.re (d:=26) (v':=Bo true) rfl (congrArg Value.bool rfl) ?_));refine jW 9 [3] (aa 12 14) ?_;(refine jG (aa 12 15) 0 rfl (bM rfl rfl rfl rfl) ?_);((refine jG (aa 12 31) 4 rfl (bL rfl rfl ?_) ?_;(focus ((rfl);done))));refine jW 6 [5] (aa 12 63) ?_;(try (refine Nx.re (d:=29) (v':=Bo false) rfl (congrArg Value.bool rfl) ?_));refine jW 5 [6] (aa 12 127) ?_;(refine jN (aa 12 255) 7 rfl ?_);refine jW 3 [8] (aa 12 511) ?_;((refine jG (aa 12 1023) 9 rfl (bi rfl rfl ?_) ?_;(focus ((rfl);done))));refine jA 10 rfl ?_;(refine jC rfl rfl rfl ?_);refine jK (aa 12 2047) ?_;refine jW 0 [11] (aa 12 4095) ?_;refine jQ ?_))
  all_goals refine jZ (vs:=[_,_]) rfl ⟨aJ rfl rfl rfl rfl,rfl,trivial⟩ rfl ⟨rfl,rfl,?_⟩
  all_goals rfl
 | some f =>
  rw [hg] at cx_fld
  simp only [Option.getD_some,Option.isSome_some] at cx_fld ⊢
  refine jE [(0,_),(1,_),(2,_)] Tryz.func86 Tryz.ntmps86 fun B hB=>?_
  repeat' (first | refine jR ?_ | (refine jo ?_;first | refine jL fun _=>?_ | refine jC rfl rfl rfl ?_ | refine bK rfl ?_ | refine ae rfl rfl rfl cx_rf rfl ?_ | refine ae rfl rfl rfl cx_fld rfl ?_) | (refine am (dV (id:=3) (tt:=6) rfl al ?_);refine jW 10 [1,2] (aa 12 6) ?_;(try (refine Nx.re (d:=26) (v':=Bo true) rfl (congrArg Value.bool rfl) ?_));refine jW 9 [3] (aa 12 14) ?_;(refine jG (aa 12 15) 0 rfl (bM rfl rfl rfl rfl) ?_);((refine jG (aa 12 31) 4 rfl (bL rfl rfl ?_) ?_;(focus ((rfl);done))));refine jW 6 [5] (aa 12 63) ?_;(try (refine Nx.re (d:=29) (v':=Bo true) rfl (congrArg Value.bool rfl) ?_));refine jW 5 [6] (aa 12 127) ?_;(refine jG (aa 12 255) 7 rfl (aT rfl rfl rfl) ?_);refine jW 3 [8] (aa 12 511) ?_;((refine jG (aa 12 1023) 9 rfl (bL rfl rfl ?_) ?_;(focus ((rfl);done))));refine jA 10 rfl ?_;(refine jC rfl rfl rfl ?_);refine jK (aa 12 2047) ?_;refine jW 0 [11] (aa 12 4095) ?_;refine jQ ?_))
  all_goals refine jZ (vs:=[_,_]) rfl ⟨aJ rfl rfl rfl rfl,rfl,trivial⟩ rfl ⟨rfl,rfl,?_⟩
  all_goals rfl
def gC (ts : List Ty) (o : Option (List UInt8 × V)) (r : Value) (G' : Gh) : Prop:=(o = none ∧ ∃ q,r = Tu [.pointer q,Bo false]) ∨ ∃ k' v' b',o = some (k',v') ∧ r = Tu [Pt b' 0,Bo true] ∧ RepR G' ts v' k' b'
theorem gC.no {f : FuncId} {args : List Value} {ts : List Ty} {o : Option (List UInt8 × V)} (h : bB Tryz.prog f args G (gC ts o)) (e : o = none) : bB Tryz.prog f args G (fun r _=>∃ q,r = Tu [.pointer q,Bo false]):=by
 refine h.mono ?_
 rintro v G' L' ⟨h1,h2,⟨_,h3⟩ | ⟨k',v',b',h3,_⟩⟩
 ·exact ⟨h1,h2,h3⟩
 ·rw [e] at h3;cases h3
theorem gC.yes {f : FuncId} {args : List Value} {ts : List Ty} {o : Option (List UInt8 × V)} {k' : List UInt8} {v' : V} (h : bB Tryz.prog f args G (gC ts o)) (e : o = some (k',v')) : bB Tryz.prog f args G (fun r G'=>∃ b',r = Tu [Pt b' 0,Bo true] ∧ RepR G' ts v' k' b'):=by
 refine h.mono ?_
 rintro v G' L' ⟨h1,h2,⟨h3,_⟩ | ⟨k2,v2,b',h3,h4,h5⟩⟩
 ·rw [e] at h3;cases h3
 ·rw [e] at h3
  simp only [Option.some.injEq,Prod.mk.injEq] at h3
  obtain ⟨rfl,rfl⟩:=h3
  exact ⟨h1,h2,b',h4,h5⟩
theorem iN {ts : List Ty} {c : UInt8} {r : List UInt8} {v : V} {n : Int} (h1 : c.toNat ≠ 91) (h2 : c.toNat ≠ 63) (h3 : c.toNat ≠ 64) : aE ts (c :: r) v n = none:=by
 unfold aE;dsimp only;rw [if_neg (fun h=>by rcases h with h | h;exact h1 h;exact h2 h),aal h3]
theorem gc {ts : List Ty} {c : UInt8} {r : List UInt8} {v : V} {n : Int} (h : c.toNat = 91 ∨ c.toNat = 63) : aE ts (c :: r) v n = if n < (v.kids.length : Nat) then some (r,ab v.kids n.toNat) else none:=by
 unfold aE;dsimp only;rw [if_pos h]
theorem g0 {ts : List Ty} {k : List UInt8} {v : V} {n : Int} {t : Ty} (h : aZ ts k = some t) : aE ts k v n = match ci t.fields n with
  | none=>none
  | some f=>if t.sort = 69 then none else if t.sort = 82 then some (f.kind,dI ts v f) else if v.tag = n then some (f.kind,ab v.kids 0) else none:=by
 obtain ⟨r,rfl⟩:=df h
 unfold aE;dsimp only;rw [if_neg dC,h]
 all_goals rfl
theorem nC {u : Value} {vs : List co} (h : SchR G u vs) (hw : SchW (ag vs)) {k : List UInt8} {v : V} {b : Nat} (hr : RepR G (ag vs) v k b) (ho : OfK (ag vs) k v) (hki : aB (ag vs) k = true) {n : Int} (hn : 0 ≤ n ∧ n ≤ 999999) (htt : v.tot ≤ 1000000) :
  bB Tryz.prog 63 [u,Pt b 0,I n] G (gC (ag vs) (aE (ag vs) k v n)):=by
 have hu:=h.sl.one
 obtain ⟨ua,uc,rfl⟩:=h.sl.sl
 cases hr with
 | leaf w x k tx b h1 h2 =>
  have hn82 : ¬ tx = [82]:=by
   rcases h2 with ⟨_,_,rfl,h⟩ | ⟨_,_,rfl⟩ | ⟨_,_,rfl,h⟩
   ·rintro rfl;exact absurd (h 82 (by simp)) dC
   ·simp
   ·rcases h with rfl | rfl <;> decide
  have hn85 : ¬ tx = [85]:=by
   rcases h2 with ⟨_,_,rfl,h⟩ | ⟨_,_,rfl⟩ | ⟨_,_,rfl,h⟩
   ·rintro rfl;exact absurd (h 85 (by simp)) dC
   ·simp
   ·rcases h with rfl | rfl <;> decide
  have hno : aE (ag vs) k (.nd w x 0 []) n = none:=by
   rcases h2 with ⟨_,rfl,_⟩ | ⟨_,rfl,_⟩ | ⟨_,rfl,_⟩
   all_goals exact iN dC dC dC
  rw [hno]
  rcases h2 with ⟨rfl,rfl,_⟩ | ⟨rfl,rfl,_⟩ | ⟨rfl,rfl,_⟩
  all_goals
   refine jB [(0,_),(1,_),(2,_)] Tryz.func63 Tryz.ntmps63 fun B hok hB hW=>?_
   repeat' (first | refine jX ?_ | (refine jo ?_;first | refine jV (ah rfl rfl aS rfl rfl) ?_ | refine aC rfl ?_) | (refine ar rfl rfl (by first | rfl | (refine decide_eq_false ?_;(assumption))) ?_) | refine ad rfl rfl ?_)
   all_goals refine jZ (vs:=[_,_]) rfl ⟨rfl,rfl,trivial⟩ rfl ⟨Gh.le.refl _,rfl,?_⟩
   all_goals exact .inl ⟨rfl,_,rfl⟩
 | lst k b ks bs a c h1 h2 h3 hk =>
  have hk0 : bt (91 :: k) (Int.toNat 0) = 91:=bh 91 k
  have hkl2 : (91 :: k).length = k.length + 1:=rfl
  have hst:=gc (ts:=ag vs) (c:=91) (r:=k) (v:=.nd 91 [] 0 ks) (n:=n) (.inl rfl)
  rw [V.kids] at hst
  rw [hst]
  by_cases hn2 : n < ((ks.length : Nat) : Int)
  ·obtain ⟨i,rfl⟩ : ∃ i : Nat,n = i:=⟨n.toNat,oM⟩
   obtain ⟨kb,ko,kc,e,hs⟩:=h2.expl oM
   simp only [Value.slice.injEq] at e
   obtain ⟨rfl,-,rfl⟩:=e
   have hxi : ab bs i = ab bs i:=rfl
   rw [if_pos hn2]
   refine jB [(0,_),(1,_),(2,_)] Tryz.func63 Tryz.ntmps63 fun B hok hB hW=>?_
   repeat' (first | refine jM ?_ | (refine jo ?_;first | refine jV (ah rfl rfl aS rfl rfl) ?_ | (refine jV (bU rfl rfl aS ?_ aS rfl) ?_;focus omega) | refine aN rfl ?_ | refine jV (af rfl) ?_ | refine jV (ak rfl rfl oM) ?_) | refine aH rfl rfl rfl ?_ | refine ac rfl rfl ?_ | refine ad rfl (aG oM) ?_)
   all_goals refine jZ (vs:=[_,_]) rfl ⟨rfl,rfl,trivial⟩ rfl ⟨Gh.le.refl _,rfl,?_⟩
   all_goals exact .inr ⟨_,_,ab bs i,rfl,rfl,hk i oM⟩
  ·rw [if_neg hn2]
   refine jB [(0,_),(1,_),(2,_)] Tryz.func63 Tryz.ntmps63 fun B hok hB hW=>?_
   repeat' (first | refine jM ?_ | (refine jo ?_;first | refine jV (ah rfl rfl aS rfl rfl) ?_ | refine aN rfl ?_ | refine jV (af rfl) ?_) | refine aH rfl rfl rfl ?_ | (refine ac rfl (by first | rfl | (refine decide_eq_true ?_;(omega))) ?_))
   all_goals refine jZ (vs:=[_,_]) rfl ⟨rfl,rfl,trivial⟩ rfl ⟨Gh.le.refl _,rfl,?_⟩
   all_goals exact .inl ⟨rfl,_,rfl⟩
 | non k b h1 =>
  have hk0 : bt (63 :: k) (Int.toNat 0) = 63:=bh 63 k
  have hkl2 : (63 :: k).length = k.length + 1:=rfl
  have hst:=gc (ts:=ag vs) (c:=63) (r:=k) (v:=.nd 63 [] 0 []) (n:=n) (.inr rfl)
  rw [V.kids,if_neg (by simp;omega)] at hst
  rw [hst]
  refine jB [(0,_),(1,_),(2,_)] Tryz.func63 Tryz.ntmps63 fun B hok hB hW=>?_
  repeat' (first | refine jM ?_ | (refine jo ?_;first | refine jV (ah rfl rfl aS rfl rfl) ?_ | refine aC rfl ?_ | refine jV (af rfl) ?_) | refine ar rfl rfl rfl ?_ | (refine ac rfl (by first | rfl | (refine decide_eq_true ?_;(omega))) ?_))
  all_goals refine jZ (vs:=[_,_]) rfl ⟨rfl,rfl,trivial⟩ rfl ⟨Gh.le.refl _,rfl,?_⟩
  all_goals exact .inl ⟨rfl,_,rfl⟩
 | opt k b kb b' cc w h0 h1 h2 h3 =>
  have hk0 : bt (63 :: k) (Int.toNat 0) = 63:=bh 63 k
  have hkl2 : (63 :: k).length = k.length + 1:=rfl
  have hst:=gc (ts:=ag vs) (c:=63) (r:=k) (v:=.nd 63 [] 0 [w]) (n:=n) (.inr rfl)
  rw [V.kids] at hst
  rw [hst]
  by_cases hn2 : n = 0
  ·subst hn2
   rw [if_pos (by simp)]
   refine jB [(0,_),(1,_),(2,_)] Tryz.func63 Tryz.ntmps63 fun B hok hB hW=>?_
   repeat' (first | refine jM ?_ | (refine jo ?_;first | refine jV (ah rfl rfl aS rfl rfl) ?_ | refine aC rfl ?_ | refine jV (af rfl) ?_ | refine jV (aM rfl rfl oM) ?_) | refine ar rfl rfl rfl ?_ | refine ac rfl rfl ?_ | refine ad rfl rfl ?_)
   all_goals refine jZ (vs:=[_,_]) rfl ⟨rfl,rfl,trivial⟩ rfl ⟨Gh.le.refl _,rfl,?_⟩
   all_goals exact .inr ⟨_,_,b',rfl,rfl,h3⟩
  ·rw [if_neg (by simp;omega)]
   refine jB [(0,_),(1,_),(2,_)] Tryz.func63 Tryz.ntmps63 fun B hok hB hW=>?_
   repeat' (first | refine jM ?_ | (refine jo ?_;first | refine jV (ah rfl rfl aS rfl rfl) ?_ | refine aC rfl ?_ | refine jV (af rfl) ?_) | refine ar rfl rfl rfl ?_ | (refine ac rfl (by first | rfl | (refine decide_eq_true ?_;(omega))) ?_))
   all_goals refine jZ (vs:=[_,_]) rfl ⟨rfl,rfl,trivial⟩ rfl ⟨Gh.le.refl _,rfl,?_⟩
   all_goals exact .inl ⟨rfl,_,rfl⟩
 | enm k b tgb t d h0 h1 h2 h3 =>
  have hst:=g0 (v:=.nd 69 [] d.tag []) (n:=n) h0.1
  have hno : aE (ag vs) k (.nd 69 [] d.tag []) n = none:=by
   rw [hst]
   cases ci t.fields n with
   | none=>rfl
   | some f=>dsimp only;rw [if_pos h0.2]
  rw [hno]
  obtain ⟨r,rfl⟩:=df h0.1
  have hk0 : bt (64 :: r) (Int.toNat 0) = 64:=bh 64 r
  have hkl2 : (64 :: r).length = r.length + 1:=rfl
  refine jB [(0,_),(1,_),(2,_)] Tryz.func63 Tryz.ntmps63 fun B hok hB hW=>?_
  repeat' (first | refine jM ?_ | (refine jo ?_;first | refine jV (ah rfl rfl aS rfl rfl) ?_ | refine aC rfl ?_) | refine ar rfl rfl rfl ?_ | refine ad rfl rfl ?_)
  all_goals refine jZ (vs:=[_,_]) rfl ⟨rfl,rfl,trivial⟩ rfl ⟨Gh.le.refl _,rfl,?_⟩
  all_goals exact .inl ⟨rfl,_,rfl⟩
 | uni k b tgb kb b' cc t d w hcc h0 h1 h2 h3 h4 hk =>
  have hst:=g0 (v:=.nd 85 [] d.tag [w]) (n:=n) h0.1
  have hTW:=hw.ty _ (bn h0.1)
  have hso:=h0.2
  obtain ⟨r,rfl⟩:=df h0.1
  have hk0 : bt (64 :: r) (Int.toNat 0) = 64:=bh 64 r
  have hkl2 : (64 :: r).length = r.length + 1:=rfl
  by_cases hdn : d.tag = n
  ·have hyes : aE (ag vs) (64 :: r) (.nd 85 [] d.tag [w]) n = some (d.kind,w):=by
    rw [hst,← hdn,gn hTW h1]
    dsimp only
    rw [if_neg oM,if_neg oM,if_pos (show V.tag (.nd 85 [] d.tag [w]) = d.tag from rfl)];rfl
   rw [hyes]
   refine jB [(0,_),(1,_),(2,_)] Tryz.func63 Tryz.ntmps63 fun B hok hB hW=>?_
   repeat' (first | refine jM ?_ | (refine jo ?_;first | refine jV (ah rfl rfl aS rfl rfl) ?_ | refine aN rfl ?_ | refine aC rfl ?_) | refine aH rfl rfl rfl ?_ | refine ar rfl rfl rfl ?_ | refine ac rfl rfl ?_ | refine ad rfl rfl ?_)
   (refine am (an (id:=6) _ (fun _ h=>h) al ?_);refine jT 9 [0,1,2,6,7,8,12] (aa 16 4551) ?_;(refine jG (aa 16 4559) 3 rfl (ah rfl rfl aS rfl rfl) ?_);(refine jG (aa 16 4575) 4 rfl (aM rfl rfl oM) ?_);(refine jG (aa 16 4607) 5 rfl (ah rfl rfl aS rfl rfl) ?_);refine jT 5 [14] (aa 16 20991) ?_;(refine jG (aa 16 21503) 9 rfl (ah rfl rfl aS rfl rfl) ?_);(refine jG (aa 16 22527) 10 rfl (aM rfl rfl oM) ?_);(refine jG (aa 16 24575) 11 rfl (ah rfl rfl aS rfl rfl) ?_);refine jT 0 [13,15] (aa 16 65535) ?_;refine jQ ?_)
   all_goals repeat' (refine jR ?_)
   all_goals refine jZ (vs:=[_,_]) rfl ⟨rfl,rfl,trivial⟩ rfl ⟨Gh.le.refl _,rfl,?_⟩
   all_goals (try rw [decide_eq_true hdn])
   all_goals exact .inr ⟨_,_,b',rfl,rfl,hk⟩
  ·have hno : aE (ag vs) (64 :: r) (.nd 85 [] d.tag [w]) n = none:=by
    rw [hst]
    cases ci t.fields n with
    | none=>rfl
    | some f =>
     dsimp only
     rw [if_neg oM,if_neg oM,if_neg (show ¬ V.tag (.nd 85 [] d.tag [w]) = n from hdn)]
   rw [hno]
   refine jB [(0,_),(1,_),(2,_)] Tryz.func63 Tryz.ntmps63 fun B hok hB hW=>?_
   repeat' (first | refine jM ?_ | (refine jo ?_;first | refine jV (ah rfl rfl aS rfl rfl) ?_ | refine aN rfl ?_ | refine aC rfl ?_) | refine aH rfl rfl rfl ?_ | refine ar rfl rfl rfl ?_ | refine ac rfl rfl ?_ | refine ad rfl rfl ?_)
   (refine am (an (id:=6) _ (fun _ h=>h) al ?_);refine jT 9 [0,1,2,6,7,8,12] (aa 16 4551) ?_;(refine jG (aa 16 4559) 3 rfl (ah rfl rfl aS rfl rfl) ?_);(refine jG (aa 16 4575) 4 rfl (aM rfl rfl oM) ?_);(refine jG (aa 16 4607) 5 rfl (ah rfl rfl aS rfl rfl) ?_);refine jT 5 [14] (aa 16 20991) ?_;(refine jG (aa 16 21503) 9 rfl (ah rfl rfl aS rfl rfl) ?_);(refine jG (aa 16 22527) 10 rfl (aM rfl rfl oM) ?_);(refine jG (aa 16 24575) 11 rfl (ah rfl rfl aS rfl rfl) ?_);refine jT 0 [13,15] (aa 16 65535) ?_;refine jQ ?_)
   all_goals repeat' (refine jR ?_)
   all_goals refine jZ (vs:=[_,_]) rfl ⟨rfl,rfl,trivial⟩ rfl ⟨Gh.le.refl _,rfl,?_⟩
   all_goals (try rw [decide_eq_false hdn])
   all_goals exact .inl ⟨rfl,_,rfl⟩
 | recd k b t fs bs a a2 c c2 h0 h1 h2 h3 h4 h5 hk =>
  have hst:=g0 (v:=.nd 82 [] 0 (fs.map aw)) (n:=n) h0.1
  have hTW:=hw.ty _ (bn h0.1)
  have hso:=h0.2
  have hkk:=db (dv hki)
  obtain ⟨r,rfl⟩:=df h0.1
  have hk0 : bt (64 :: r) (Int.toNat 0) = 64:=bh 64 r
  have hkl2 : (64 :: r).length = r.length + 1:=rfl
  have hvl : vs.length ≤ 8:=by have:=hw.len;unfold ag at this;simpa using this
  have href:=eV vs (64 :: r)
  have cx_rf:=iR (k:=64 :: r) h oM hkk.1 oM
  rcases hrv : eT vs (64 :: r) with _ | x
  ·rw [hrv,h0.1] at href;cases href
  rw [hrv] at href cx_rf
  have htx : x.2 = t:=by rw [h0.1] at href;exact Option.some.inj href
  subst htx
  have hxm:=gg hrv
  have hfl:=hTW.len
  have cx_rec:=pI (n:=n) hu (h.fl x hxm) oM cx_rf hso
  cases hg : ci x.2.fields n with
  | none =>
   rw [hg] at hst cx_rec
   have hno : aE (ag vs) (64 :: r) (.nd 82 [] 0 (fs.map aw)) n = none:=hst
   rw [show (fs.map fun p=>V.nd 61 [] p.1.tag [p.2]) = fs.map aw from rfl,hno]
   refine jB [(0,_),(1,_),(2,_)] Tryz.func63 Tryz.ntmps63 fun B hok hB hW=>?_
   repeat' (first | refine jM ?_ | (refine jo ?_;first | refine jV (ah rfl rfl aS rfl rfl) ?_ | refine aN rfl ?_ | refine aC rfl ?_ | refine jL fun _=>?_ | refine jC rfl rfl rfl ?_ | refine ae rfl rfl rfl cx_rec rfl ?_) | refine aH rfl rfl rfl ?_ | refine ar rfl rfl rfl ?_ | refine ac rfl rfl ?_ | refine ad rfl rfl ?_)
   all_goals refine jZ (vs:=[_,_]) rfl ⟨rfl,rfl,trivial⟩ rfl ⟨Gh.le.refl _,rfl,?_⟩
   all_goals exact .inl ⟨rfl,_,rfl⟩
  | some f =>
   rw [hg] at hst cx_rec
   simp only [Option.getD_some,Option.isSome_some] at cx_rec
   have hfm:=List.mem_of_find?_eq_some hg
   have hft : f.tag = n:=by have:=List.find?_some hg;simpa using this
   have hyes : aE (ag vs) (64 :: r) (.nd 82 [] 0 (fs.map aw)) n = some (f.kind,dI (ag vs) (.nd 82 [] 0 (fs.map aw)) f):=by
    rw [hst];dsimp only;rw [if_neg oM,if_pos hso]
   rw [show (fs.map fun p=>V.nd 61 [] p.1.tag [p.2]) = fs.map aw from rfl,hyes]
   have hfs9 : fs.length ≤ 100000:=by
    have h7:=c7 (fs.map aw)
    rw [br] at htt
    have e1 : (fs.map aw).length = fs.length:=by simp
    have e2 : (fs.map fun p=>V.nd 61 [] p.1.tag [p.2]) = fs.map aw:=rfl
    rw [e2] at htt
    omega
   have htn : ∀ i,i < fs.length → ab (fs.map fun p : Fld × V=>p.1.tag) i = (ab fs i).1.tag:=fun i hi=>by rw [aA (by simpa using hi),aA hi];simp
   have htl : (fs.map fun p : Fld × V=>p.1.tag).length = fs.length:=by simp
   by_cases hex : ∃ j,j < fs.length ∧ (ab fs j).1.tag = n
   ·obtain ⟨j,hj,hjn,hjf⟩:=xu hex
    have hget : dI (ag vs) (.nd 82 [] 0 (fs.map aw)) f = (ab fs j).2:=by
     unfold dI
     rw [V.kids,od hj (by rw [hjn,hft]) (fun i hi=>by rw [hft];exact hjf i hi)];rfl
    have hkd : (ab fs j).1 = f:=fZ hTW (h5 j hj) hfm (by rw [hjn,hft])
    rw [hget]
    have cx_at:=acg (tg:=fs.map fun p : Fld × V=>p.1.tag) (n:=n) (by rw [h4,htl]) oM (by rw [htl];exact h1) (by rw [htl];exact h2) (by rw [htl];exact h3) (by rw [htl];exact hj) (by rw [htn j hj];exact hjn) (fun i hi=>by rw [htn i oM];exact hjf i hi)
    have hrj:=hk j hj
    rw [hkd] at hrj
    refine jB [(0,_),(1,_),(2,_)] Tryz.func63 Tryz.ntmps63 fun B hok hB hW=>?_
    repeat' (first | refine jM ?_ | (refine jo ?_;first | refine jV (ah rfl rfl aS rfl rfl) ?_ | refine aN rfl ?_ | refine aC rfl ?_ | refine jL fun _=>?_ | refine jC rfl rfl rfl ?_ | refine ae rfl rfl rfl cx_rec rfl ?_ | refine ae rfl rfl rfl cx_at rfl ?_) | refine aH rfl rfl rfl ?_ | refine ar rfl rfl rfl ?_ | refine ac rfl rfl ?_ | refine ad rfl rfl ?_)
    all_goals refine jZ (vs:=[_,_]) rfl ⟨rfl,rfl,trivial⟩ rfl ⟨Gh.le.refl _,rfl,?_⟩
    all_goals exact .inr ⟨_,_,ab bs j,rfl,rfl,hrj⟩
   ·have hjno : ∀ i,i < fs.length → (ab fs i).1.tag ≠ n:=fun i hi e=>hex ⟨i,hi,e⟩
    have hget : dI (ag vs) (.nd 82 [] 0 (fs.map aw)) f = dU (ag vs) f:=by
     unfold dI
     rw [V.kids,oc fun i hi=>by rw [hft];exact hjno i hi];rfl
    rw [hget]
    obtain ⟨g1,g2,g3⟩:=eX hw (bn h0.1) oM hfm
    obtain ⟨g4,g5⟩:=iA g2
    have hdk : aB (ag vs) f.kind = true:=dN hw (bn h0.1) oM hfm
    have cx_at:=ach (tg:=fs.map fun p : Fld × V=>p.1.tag) (n:=n) oM (by rw [htl];exact h1) (by rw [htl];exact h2) (fun i hi=>by rw [htn i oM];exact hjno i oM)
    have cx_sta:=l6 (f:=f) h hw hdk
    have cx_rd:=gh (u:=.slice ua vs.length uc) (vs:=vs) hw 12 oM G f.kind (bQ (ag vs) f) h hdk oM
    rw [g4] at cx_rd
    refine jB [(0,_),(1,_),(2,_)] Tryz.func63 Tryz.ntmps63 fun B hok hB hW=>?_
    repeat' (first | refine jM ?_ | (refine jo ?_;first | refine jV (ah rfl rfl aS rfl rfl) ?_ | refine aN rfl ?_ | refine aC rfl ?_ | refine jL fun _=>?_ | refine jC rfl rfl rfl ?_ | refine ae rfl rfl rfl cx_rec rfl ?_ | refine ae rfl rfl rfl cx_at rfl ?_) | refine aH rfl rfl rfl ?_ | refine ar rfl rfl rfl ?_ | refine ac rfl rfl ?_ | refine ad rfl rfl ?_)
    (refine am (an (id:=14) _ (fun _ h=>h) al ?_);refine jT 12 [0,2,5] (aa 15 37) ?_;(refine jG (aa 15 39) 1 rfl (ax rfl rfl) ?_);(refine jG (aa 15 47) 3 rfl (bM rfl rfl rfl rfl) ?_);(refine jG (aa 15 111) 6 rfl (aT rfl rfl rfl) ?_);refine jA 4 rfl ?_;(refine ae rfl rfl rfl cx_sta rfl ?_);refine jS (aa 15 127) ?_;refine jA 7 rfl ?_;(refine aq rfl rfl rfl cx_rd rfl ?_;rintro _ G hle ⟨q1,r1,ok1,rfl,hyes,hno⟩;skip);refine jS (aa 15 255) ?_;refine jT 0 [8,9,10,11,12,13,14] (aa 15 32767) ?_;refine jQ ?_)
    all_goals
     cases ok1 with
     | false=>cases hno rfl
     | true =>
      obtain ⟨w,wb,rfl,hf,hrep⟩:=hyes rfl
      simp only [Option.some.injEq,Prod.mk.injEq] at hf
      obtain ⟨rfl,rfl⟩:=hf
      repeat' (first | refine jR ?_ | (refine jo ?_;refine aN rfl ?_) | refine aH rfl rfl rfl ?_)
      all_goals refine jZ (vs:=[_,_]) rfl ⟨rfl,rfl,trivial⟩ rfl ⟨hle,rfl,?_⟩
      all_goals exact .inr ⟨_,_,wb,rfl,rfl,hrep⟩
theorem cQ {s k w : List UInt8} {u : V} (hg : cL s k w = some u) : ∃ ts,a7 s = some ts ∧ aB ts k = true ∧ cb ts k w = some u ∧ u.tot ≤ 40000 ∧ u.wf:=by
 obtain ⟨ts,hs,hki,hvo⟩ : ∃ ts,a7 s = some ts ∧ aB ts k = true ∧ cb ts k w = some u:=by
  unfold cL at hg
  cases hs : a7 s with
  | none=>rw [hs] at hg;cases hg
  | some ts =>
   rw [hs] at hg
   dsimp only at hg
   by_cases hk : aB ts k = true
   ·rw [if_pos hk] at hg;exact ⟨ts,rfl,hk,hg⟩
   ·rw [if_neg hk] at hg;cases hg
 refine ⟨ts,hs,hki,hvo,?_,(wQ hvo).1⟩
 unfold cb at hvo
 split at hvo
 ·split at hvo
  ·rename_i v hv
   obtain rfl:=Option.some.inj hvo
   have:=gi _ _ _ _ hv
   dsimp only at this;omega
  ·cases hvo
 ·cases hvo
theorem oW {ts : List Ty} (hw : SchW ts) {t : Ty} (ht : t ∈ ts) (hs : t.sort ≠ 69) {d : Fld} (hd : d ∈ t.fields) : (dU ts d).tot ≤ 40000:=by
 obtain ⟨g4,g5⟩:=iA (eX hw ht hs hd).2.1
 have:=gi _ _ _ _ g4
 dsimp only at this
 simp only [List.length_nil] at this
 omega
theorem kz {ts : List Ty} (hw : SchW ts) {k : List UInt8} {v : V} (h : OfK ts k v) (hk : aB ts k = true) {n : Int} (hn : 0 ≤ n) {k' : List UInt8} {v' : V} (e : aE ts k v n = some (k',v')) {N : Nat} (hv : v.tot ≤ N) (hN : 40000 ≤ N) : v'.tot ≤ N:=by
 obtain ⟨c,r,rfl⟩:=dY hk
 unfold aE at e
 dsimp only at e
 split at e
 ·rename_i hc
  split at e
  ·rename_i hlt
   simp only [Option.some.injEq,Prod.mk.injEq] at e
   obtain ⟨rfl,rfl⟩:=e
   have h1:=gu (ks:=v.kids) (i:=n.toNat) oM
   obtain ⟨w,x,t,ks⟩:=v
   rw [br] at hv
   rw [V.kids] at h1 ⊢
   omega
  ·cases e
 ·split at e
  ·cases e
  ·rename_i t hr
   have ht:=bn hr
   split at e
   ·cases e
   ·rename_i f hf
    have hfm:=List.mem_of_find?_eq_some hf
    split at e
    ·cases e
    ·rename_i h69
     split at e
     ·rename_i h82
      simp only [Option.some.injEq,Prod.mk.injEq] at e
      obtain ⟨rfl,rfl⟩:=e
      rcases bJ h hr with ⟨_,fs,rfl,g3,g4,_,_⟩ | ⟨h1,_⟩ | ⟨h1,_⟩
      ·unfold dI
       rw [V.kids]
       cases hto : cn f (fs.map aw) with
       | none =>
        have:=oW hw ht h69 hfm
        show (dU ts f).tot ≤ N
        omega
       | some u =>
        obtain ⟨_,p,hp,_,rfl⟩:=gO (hw.ty t ht) hfm (fun p hp=>⟨g3 p hp,g4 p hp⟩) hto
        have h2:=n9 (List.mem_map_of_mem (f:=aw) hp)
        rw [br] at hv
        simp only [aw,br,V.tots] at h2
        show p.2.tot ≤ N
        omega
      ·omega
      ·omega
     ·rename_i h82
      split at e
      ·simp only [Option.some.injEq,Prod.mk.injEq] at e
       obtain ⟨rfl,rfl⟩:=e
       rcases bJ h hr with ⟨h1,_⟩ | ⟨h1,_⟩ | ⟨_,_,d,u,rfl,g4,g5⟩
       ·omega
       ·omega
       ·simp only [br,V.tots] at hv
        show u.tot ≤ N
        omega
      ·cases e
theorem mZ {ts : List Ty} {p : List Int} {i : Nat} (hi : i < p.length) {k : List UInt8} {v : V} : bY ts k v (p.drop i) = match aE ts k v (ab p i) with
  | none=>none
  | some (k',v')=>bY ts k' v' (p.drop (i + 1)):=by
 rw [List.drop_eq_getElem_cons hi,aA hi,bY]
 all_goals (cases aE ts k v p[i] <;> rfl)
theorem w6 {ts : List Ty} {v : V} {k : List UInt8} {b : Nat} (h : RepR G ts v k b) : ∃ x y z,b7 G b 0 [S k,x,y,z]:=by
 cases h with
 | leaf w x k tx b h1 h2=>exact ⟨_,_,_,h1⟩
 | lst k b ks bs a c h1 h2 h3 hk=>exact ⟨_,_,_,h1⟩
 | non k b h1=>exact ⟨_,_,_,h1⟩
 | opt k b kb b' cc w h0 h1 h2 h3=>exact ⟨_,_,_,h1⟩
 | recd k b t fs bs a a2 c c2 h0 h1 h2 h3 h4 h5 hk=>exact ⟨_,_,_,h1⟩
 | enm k b tgb t d h0 h1 h2 h3=>exact ⟨_,_,_,h2⟩
 | uni k b tgb kb b' cc t d w hcc h0 h1 h2 h3 h4 hk=>exact ⟨_,_,_,h2⟩
theorem zw {u : Value} {vs : List co} (h : SchR G u vs) (hw : SchW (ag vs)) {p : List Int} {pv : Value} (hp : aP G pv 1 p.length (aj cB p)) (hpn : ∀ n ∈ p,0 ≤ n ∧ n ≤ 999999) (hpl : p.length ≤ 1000) {k : List UInt8} {v : V} {b : Nat} (hr : RepR G (ag vs) v k b) (ho : OfK (ag vs) k v) (hki : aB (ag vs) k = true) (htt : v.tot ≤ 1000000) :
  bB Tryz.prog 48 [u,Pt b 0,pv] G (gC (ag vs) (bY (ag vs) k v p)):=by
 have hu:=h.sl.one
 obtain ⟨pa,pc,rfl⟩:=hp.sl
 refine jB [(0,_),(1,_),(2,_)] Tryz.func48 Tryz.ntmps48 fun B hok hB hW=>?_
 repeat' (refine jR ?_)
 refine aV (ι:=List UInt8 × V × Nat × Nat × Gh) (fun j=>((RepR j.2.2.2.2 (ag vs) j.2.1 j.1 j.2.2.1 ∧ OfK (ag vs) j.1 j.2.1) ∧ (aB (ag vs) j.1 = true ∧ j.2.1.tot ≤ 1000000)) ∧ (Gh.le G j.2.2.2.2 ∧ j.2.2.2.1 ≤ p.length) ∧ bY (ag vs) k v p = bY (ag vs) j.1 j.2.1 (p.drop j.2.2.2.1)) (fun j=>[(0,u),(1,Pt j.2.2.1 0),(2,.slice pa p.length pc),(8,I j.2.2.2.1)]) (fun j=>j.2.2.2.2) (fun j=>[]) (fun j=>p.length - j.2.2.2.1) (k,v,b,0,G) ?_ tU rfl a8 (fun j Hj=>?_)
 ·exact ⟨⟨⟨hr,ho⟩,hki,htt⟩,⟨Gh.le.refl _,Nat.zero_le _⟩,rfl⟩
 obtain ⟨k0,v0,b0,i,Gq⟩:=j
 dsimp only at Hj ⊢
 obtain ⟨⟨⟨hr0,ho0⟩,hk0,ht0⟩,⟨hgq,hi0⟩,he⟩:=Hj
 by_cases hi : i < p.length
 ·obtain ⟨xb,xo,xc,e,hs1⟩:=(hp.mono hgq).expl oM
  simp only [Value.slice.injEq] at e
  obtain ⟨rfl,-,rfl⟩:=e
  have hni:=hpn _ (be hi)
  have hti : ab p i = ab p i:=rfl
  have hstp:=nC (h.mono hgq) hw hr0 ho0 hk0 hni ht0
  rw [mZ hi] at he
  cases hsv : aE (ag vs) k0 v0 (ab p i) with
  | none =>
   have cx_stn:=gC.no hstp hsv
   rw [hsv] at he
   repeat' (first | refine jR ?_ | (refine jo ?_;first | refine jV (af rfl) ?_ | refine jV (ak rfl rfl oM) ?_ | (refine jV (bU rfl rfl aS ?_ aS rfl) ?_;focus omega) | (refine aq rfl rfl rfl cx_stn rfl ?_;rintro _ G hle ⟨q1,rfl⟩;skip)) | (refine ac rfl (by first | rfl | (refine decide_eq_true ?_;(omega))) ?_))
   all_goals refine jZ (vs:=[_,_]) rfl ⟨rfl,rfl,trivial⟩ rfl ⟨hgq.trans hle,rfl,?_⟩
   all_goals exact .inl ⟨he,_,rfl⟩
  | some y =>
   obtain ⟨k1,v1⟩:=y
   have cx_sty:=gC.yes hstp hsv
   rw [hsv] at he
   obtain ⟨g1,g2⟩:=cN hw ho0 hk0 hni.1 hsv
   have g3:=kz hw ho0 hk0 hni.1 hsv ht0 oM
   repeat' (first | refine jM ?_ | (refine jo ?_;first | refine jV (af rfl) ?_ | refine jV (ak rfl rfl oM) ?_ | (refine jV (bU rfl rfl aS ?_ aS rfl) ?_;focus omega) | (refine aq rfl rfl rfl cx_sty rfl ?_;rintro _ G hle ⟨b1,rfl,hrep1⟩;skip)) | refine ac rfl (ay oM) ?_ | refine ad rfl rfl ?_)
   exact bj (k1,v1,b1,i + 1,G) ⟨⟨⟨hrep1,g1⟩,g2,g3⟩,⟨hgq.trans hle,by dsimp only;omega⟩,he⟩ (by dsimp only;omega) tU rfl a8
 ·have hd : p.drop i = []:=List.drop_eq_nil_of_le oM
  rw [hd] at he
  repeat' (first | refine jR ?_ | (refine jo ?_;refine jV (af rfl) ?_) | refine ad rfl (aG oM) ?_)
  all_goals refine jZ (vs:=[_,_]) rfl ⟨rfl,rfl,trivial⟩ rfl ⟨hgq,rfl,?_⟩
  all_goals exact .inr ⟨_,_,b0,he,rfl,hr0⟩
theorem lj {s k w : List UInt8} {v : V} {ts : List Ty} (h : s.length ≤ 1048576 ∧ k.length ≤ 1048576 ∧ w.length ≤ 1048576) (hs : a7 s = some ts) (hki : aB ts k = true) (hvo : cb ts k w = some v) :
  bB Tryz.prog 36 [S s,S k,S w] G (fun r G'=>∃ a c vs b,r = Tu [.slice a vs.length c,Pt b 0,Bo true] ∧ SchR G' (.slice a vs.length c) vs ∧ ag vs = ts ∧ RepR G' ts v k b):=by
 have hw:=dE hs
 have hk : dh s k = true:=by unfold dh;rw [hs];exact hki
 obtain ⟨h12,hl⟩:=iA hvo
 have cx_lka : ∀ G,bB Tryz.prog 60 [S s,S k] G (fun v G'=>∃ a c vs,v = Tu [.slice a vs.length c,Bo true] ∧ SchR G' (.slice a vs.length c) vs ∧ ag vs = ts):=fun G=>by
  refine (gX (G:=G) (s:=s) (k:=k) oM oM).mono ?_
  rintro v G' L' ⟨h1,h2,u,vs,rfl,h4,_,h6⟩
  obtain ⟨_,⟨rfl,h0⟩ | ⟨b,o,cap,rfl,_,_⟩⟩:=h4.sl
  ·exact ⟨h1,h2,none,0,vs,by rw [hk,h0],by rw [h0];exact h4,h6 ts hs hki⟩
  ·exact ⟨h1,h2,_,cap,vs,by rw [hk],h4,h6 ts hs hki⟩
 refine jB [(0,_),(1,_),(2,_)] Tryz.func36 Tryz.ntmps36 fun B hok hB hW=>?_
 repeat' (first | refine jR ?_ | (refine jo ?_;first | refine aC rfl ?_ | refine jV (ax rfl rfl) ?_ | (refine aq rfl rfl rfl (cx_lka _) rfl ?_;rintro _ G hle ⟨av1,cv1,vs1,rfl,hR1,hT1⟩;skip)) | refine ar rfl rfl rfl ?_ | refine ad rfl (aG oM) ?_)
 subst hT1
 have cx_rd : bB Tryz.prog 50 [Ag [.slice av1 vs1.length cv1],S w,S k,I (12 : Nat)] G (fun r G'=>∃ b,r = Tu [Pt b 0,S [],Bo true] ∧ RepR G' (ag vs1) v k b):=by
  refine (gh (u:=.slice av1 vs1.length cv1) (vs:=vs1) hw 12 oM G k w hR1 hki oM).mono ?_
  rintro r G' L' ⟨h1,h2,q,rest,ok,rfl,h3,h4⟩
  cases ok with
  | false=>rw [h12] at h4;cases h4 rfl
  | true =>
   obtain ⟨v',b,rfl,h5,h6⟩:=h3 rfl
   rw [h12] at h5
   simp only [Option.some.injEq,Prod.mk.injEq] at h5
   obtain ⟨rfl,rfl⟩:=h5
   exact ⟨h1,h2,b,rfl,h6⟩
 refine jo ?_
 refine aq rfl rfl rfl cx_rd rfl ?_
 rintro _ G2 hle2 ⟨b,rfl,hrep⟩
 repeat' (first | refine jR ?_ | (refine jo ?_;refine aN rfl ?_) | refine aH rfl rfl rfl ?_)
 refine jZ (vs:=[_,_,_]) rfl ⟨rfl,rfl,rfl,trivial⟩ rfl ⟨(Gh.le.trans hle hle2),rfl,?_⟩
 exact ⟨_,_,_,b,rfl,hR1.mono hle2,rfl,hrep⟩
theorem lA {s : List UInt8} (h : s.length ≤ 1048576) (hp : cS s = none) : ∀ G,bB Tryz.prog 38 [S s] G (fun v _=>∃ a c n,v = Tu [.slice a n c,Bo false] ∧ True):=fun G=>by
 refine (sT (G:=G) h).mono ?_
 rintro v G' L' ⟨h1,h2,a,c,n,rfl,_⟩
 exact ⟨h1,h2,a,c,n,by rw [hp];rfl,trivial⟩
theorem ky {s : List UInt8} {p : List Int} (h : s.length ≤ 1048576) (hp : cS s = some p) : ∀ G,bB Tryz.prog 38 [S s] G (fun v G'=>∃ a c n,v = Tu [.slice a n c,Bo true] ∧ n = p.length ∧ aP G' (.slice a n c) 1 p.length (aj cB p)):=fun G=>by
 refine (sT (G:=G) h).mono ?_
 rintro v G' L' ⟨h1,h2,a,c,n,rfl,h3⟩
 exact ⟨h1,h2,a,c,n,by rw [hp];rfl,h3 p hp⟩
theorem qH {s : List UInt8} {p : List Int} (h : cS s = some p) : p.length ≤ 8 ∧ ∀ n ∈ p,0 ≤ n ∧ n ≤ 999999:=by
 unfold cS at h
 split at h
 ·simp only [Option.some.injEq] at h;subst h;simp
 ·split at h
  ·rename_i q hq
   split at h
   ·rename_i h8
    simp only [Option.some.injEq] at h;subst h
    exact ⟨h8,(kO hq).2⟩
   ·cases h
  ·cases h
theorem t8 {α : Type} [Inhabited α] {tg : α → Int} {node : α} {tag : Int} {l : List α} {i : Nat} (hi : i < l.length) {d : Bool} : cW tg node tag (l.drop i) d = (if tag < tg (ab l i) ∧ d = false then [node] else []) ++ ((if tg (ab l i) = tag then [] else [ab l i]) ++ cW tg node tag (l.drop (i + 1)) (d || decide (tag < tg (ab l i)))):=by
 rw [List.drop_eq_getElem_cons hi,aA hi,cW]
theorem rY {α : Type} {tg : α → Int} {node : α} {tag : Int} {y : α} : ∀ {l : List α} {d : Bool},y ∈ cW tg node tag l d → y = node ∨ y ∈ l
 | [],d,h=>by
  unfold cW at h
  split at h
  ·simp at h
  ·exact .inl (by simpa using h)
 | z :: r,d,h=>by
  rw [cW] at h
  simp only [List.mem_append] at h
  rcases h with h | h | h
  ·split at h
   ·exact .inl (by simpa using h)
   ·simp at h
  ·split at h
   ·simp at h
   ·exact .inr (by simp at h;simp [h])
  ·exact (rY h).imp id fun h=>by simp [h]
theorem qF {α : Type} {tg : α → Int} {node : α} {tag : Int} {y : α} : ∀ {l : List α},y ∈ cW tg node tag l true → y ∈ l
 | [],h=>by simp [cW] at h
 | z :: r,h=>by
  rw [cW,if_neg (by simp),Bool.true_or,List.nil_append] at h
  rcases List.mem_append.1 h with h | h
  ·split at h
   ·simp at h
   ·simp at h;simp [h]
  ·simp [qF h]
def dp (p : (Fld × V) × Nat) : Int:=p.1.1.tag
def qU (p : (Fld × V) × Nat) : V:=aw p.1
theorem um {ps : List ((Fld × V) × Nat)} : ps.map qU = (ps.map (·.1)).map aw:=by rw [List.map_map];rfl
theorem w7 {ts : List Ty} {k : List UInt8} {t : Ty} {b : Nat} {vs : List V} (hr : RepR G ts (.nd 82 [] 0 vs) k b) (hrf : aZ ts k = some t) : t.sort = 82 ∧ ∃ (ps : List ((Fld × V) × Nat)) (a a2 : Option Addr) (c c2 : Nat),vs = ps.map qU ∧ b7 G b 0 [S k,S [82],.slice a ps.length c,.slice a2 ps.length c2] ∧ aP G (.slice a ps.length c) 1 ps.length (aj cB (ps.map dp)) ∧ aP G (.slice a2 ps.length c2) 1 ps.length (aj dl (ps.map (·.2))) ∧ ∀ p ∈ ps,p.1.1 ∈ t.fields ∧ RepR G ts p.1.2 p.1.1.kind p.2:=by
 cases hr with
 | leaf w x k tx b h1 h2=>rcases h2 with ⟨h,_⟩ | ⟨h,_⟩ | ⟨h,_⟩ <;> omega
 | recd k b t' fs bs a a2 c c2 h0 h1 h2 h3 h4 h5 hk =>
  obtain rfl : t' = t:=by rw [hrf] at h0;exact (Option.some.inj h0.1).symm
  have e1 : (fs.zip bs).map (·.1) = fs:=List.map_fst_zip oM
  have e2 : (fs.zip bs).map (·.2) = bs:=List.map_snd_zip oM
  have el : (fs.zip bs).length = fs.length:=by simp [h4]
  have e3 : (fs.zip bs).map dp = fs.map fun p=>p.1.tag:=by
   rw [show dp = (fun p : Fld × V=>p.1.tag) ∘ Prod.fst from rfl,← List.map_map,e1]
  refine ⟨h0.2,fs.zip bs,a,a2,c,c2,by rw [um,e1],by rw [el];exact h1,by rw [el,e3];exact h2,by rw [el,e2];exact h3,fun p hp=>?_⟩
  obtain ⟨i,hi,e⟩:=List.getElem_of_mem hp
  rw [List.getElem_zip] at e
  subst e
  have hi' : i < fs.length:=by rw [el] at hi;exact hi
  have g1:=hk i hi'
  have g2:=h5 i hi'
  rw [aA hi',aA oM] at g1
  rw [aA hi'] at g2
  exact ⟨g2,g1⟩
theorem p5 {ts : List Ty} {k : List UInt8} {t : Ty} {b : Nat} {ps : List ((Fld × V) × Nat)} {a a2 : Option Addr} {c c2 : Nat} (hrf : aZ ts k = some t) (hso : t.sort = 82) (h1 : b7 G b 0 [S k,S [82],.slice a ps.length c,.slice a2 ps.length c2]) (h2 : aP G (.slice a ps.length c) 1 ps.length (aj cB (ps.map dp))) (h3 : aP G (.slice a2 ps.length c2) 1 ps.length (aj dl (ps.map (·.2)))) (hm : ∀ p ∈ ps,p.1.1 ∈ t.fields ∧ RepR G ts p.1.2 p.1.1.kind p.2) : RepR G ts (.nd 82 [] 0 (ps.map qU)) k b:=by
 have el : (ps.map (·.1)).length = ps.length:=by simp
 have hn1 : ∀ i,i < ps.length → ab (ps.map (·.1)) i = (ab ps i).1:=fun i hi=>by rw [aA (by simpa using hi),aA hi];simp
 have hn2 : ∀ i,i < ps.length → ab (ps.map (·.2)) i = (ab ps i).2:=fun i hi=>by rw [aA (by simpa using hi),aA hi];simp
 have e3 : (ps.map (·.1)).map (fun p : Fld × V=>p.1.tag) = ps.map dp:=by rw [List.map_map];rfl
 rw [um]
 refine RepR.recd k b t (ps.map (·.1)) (ps.map (·.2)) a a2 c c2 ⟨hrf,hso⟩ (by rw [el];exact h1) (by rw [el,e3];exact h2) (by rw [el];exact h3) (by simp) (fun i hi=>?_) (fun i hi=>?_)
 ·rw [el] at hi
  rw [hn1 i hi];exact (hm _ (be hi)).1
 ·rw [el] at hi
  rw [hn1 i hi,hn2 i hi];exact (hm _ (be hi)).2
abbrev rv : TypeId:=3
abbrev rt : TypeId:=56
section
variable {ts : List Ty} {k : List UInt8} {t : Ty} {b : Nat} {ps : List ((Fld × V) × Nat)} {a a2 : Option Addr} {c c2 : Nat}
theorem zv {node : (Fld × V) × Nat} {tag : Int} (hrf : aZ ts k = some t) (hso : t.sort = 82) (h1 : b7 G b 0 [S k,S [82],.slice a ps.length c,.slice a2 ps.length c2]) (h2 : aP G (.slice a ps.length c) 1 ps.length (aj cB (ps.map dp))) (h3 : aP G (.slice a2 ps.length c2) 1 ps.length (aj dl (ps.map (·.2)))) (hm : ∀ p ∈ ps,p.1.1 ∈ t.fields ∧ RepR G ts p.1.2 p.1.1.kind p.2) (h9 : ps.length ≤ 100000) :
  bB Tryz.prog 88 [Pt b 0,I tag,.pointer none] G (fun r G'=>∃ b',r = Pt b' 0 ∧ RepR G' ts (.nd 82 [] 0 ((cW dp node tag ps true).map qU)) k b'):=by
 have htl : (ps.map dp).length = ps.length:=by simp
 have hbl : (ps.map (·.2)).length = ps.length:=by simp
 refine jB [(0,_),(1,_),(2,_)] Tryz.func88 Tryz.ntmps88 fun B hok hB hW=>?_
 repeat' (first | refine jR ?_ | (refine jo ?_;refine jV (cY rfl rfl) ?_) | (refine am (an (id:=1) _ (fun _ h=>h) al ?_);refine jT 5 [0,1,2,4,5,6] (aa 11 119) ?_;(refine jG (aa 11 127) 3 rfl (ah rfl rfl aS rfl rfl) ?_);(refine jG (aa 11 255) 7 rfl (ah rfl rfl aS rfl rfl) ?_);(refine jG (aa 11 511) 8 rfl (ax rfl rfl) ?_);refine jA 9 rfl ?_;(refine jO fun _=>?_);refine jS (aa 11 1023) ?_;refine jT 0 [10] (aa 11 2047) ?_;refine jQ ?_))
 rename_i x
 refine Nx.addNil rv 1 (Nx.addNil rt 1 ?_)
 refine aV (ι:=List ((Fld × V) × Nat) × Option Addr × Nat × Option Addr × Nat × Nat) (fun q=>(q.2.2.2.2.2 ≤ ps.length ∧ q.1.length ≤ q.2.2.2.2.2) ∧ cW dp node tag ps true = q.1 ++ cW dp node tag (ps.drop q.2.2.2.2.2) true) (fun q=>[(0,Pt b 0),(1,I tag),(7,Pt x 0),(8,Bo true),(9,I q.2.2.2.2.2)]) (fun _=>G) (fun q=>[.acc (.slice q.2.2.2.1 q.1.length q.2.2.2.2.1) rt 1 q.1.length (aj dl (q.1.map (·.2))),.acc (.slice q.2.1 q.1.length q.2.2.1) rv 1 q.1.length (aj cB (q.1.map dp)),.blk x (.cells (List.toArray [S k,S [82],.slice q.2.1 q.1.length q.2.2.1,.slice q.2.2.2.1 q.1.length q.2.2.2.2.1]) nJ (0,0))]) (fun q=>ps.length - q.2.2.2.2.2) ([],none,0,none,0,0) ?_ tU rfl a8 (fun q Hq=>?_)
 ·exact ⟨⟨Nat.zero_le _,Nat.zero_le _⟩,rfl⟩
 obtain ⟨gs,a3,c3,a4,c4,i⟩:=q
 dsimp only at Hq ⊢
 obtain ⟨⟨hi0,hgl⟩,hinv⟩:=Hq
 by_cases hi : i < ps.length
 ·obtain ⟨xb,xo,xc,e,hs1⟩:=h2.expl oM
  simp only [Value.slice.injEq] at e
  obtain ⟨rfl,-,rfl⟩:=e
  obtain ⟨zb,zo,zc,e,hs2⟩:=h3.expl oM
  simp only [Value.slice.injEq] at e
  obtain ⟨rfl,-,rfl⟩:=e
  have hti : ab (ps.map dp) i = dp (ab ps i):=by rw [aA oM,aA hi];simp
  have hxi : ab (ps.map (·.2)) i = (ab ps i).2:=by rw [aA oM,aA hi];simp
  rw [t8 hi,if_neg (by simp),List.nil_append,Bool.true_or] at hinv
  by_cases hne : dp (ab ps i) = tag
  ·rw [if_pos hne,List.nil_append] at hinv
   repeat' (first | refine jM ?_ | (refine jo ?_;first | refine jV (ah rfl rfl aS rfl rfl) ?_ | (refine jV (bU rfl rfl aS ?_ aS rfl) ?_;focus omega) | refine jV (af rfl) ?_ | refine jV (ak rfl rfl oM) ?_ | refine aC rfl ?_) | refine ar rfl rfl rfl ?_ | refine ac rfl (ay oM) ?_ | (refine ad rfl (by first | rfl | (refine decide_eq_false ?_;(omega))) ?_))
   exact bj (gs,a3,c3,a4,c4,i + 1) ⟨⟨by dsimp only;omega,by dsimp only;omega⟩,hinv⟩ (by dsimp only;omega) tU rfl a8
  ·rw [if_neg hne,← List.append_assoc] at hinv
   have hl1 : (gs ++ [ab ps i]).length = gs.length + 1:=by simp
   have hr1 : aj cB (gs.map dp) ++ [I (dp (ab ps i))] = aj cB ((gs ++ [ab ps i]).map dp):=by rw [List.map_append];exact (bO cB _ (dp (ab ps i))).symm
   have hr2 : aj dl (gs.map (·.2)) ++ [Pt (ab ps i).2 0] = aj dl ((gs ++ [ab ps i]).map (·.2)):=by rw [List.map_append];exact (bO dl _ (ab ps i).2).symm
   repeat' (first | refine jR ?_ | (refine jo ?_;first | refine jV (ah rfl rfl aS rfl rfl) ?_ | (refine jV (bU rfl rfl aS ?_ aS rfl) ?_;focus omega) | refine jV (af rfl) ?_ | refine jV (ak rfl rfl oM) ?_ | refine aC rfl ?_) | refine ar rfl rfl rfl ?_ | (refine ac rfl (by refine decide_eq_true ?_;first | assumption | omega) ?_) | refine ad rfl rfl ?_)
   (refine am (an (id:=11) [] (fun _ h=>absurd h (by simp)) al ?_);refine jW 9 [0,1,2,3,5,6,7,9] (aa 17 751) ?_;(refine jG (aa 17 1007) 8 rfl (ah rfl rfl aS rfl rfl) ?_);((refine jG (aa 17 2031) 10 rfl (ak rfl rfl ?_) ?_;focus omega));((refine jG (aa 17 4079) 11 rfl (bU rfl rfl aS ?_ aS rfl) ?_;focus omega));refine b8 [4,12] kR dC ⟨?_,?_,trivial⟩;(focus (refine aO rfl rfl ?_;(refine aD rfl ?_);refine jK (aa 17 4095) ?_;refine jA 12 rfl ?_;(refine jF fun _=>?_);refine jK (aa 17 8191) ?_;refine jA 13 rfl ?_;((refine bC rfl rfl rfl rfl rfl rfl rfl rfl rfl ?_ fun _ _=>?_;focus omega));refine jK (aa 17 16383) ?_;refine jW 1 [14,15] (aa 17 65535) ?_;refine jA 16 rfl ?_;(refine jD rfl rfl rfl ?_);refine jK (aa 17 131071) ?_;refine jQ ?_));rotate_left 1;(focus (refine aO rfl rfl ?_;(refine jF fun _=>?_);refine jK (aa 17 8175) ?_;refine jA 4 rfl ?_;(refine aD rfl ?_);refine jK (aa 17 8191) ?_;refine jA 13 rfl ?_;((refine bC rfl rfl rfl rfl rfl rfl rfl rfl rfl ?_ fun _ _=>?_;focus omega));refine jK (aa 17 16383) ?_;refine jW 1 [14,15] (aa 17 65535) ?_;refine jA 16 rfl ?_;(refine jD rfl rfl rfl ?_);refine jK (aa 17 131071) ?_;refine jQ ?_));rotate_left 1)
   all_goals repeat' (refine jR ?_)
   all_goals (refine am (an (id:=12) [] (fun _ h=>absurd h (by simp)) al ?_);refine jW 9 [0,1,2,3,5,6,7,9] (aa 17 751) ?_;(refine jG (aa 17 1007) 8 rfl (ah rfl rfl aS rfl rfl) ?_);((refine jG (aa 17 2031) 10 rfl (ak rfl rfl ?_) ?_;focus omega));((refine jG (aa 17 4079) 11 rfl (bU rfl rfl aS ?_ aS rfl) ?_;focus omega));refine b8 [4,12] kR dC ⟨?_,?_,trivial⟩;(focus (refine aO rfl rfl ?_;(refine aD rfl ?_);refine jK (aa 17 4095) ?_;refine jA 12 rfl ?_;(refine jF fun _=>?_);refine jK (aa 17 8191) ?_;refine jA 13 rfl ?_;((refine bC rfl rfl rfl rfl rfl rfl rfl rfl rfl ?_ fun _ _=>?_;focus omega));refine jK (aa 17 16383) ?_;refine jW 1 [14,15] (aa 17 65535) ?_;refine jA 16 rfl ?_;(refine jD rfl rfl rfl ?_);refine jK (aa 17 131071) ?_;refine jQ ?_));rotate_left 1;(focus (refine aO rfl rfl ?_;(refine jF fun _=>?_);refine jK (aa 17 8175) ?_;refine jA 4 rfl ?_;(refine aD rfl ?_);refine jK (aa 17 8191) ?_;refine jA 13 rfl ?_;((refine bC rfl rfl rfl rfl rfl rfl rfl rfl rfl ?_ fun _ _=>?_;focus omega));refine jK (aa 17 16383) ?_;refine jW 1 [14,15] (aa 17 65535) ?_;refine jA 16 rfl ?_;(refine jD rfl rfl rfl ?_);refine jK (aa 17 131071) ?_;refine jQ ?_));rotate_left 1)
   all_goals repeat' (refine jM ?_)
   all_goals
    rename_i _ y1 yc1 _ y2 yc2
    rw [hr1,hr2]
    exact bj (gs ++ [ab ps i],some ⟨y1,0,none⟩,yc1,some ⟨y2,0,none⟩,yc2,i + 1) ⟨⟨by dsimp only;omega,by dsimp only;omega⟩,hinv⟩ (by dsimp only;omega) tU rfl (by rw [hl1];repeat (first | exact List.Sublist.refl _ | apply List.Sublist.cons_cons | apply List.Sublist.cons))
 ·rw [List.drop_eq_nil_of_le oM,show cW dp node tag [] true = [] from rfl,List.append_nil] at hinv
  repeat' (first | refine jR ?_ | (refine jo ?_;first | refine jV (ah rfl rfl aS rfl rfl) ?_ | refine jV (af rfl) ?_) | (refine ad rfl (by first | rfl | (refine decide_eq_false ?_;(omega))) ?_))
  refine Nx.sealS (v:=.slice a3 gs.length c3) fun G2 hG2 hs1=>?_
  refine Nx.sealS (v:=.slice a4 gs.length c4) fun G3 hG3 hs2=>?_
  refine Nx.sealC (b:=x) fun G4 hG4 hsg=>?_
  refine jZ (vs:=[_]) rfl ⟨rfl,trivial⟩ rfl ⟨((hG2.trans hG3).trans hG4),rfl,?_⟩
  rw [hinv]
  exact ⟨x,rfl,p5 hrf hso hsg ((hs1.mono hG3).mono hG4) (hs2.mono hG4) fun p hp=>by
   rw [← hinv] at hp
   have hp:=qF hp
   exact ⟨(hm p hp).1,((hm p hp).2).mono ((hG2.trans hG3).trans hG4)⟩⟩
theorem zu {f : Fld} {z : V} {zb : Nat} (hrf : aZ ts k = some t) (hso : t.sort = 82) (h1 : b7 G b 0 [S k,S [82],.slice a ps.length c,.slice a2 ps.length c2]) (h2 : aP G (.slice a ps.length c) 1 ps.length (aj cB (ps.map dp))) (h3 : aP G (.slice a2 ps.length c2) 1 ps.length (aj dl (ps.map (·.2)))) (hm : ∀ p ∈ ps,p.1.1 ∈ t.fields ∧ RepR G ts p.1.2 p.1.1.kind p.2) (h9 : ps.length ≤ 100000) (hf : f ∈ t.fields) (hz : RepR G ts z f.kind zb) :
  bB Tryz.prog 88 [Pt b 0,I f.tag,Pt zb 0] G (fun r G'=>∃ b',r = Pt b' 0 ∧ RepR G' ts (.nd 82 [] 0 ((cW dp ((f,z),zb) f.tag ps false).map qU)) k b'):=by
 have htl : (ps.map dp).length = ps.length:=by simp
 have hbl : (ps.map (·.2)).length = ps.length:=by simp
 have hnd : dp ((f,z),zb) = f.tag:=rfl
 have hap1 : ∀ (gs : List ((Fld × V) × Nat)) (p : (Fld × V) × Nat),aj cB (gs.map dp) ++ [I (dp p)] = aj cB ((gs ++ [p]).map dp):=fun gs p=>by rw [List.map_append];exact (bO cB _ (dp p)).symm
 have hap2 : ∀ (gs : List ((Fld × V) × Nat)) (p : (Fld × V) × Nat),aj dl (gs.map (·.2)) ++ [Pt p.2 0] = aj dl ((gs ++ [p]).map (·.2)):=fun gs p=>by rw [List.map_append];exact (bO dl _ p.2).symm
 have hmem : ∀ {G' : Gh} {p : (Fld × V) × Nat},Gh.le G G' → p ∈ cW dp ((f,z),zb) f.tag ps false → p.1.1 ∈ t.fields ∧ RepR G' ts p.1.2 p.1.1.kind p.2:=fun hle hp=>by
  rcases rY hp with rfl | hp
  ·exact ⟨hf,hz.mono hle⟩
  ·exact ⟨(hm _ hp).1,((hm _ hp).2).mono hle⟩
 refine jB [(0,_),(1,_),(2,_)] Tryz.func88 Tryz.ntmps88 fun B hok hB hW=>?_
 repeat' (first | refine jR ?_ | (refine jo ?_;refine jV (cY rfl rfl) ?_) | (refine am (an (id:=1) _ (fun _ h=>h) al ?_);refine jT 5 [0,1,2,4,5,6] (aa 11 119) ?_;(refine jG (aa 11 127) 3 rfl (ah rfl rfl aS rfl rfl) ?_);(refine jG (aa 11 255) 7 rfl (ah rfl rfl aS rfl rfl) ?_);(refine jG (aa 11 511) 8 rfl (ax rfl rfl) ?_);refine jA 9 rfl ?_;(refine jO fun _=>?_);refine jS (aa 11 1023) ?_;refine jT 0 [10] (aa 11 2047) ?_;refine jQ ?_))
 rename_i x
 refine Nx.addNil rv 1 (Nx.addNil rt 1 ?_)
 refine aV (ι:=List ((Fld × V) × Nat) × Option Addr × Nat × Option Addr × Nat × Bool × Nat) (fun q=>(q.2.2.2.2.2.2 ≤ ps.length ∧ q.1.length ≤ 2 * q.2.2.2.2.2.2 + 1) ∧ cW dp ((f,z),zb) f.tag ps false = q.1 ++ cW dp ((f,z),zb) f.tag (ps.drop q.2.2.2.2.2.2) q.2.2.2.2.2.1) (fun q=>[(0,Pt b 0),(1,I f.tag),(2,Pt zb 0),(7,Pt x 0),(8,Bo q.2.2.2.2.2.1),(9,I q.2.2.2.2.2.2)]) (fun _=>G) (fun q=>[.acc (.slice q.2.2.2.1 q.1.length q.2.2.2.2.1) rt 1 q.1.length (aj dl (q.1.map (·.2))),.acc (.slice q.2.1 q.1.length q.2.2.1) rv 1 q.1.length (aj cB (q.1.map dp)),.blk x (.cells (List.toArray [S k,S [82],.slice q.2.1 q.1.length q.2.2.1,.slice q.2.2.2.1 q.1.length q.2.2.2.2.1]) nJ (0,0))]) (fun q=>ps.length - q.2.2.2.2.2.2) ([],none,0,none,0,false,0) ?_ tU rfl a8 (fun q Hq=>?_)
 ·exact ⟨⟨Nat.zero_le _,Nat.zero_le _⟩,rfl⟩
 obtain ⟨gs,a3,c3,a4,c4,d,i⟩:=q
 dsimp only at Hq ⊢
 obtain ⟨⟨hi0,hgl⟩,hinv⟩:=Hq
 by_cases hi : i < ps.length
 ·obtain ⟨xb,xo,xc,e,hs1⟩:=h2.expl oM
  simp only [Value.slice.injEq] at e
  obtain ⟨rfl,-,rfl⟩:=e
  obtain ⟨zc,zo,zd,e,hs2⟩:=h3.expl oM
  simp only [Value.slice.injEq] at e
  obtain ⟨rfl,-,rfl⟩:=e
  have hti : ab (ps.map dp) i = dp (ab ps i):=by rw [aA oM,aA hi];simp
  have hxi : ab (ps.map (·.2)) i = (ab ps i).2:=by rw [aA oM,aA hi];simp
  rw [t8 hi] at hinv
  have hl1 : (gs ++ [ab ps i]).length = gs.length + 1:=by simp
  have hl2 : (gs ++ [((f,z),zb)] ++ [ab ps i]).length = gs.length + 1 + 1:=by simp
  cases d with
  | true =>
   rw [if_neg (by simp),List.nil_append,Bool.true_or] at hinv
   by_cases hne : dp (ab ps i) = f.tag
   ·rw [if_pos hne,List.nil_append] at hinv
    repeat' (first | refine jM ?_ | (refine jo ?_;first | refine jV (ah rfl rfl aS rfl rfl) ?_ | (refine jV (bU rfl rfl aS ?_ aS rfl) ?_;focus omega) | refine jV (af rfl) ?_ | refine jV (ak rfl rfl oM) ?_ | refine aC rfl ?_) | refine ar rfl rfl rfl ?_ | refine ac rfl (ay oM) ?_ | (refine ad rfl (by first | rfl | (refine decide_eq_false ?_;(omega))) ?_))
    exact bj (gs,a3,c3,a4,c4,true,i + 1) ⟨⟨by dsimp only;omega,by dsimp only;omega⟩,hinv⟩ (by dsimp only;omega) tU rfl a8
   ·rw [if_neg hne,← List.append_assoc] at hinv
    repeat' (first | refine jR ?_ | (refine jo ?_;first | refine jV (ah rfl rfl aS rfl rfl) ?_ | (refine jV (bU rfl rfl aS ?_ aS rfl) ?_;focus omega) | refine jV (af rfl) ?_ | refine jV (ak rfl rfl oM) ?_ | refine aC rfl ?_) | refine ar rfl rfl rfl ?_ | (refine ac rfl (by refine decide_eq_true ?_;first | assumption | omega) ?_) | refine ad rfl rfl ?_)
    (refine am (an (id:=11) [] (fun _ h=>absurd h (by simp)) al ?_);refine jW 9 [0,1,2,3,5,6,7,9] (aa 17 751) ?_;(refine jG (aa 17 1007) 8 rfl (ah rfl rfl aS rfl rfl) ?_);((refine jG (aa 17 2031) 10 rfl (ak rfl rfl ?_) ?_;focus omega));((refine jG (aa 17 4079) 11 rfl (bU rfl rfl aS ?_ aS rfl) ?_;focus omega));refine b8 [4,12] kR dC ⟨?_,?_,trivial⟩;(focus (refine aO rfl rfl ?_;(refine aD rfl ?_);refine jK (aa 17 4095) ?_;refine jA 12 rfl ?_;(refine jF fun _=>?_);refine jK (aa 17 8191) ?_;refine jA 13 rfl ?_;((refine bC rfl rfl rfl rfl rfl rfl rfl rfl rfl ?_ fun _ _=>?_;focus omega));refine jK (aa 17 16383) ?_;refine jW 1 [14,15] (aa 17 65535) ?_;refine jA 16 rfl ?_;(refine jD rfl rfl rfl ?_);refine jK (aa 17 131071) ?_;refine jQ ?_));rotate_left 1;(focus (refine aO rfl rfl ?_;(refine jF fun _=>?_);refine jK (aa 17 8175) ?_;refine jA 4 rfl ?_;(refine aD rfl ?_);refine jK (aa 17 8191) ?_;refine jA 13 rfl ?_;((refine bC rfl rfl rfl rfl rfl rfl rfl rfl rfl ?_ fun _ _=>?_;focus omega));refine jK (aa 17 16383) ?_;refine jW 1 [14,15] (aa 17 65535) ?_;refine jA 16 rfl ?_;(refine jD rfl rfl rfl ?_);refine jK (aa 17 131071) ?_;refine jQ ?_));rotate_left 1)
    all_goals repeat' (refine jR ?_)
    all_goals (refine am (an (id:=12) [] (fun _ h=>absurd h (by simp)) al ?_);refine jW 9 [0,1,2,3,5,6,7,9] (aa 17 751) ?_;(refine jG (aa 17 1007) 8 rfl (ah rfl rfl aS rfl rfl) ?_);((refine jG (aa 17 2031) 10 rfl (ak rfl rfl ?_) ?_;focus omega));((refine jG (aa 17 4079) 11 rfl (bU rfl rfl aS ?_ aS rfl) ?_;focus omega));refine b8 [4,12] kR dC ⟨?_,?_,trivial⟩;(focus (refine aO rfl rfl ?_;(refine aD rfl ?_);refine jK (aa 17 4095) ?_;refine jA 12 rfl ?_;(refine jF fun _=>?_);refine jK (aa 17 8191) ?_;refine jA 13 rfl ?_;((refine bC rfl rfl rfl rfl rfl rfl rfl rfl rfl ?_ fun _ _=>?_;focus omega));refine jK (aa 17 16383) ?_;refine jW 1 [14,15] (aa 17 65535) ?_;refine jA 16 rfl ?_;(refine jD rfl rfl rfl ?_);refine jK (aa 17 131071) ?_;refine jQ ?_));rotate_left 1;(focus (refine aO rfl rfl ?_;(refine jF fun _=>?_);refine jK (aa 17 8175) ?_;refine jA 4 rfl ?_;(refine aD rfl ?_);refine jK (aa 17 8191) ?_;refine jA 13 rfl ?_;((refine bC rfl rfl rfl rfl rfl rfl rfl rfl rfl ?_ fun _ _=>?_;focus omega));refine jK (aa 17 16383) ?_;refine jW 1 [14,15] (aa 17 65535) ?_;refine jA 16 rfl ?_;(refine jD rfl rfl rfl ?_);refine jK (aa 17 131071) ?_;refine jQ ?_));rotate_left 1)
    all_goals repeat' (refine jM ?_)
    all_goals
     rename_i _ y1 yc1 _ y2 yc2
     rw [hap1,hap2]
     exact bj (gs ++ [ab ps i],some ⟨y1,0,none⟩,yc1,some ⟨y2,0,none⟩,yc2,true,i + 1) ⟨⟨by dsimp only;omega,by dsimp only;omega⟩,hinv⟩ (by dsimp only;omega) tU rfl (by rw [hl1];repeat (first | exact List.Sublist.refl _ | apply List.Sublist.cons_cons | apply List.Sublist.cons))
  | false =>
   rw [Bool.false_or] at hinv
   by_cases hgt : f.tag < dp (ab ps i)
   ·rw [if_pos ⟨hgt,rfl⟩,decide_eq_true hgt,if_neg oM,← List.append_assoc,← List.append_assoc] at hinv
    have hne : ¬ dp (ab ps i) = f.tag:=oM
    repeat' (first | refine jR ?_ | (refine jo ?_;first | refine aD rfl ?_ | refine jV (ah rfl rfl aS rfl rfl) ?_ | (refine jV (bU rfl rfl aS ?_ aS rfl) ?_;focus omega) | refine jV (af rfl) ?_ | refine jV (ak rfl rfl oM) ?_ | refine aN rfl ?_ | refine jF fun _=>?_ | refine bC rfl rfl rfl rfl rfl rfl rfl rfl rfl oM fun _ _=>?_ | refine jD rfl rfl rfl ?_) | refine aH rfl rfl rfl ?_ | (refine ac rfl (by refine decide_eq_true ?_;first | assumption | omega) ?_))
    (refine am (an (id:=11) [] (fun _ h=>absurd h (by simp)) al ?_);refine jW 9 [0,1,2,3,5,6,7,9] (aa 17 751) ?_;(refine jG (aa 17 1007) 8 rfl (ah rfl rfl aS rfl rfl) ?_);((refine jG (aa 17 2031) 10 rfl (ak rfl rfl ?_) ?_;focus omega));((refine jG (aa 17 4079) 11 rfl (bU rfl rfl aS ?_ aS rfl) ?_;focus omega));refine b8 [4,12] kR dC ⟨?_,?_,trivial⟩;(focus (refine aO rfl rfl ?_;(refine aD rfl ?_);refine jK (aa 17 4095) ?_;refine jA 12 rfl ?_;(refine jF fun _=>?_);refine jK (aa 17 8191) ?_;refine jA 13 rfl ?_;((refine bC rfl rfl rfl rfl rfl rfl rfl rfl rfl ?_ fun _ _=>?_;focus omega));refine jK (aa 17 16383) ?_;refine jW 1 [14,15] (aa 17 65535) ?_;refine jA 16 rfl ?_;(refine jD rfl rfl rfl ?_);refine jK (aa 17 131071) ?_;refine jQ ?_));rotate_left 1;(focus (refine aO rfl rfl ?_;(refine jF fun _=>?_);refine jK (aa 17 8175) ?_;refine jA 4 rfl ?_;(refine aD rfl ?_);refine jK (aa 17 8191) ?_;refine jA 13 rfl ?_;((refine bC rfl rfl rfl rfl rfl rfl rfl rfl rfl ?_ fun _ _=>?_;focus omega));refine jK (aa 17 16383) ?_;refine jW 1 [14,15] (aa 17 65535) ?_;refine jA 16 rfl ?_;(refine jD rfl rfl rfl ?_);refine jK (aa 17 131071) ?_;refine jQ ?_));rotate_left 1)
    all_goals repeat' (refine jR ?_)
    all_goals (refine am (an (id:=12) [] (fun _ h=>absurd h (by simp)) al ?_);refine jW 9 [0,1,2,3,5,6,7,9] (aa 17 751) ?_;(refine jG (aa 17 1007) 8 rfl (ah rfl rfl aS rfl rfl) ?_);((refine jG (aa 17 2031) 10 rfl (ak rfl rfl ?_) ?_;focus omega));((refine jG (aa 17 4079) 11 rfl (bU rfl rfl aS ?_ aS rfl) ?_;focus omega));refine b8 [4,12] kR dC ⟨?_,?_,trivial⟩;(focus (refine aO rfl rfl ?_;(refine aD rfl ?_);refine jK (aa 17 4095) ?_;refine jA 12 rfl ?_;(refine jF fun _=>?_);refine jK (aa 17 8191) ?_;refine jA 13 rfl ?_;((refine bC rfl rfl rfl rfl rfl rfl rfl rfl rfl ?_ fun _ _=>?_;focus omega));refine jK (aa 17 16383) ?_;refine jW 1 [14,15] (aa 17 65535) ?_;refine jA 16 rfl ?_;(refine jD rfl rfl rfl ?_);refine jK (aa 17 131071) ?_;refine jQ ?_));rotate_left 1;(focus (refine aO rfl rfl ?_;(refine jF fun _=>?_);refine jK (aa 17 8175) ?_;refine jA 4 rfl ?_;(refine aD rfl ?_);refine jK (aa 17 8191) ?_;refine jA 13 rfl ?_;((refine bC rfl rfl rfl rfl rfl rfl rfl rfl rfl ?_ fun _ _=>?_;focus omega));refine jK (aa 17 16383) ?_;refine jW 1 [14,15] (aa 17 65535) ?_;refine jA 16 rfl ?_;(refine jD rfl rfl rfl ?_);refine jK (aa 17 131071) ?_;refine jQ ?_));rotate_left 1)
    all_goals repeat' (refine jM ?_)
    all_goals
     rename_i _ y1 yc1 _ y2 yc2 _ y3 yc3 _ y4 yc4
     rw [show aj cB (gs.map dp) ++ [I f.tag] = aj cB ((gs ++ [((f,z),zb)]).map dp) from hap1 gs ((f,z),zb),show aj dl (gs.map (·.2)) ++ [Pt zb 0] = aj dl ((gs ++ [((f,z),zb)]).map (·.2)) from hap2 gs ((f,z),zb),hap1,hap2]
     exact bj (gs ++ [((f,z),zb)] ++ [ab ps i],some ⟨y3,0,none⟩,yc3,some ⟨y4,0,none⟩,yc4,true,i + 1) ⟨⟨by dsimp only;omega,by dsimp only;omega⟩,hinv⟩ (by dsimp only;omega) tU rfl (by rw [hl2];repeat (first | exact List.Sublist.refl _ | apply List.Sublist.cons_cons | apply List.Sublist.cons))
   ·rw [if_neg (by simp [hgt]),decide_eq_false hgt,List.nil_append] at hinv
    by_cases hne : dp (ab ps i) = f.tag
    ·rw [if_pos hne,List.nil_append] at hinv
     repeat' (first | refine jM ?_ | (refine jo ?_;first | refine jV (ah rfl rfl aS rfl rfl) ?_ | (refine jV (bU rfl rfl aS ?_ aS rfl) ?_;focus omega) | refine jV (af rfl) ?_ | refine jV (ak rfl rfl oM) ?_ | refine aN rfl ?_) | refine aH rfl rfl rfl ?_ | refine ac rfl (ay oM) ?_ | (refine ad rfl (by refine decide_eq_false ?_;first | assumption | omega) ?_))
     exact bj (gs,a3,c3,a4,c4,false,i + 1) ⟨⟨by dsimp only;omega,by dsimp only;omega⟩,hinv⟩ (by dsimp only;omega) tU rfl a8
    ·rw [if_neg hne,← List.append_assoc] at hinv
     repeat' (first | refine jR ?_ | (refine jo ?_;first | refine jV (ah rfl rfl aS rfl rfl) ?_ | (refine jV (bU rfl rfl aS ?_ aS rfl) ?_;focus omega) | refine jV (af rfl) ?_ | refine jV (ak rfl rfl oM) ?_ | refine aN rfl ?_) | refine aH rfl rfl rfl ?_ | (refine ac rfl (by refine decide_eq_true ?_;first | assumption | omega) ?_) | refine ad rfl (aG ‹_›) ?_)
     (refine am (an (id:=11) [] (fun _ h=>absurd h (by simp)) al ?_);refine jW 9 [0,1,2,3,5,6,7,9] (aa 17 751) ?_;(refine jG (aa 17 1007) 8 rfl (ah rfl rfl aS rfl rfl) ?_);((refine jG (aa 17 2031) 10 rfl (ak rfl rfl ?_) ?_;focus omega));((refine jG (aa 17 4079) 11 rfl (bU rfl rfl aS ?_ aS rfl) ?_;focus omega));refine b8 [4,12] kR dC ⟨?_,?_,trivial⟩;(focus (refine aO rfl rfl ?_;(refine aD rfl ?_);refine jK (aa 17 4095) ?_;refine jA 12 rfl ?_;(refine jF fun _=>?_);refine jK (aa 17 8191) ?_;refine jA 13 rfl ?_;((refine bC rfl rfl rfl rfl rfl rfl rfl rfl rfl ?_ fun _ _=>?_;focus omega));refine jK (aa 17 16383) ?_;refine jW 1 [14,15] (aa 17 65535) ?_;refine jA 16 rfl ?_;(refine jD rfl rfl rfl ?_);refine jK (aa 17 131071) ?_;refine jQ ?_));rotate_left 1;(focus (refine aO rfl rfl ?_;(refine jF fun _=>?_);refine jK (aa 17 8175) ?_;refine jA 4 rfl ?_;(refine aD rfl ?_);refine jK (aa 17 8191) ?_;refine jA 13 rfl ?_;((refine bC rfl rfl rfl rfl rfl rfl rfl rfl rfl ?_ fun _ _=>?_;focus omega));refine jK (aa 17 16383) ?_;refine jW 1 [14,15] (aa 17 65535) ?_;refine jA 16 rfl ?_;(refine jD rfl rfl rfl ?_);refine jK (aa 17 131071) ?_;refine jQ ?_));rotate_left 1)
     all_goals repeat' (refine jR ?_)
     all_goals (refine am (an (id:=12) [] (fun _ h=>absurd h (by simp)) al ?_);refine jW 9 [0,1,2,3,5,6,7,9] (aa 17 751) ?_;(refine jG (aa 17 1007) 8 rfl (ah rfl rfl aS rfl rfl) ?_);((refine jG (aa 17 2031) 10 rfl (ak rfl rfl ?_) ?_;focus omega));((refine jG (aa 17 4079) 11 rfl (bU rfl rfl aS ?_ aS rfl) ?_;focus omega));refine b8 [4,12] kR dC ⟨?_,?_,trivial⟩;(focus (refine aO rfl rfl ?_;(refine aD rfl ?_);refine jK (aa 17 4095) ?_;refine jA 12 rfl ?_;(refine jF fun _=>?_);refine jK (aa 17 8191) ?_;refine jA 13 rfl ?_;((refine bC rfl rfl rfl rfl rfl rfl rfl rfl rfl ?_ fun _ _=>?_;focus omega));refine jK (aa 17 16383) ?_;refine jW 1 [14,15] (aa 17 65535) ?_;refine jA 16 rfl ?_;(refine jD rfl rfl rfl ?_);refine jK (aa 17 131071) ?_;refine jQ ?_));rotate_left 1;(focus (refine aO rfl rfl ?_;(refine jF fun _=>?_);refine jK (aa 17 8175) ?_;refine jA 4 rfl ?_;(refine aD rfl ?_);refine jK (aa 17 8191) ?_;refine jA 13 rfl ?_;((refine bC rfl rfl rfl rfl rfl rfl rfl rfl rfl ?_ fun _ _=>?_;focus omega));refine jK (aa 17 16383) ?_;refine jW 1 [14,15] (aa 17 65535) ?_;refine jA 16 rfl ?_;(refine jD rfl rfl rfl ?_);refine jK (aa 17 131071) ?_;refine jQ ?_));rotate_left 1)
     all_goals repeat' (refine jM ?_)
     all_goals
      rename_i _ y1 yc1 _ y2 yc2
      rw [hap1,hap2]
      exact bj (gs ++ [ab ps i],some ⟨y1,0,none⟩,yc1,some ⟨y2,0,none⟩,yc2,false,i + 1) ⟨⟨by dsimp only;omega,by dsimp only;omega⟩,hinv⟩ (by dsimp only;omega) tU rfl (by rw [hl1];repeat (first | exact List.Sublist.refl _ | apply List.Sublist.cons_cons | apply List.Sublist.cons))
 ·rw [List.drop_eq_nil_of_le oM] at hinv
  cases d with
  | true =>
   rw [show cW dp ((f,z),zb) f.tag [] true = [] from rfl,List.append_nil] at hinv
   repeat' (first | refine jR ?_ | (refine jo ?_;first | refine jV (ah rfl rfl aS rfl rfl) ?_ | refine jV (af rfl) ?_) | (refine ad rfl (by first | rfl | (refine decide_eq_false ?_;(omega))) ?_))
   refine Nx.sealS (v:=.slice a3 gs.length c3) fun G2 hG2 hs1=>?_
   refine Nx.sealS (v:=.slice a4 gs.length c4) fun G3 hG3 hs2=>?_
   refine Nx.sealC (b:=x) fun G4 hG4 hsg=>?_
   refine jZ (vs:=[_]) rfl ⟨rfl,trivial⟩ rfl ⟨((hG2.trans hG3).trans hG4),rfl,?_⟩
   exact ⟨x,rfl,by rw [hinv];exact p5 hrf hso hsg ((hs1.mono hG3).mono hG4) (hs2.mono hG4) fun p hp=>hmem ((hG2.trans hG3).trans hG4) (by rw [hinv];exact hp)⟩
  | false =>
   rw [show cW dp ((f,z),zb) f.tag [] false = [((f,z),zb)] from rfl] at hinv
   have hl1 : (gs ++ [((f,z),zb)]).length = gs.length + 1:=by simp
   repeat' (first | refine jR ?_ | (refine jo ?_;first | refine aD rfl ?_ | refine jV (ah rfl rfl aS rfl rfl) ?_ | refine jV (af rfl) ?_ | refine jF fun _=>?_ | refine bC rfl rfl rfl rfl rfl rfl rfl rfl rfl oM fun _ _=>?_ | refine jD rfl rfl rfl ?_) | refine ac rfl rfl ?_ | refine ad rfl (aG oM) ?_)
   rename_i _ y1 yc1 _ y2 yc2
   rw [show aj cB (gs.map dp) ++ [I f.tag] = aj cB ((gs ++ [((f,z),zb)]).map dp) from hap1 gs ((f,z),zb),show aj dl (gs.map (·.2)) ++ [Pt zb 0] = aj dl ((gs ++ [((f,z),zb)]).map (·.2)) from hap2 gs ((f,z),zb),← hl1]
   refine Nx.sealS (v:=.slice (some ⟨y1,0,none⟩) (gs ++ [((f,z),zb)]).length yc1) fun G2 hG2 hs1=>?_
   refine Nx.sealS (v:=.slice (some ⟨y2,0,none⟩) (gs ++ [((f,z),zb)]).length yc2) fun G3 hG3 hs2=>?_
   refine Nx.sealC (b:=x) fun G4 hG4 hsg=>?_
   refine jZ (vs:=[_]) rfl ⟨rfl,trivial⟩ rfl ⟨((hG2.trans hG3).trans hG4),rfl,?_⟩
   exact ⟨x,rfl,by rw [hinv];exact p5 hrf hso hsg ((hs1.mono hG3).mono hG4) (hs2.mono hG4) fun p hp=>hmem ((hG2.trans hG3).trans hG4) (by rw [hinv];exact hp)⟩
end
variable {ts : List Ty}
theorem qX {fs : List Fld} {n : Int} {d : Fld} (h : ci fs n = some d) : d.tag = n ∧ d ∈ fs:=⟨by have:=List.find?_some h;simpa using this,List.mem_of_find?_eq_some h⟩
theorem rE : ∀ {ks : List V} {i : Nat} {y : V},i < ks.length → V.tots (ks.set i y) + (ab ks i).tot = V.tots ks + y.tot
 | [],i,y,h=>by simp at h
 | v :: ks,0,y,_=>by rw [List.set_cons_zero,V.tots,V.tots,show ab (v :: ks) 0 = v from rfl];omega
 | v :: ks,i + 1,y,h=>by
  have:=rE (ks:=ks) (i:=i) (y:=y) (by simpa using h)
  rw [List.set_cons_succ,V.tots,V.tots,show ab (v :: ks) (i + 1) = ab ks i from rfl];omega
theorem sf {f : Fld} {y : V} : V.tots (nf ts f y) ≤ 20 + y.tot:=by
 unfold nf
 split
 ·simp [V.tots]
 ·simp [V.tots,br]
theorem rU {f : Fld} {y : V} : ∀ {vs : List V},V.tots (dq ts f y vs) ≤ V.tots vs + 20 + y.tot
 | []=>by rw [eK];have:=sf (ts:=ts) (f:=f) (y:=y);simp only [V.tots];omega
 | v :: vs=>by
  have h1:=sf (ts:=ts) (f:=f) (y:=y)
  have h2:=rU (f:=f) (y:=y) (vs:=vs)
  rw [dt]
  split
  ·rw [V.tots,V.tots];omega
  ·rw [dT]
   split
   ·rw [V.tots];omega
   ·rw [V.tots];omega
theorem xh (v : V) : (ab v.kids 0).tot ≤ v.tot:=by
 obtain ⟨w,x,t,ks⟩:=v
 rw [br,V.kids]
 cases ks with
 | nil =>
  have : (ab ([] : List V) 0).tot = 20:=by show V.tot (.nd 0 [] 0 []) = 20;rw [br];simp [V.tots]
  omega
 | cons u ks=>rw [V.tots,show ab (u :: ks) 0 = u from rfl];omega
theorem qD {f : Fld} {y u : V} : ∀ {vs : List V},nk vs → cn f vs = some u → V.tots (dq ts f y vs) + u.tot ≤ V.tots vs + 20 + y.tot
 | [],_,h=>by cases h
 | v :: vs,hs,h=>by
  replace hs:=List.pairwise_cons.1 hs
  have h1:=sf (ts:=ts) (f:=f) (y:=y)
  rw [cn] at h
  rw [dt]
  by_cases he : v.tag = f.tag
  ·rw [if_pos he] at h
   simp only [Option.some.injEq] at h
   have h3:=xh v
   rw [h] at h3
   rw [if_neg oM,if_pos he,dT,V.tots];omega
  ·rw [if_neg he] at h
   by_cases hl : v.tag < f.tag
   ·have h2:=qD (y:=y) hs.2 h
    rw [if_pos hl,V.tots,V.tots];omega
   ·rw [lr fun z hz=>by have:=hs.1 z hz;omega] at h
    cases h
theorem wY (hw : SchW ts) {k : List UInt8} {v : V} (h : OfK ts k v) (hk : aB ts k = true) {n : Int} (hn : 0 ≤ n) {k1 : List UInt8} {v1 : V} (e : aE ts k v n = some (k1,v1)) (y : V) :
  (cG ts k v n y).tot + v1.tot ≤ v.tot + 40 + y.tot ∨ (v1.tot ≤ 40000 ∧ (cG ts k v n y).tot ≤ v.tot + 40 + y.tot):=by
 obtain ⟨c,r,rfl⟩:=dY hk
 unfold aE at e
 dsimp only at e
 split at e
 ·rename_i hc
  split at e
  ·rename_i hlt
   simp only [Option.some.injEq,Prod.mk.injEq] at e
   obtain ⟨rfl,rfl⟩:=e
   rcases c6 h oM with ⟨g1,_⟩ | ⟨g1,_⟩ | ⟨g1,_⟩ | ⟨g1,ks,g2,g3,rfl⟩ | ⟨g1,rfl | ⟨u,g3,rfl⟩⟩
   ·omega
   ·omega
   ·omega
   ·rw [V.kids] at hlt ⊢
    have hs:=rE (ks:=ks) (i:=n.toNat) (y:=y) oM
    unfold cG
    rw [V.what,if_neg dC,if_pos rfl,V.kids,br,br]
    left;omega
   ·simp [V.kids] at hlt;omega
   ·simp [V.kids] at hlt
    obtain rfl : n = 0:=oM
    unfold cG
    rw [V.what,if_neg dC,if_neg dC,V.kids,br,br]
    left
    simp only [V.tots]
    show 20 + _ + (y.tot + 0) + u.tot ≤ _
    omega
  ·cases e
 ·split at e
  ·cases e
  ·rename_i t hr
   have ht:=bn hr
   split at e
   ·cases e
   ·rename_i f hf
    have hfm:=List.mem_of_find?_eq_some hf
    split at e
    ·cases e
    ·rename_i h69
     split at e
     ·rename_i h82
      simp only [Option.some.injEq,Prod.mk.injEq] at e
      obtain ⟨rfl,rfl⟩:=e
      rcases bJ h hr with ⟨_,fs,rfl,g3,g4,g5,g6⟩ | ⟨g1,_⟩ | ⟨g1,_⟩
      ·have e1 : cG ts (c :: r) (.nd 82 [] 0 (fs.map aw)) n y = .nd 82 [] 0 (dq ts f y (fs.map aw)):=by
        unfold cG;rw [V.what,if_pos rfl,hr]
        dsimp only
        rw [hf];rfl
       rw [e1,br,br]
       unfold dI
       rw [V.kids]
       cases hto : cn f (fs.map aw) with
       | none =>
        have h1:=rU (ts:=ts) (f:=f) (y:=y) (vs:=fs.map aw)
        have h2:=oW hw ht h69 hfm
        right
        refine ⟨h2,?_⟩
        omega
       | some u =>
        have h1:=qD (ts:=ts) (y:=y) (oZ g6) hto
        left
        show _ + u.tot ≤ _
        omega
      ·omega
      ·omega
     ·rename_i h82
      split at e
      ·simp only [Option.some.injEq,Prod.mk.injEq] at e
       obtain ⟨rfl,rfl⟩:=e
       rcases bJ h hr with ⟨h1,_⟩ | ⟨h1,_⟩ | ⟨_,_,d,u,rfl,g4,g5⟩
       ·omega
       ·omega
       ·unfold cG
        rw [V.what,if_neg dC,if_neg dC,V.kids,br,br]
        left
        simp only [V.tots]
        show 20 + _ + (y.tot + 0) + u.tot ≤ _
        omega
      ·cases e
theorem gJ (hw : SchW ts) : ∀ {p : List Int} {k : List UInt8} {v y : V} {k' : List UInt8} {v' : V},OfK ts k v → aB ts k = true → (∀ n ∈ p,0 ≤ n) → bY ts k v p = some (k',v') → (bP ts k v p y).tot ≤ v.tot + 40040 * p.length + y.tot
 | [],k,v,y,k',v',h,hk,_,e=>by rw [bP];omega
 | n :: p,k,v,y,k',v',h,hk,hp,e=>by
  unfold bY at e
  cases hs : aE ts k v n with
  | none=>rw [hs] at e;cases e
  | some x =>
   rw [hs] at e
   obtain ⟨k1,v1⟩:=x
   have hn:=hp n (by simp)
   obtain ⟨h1,h2⟩:=cN hw h hk hn hs
   have ih:=gJ hw (y:=y) h1 h2 (fun m hm=>hp m (by simp [hm])) e
   rw [eL hs,List.length_cons]
   rcases wY hw h hk hn hs (bP ts k1 v1 p y) with g | ⟨g1,g2⟩
   ·omega
   ·omega
end Go.E
