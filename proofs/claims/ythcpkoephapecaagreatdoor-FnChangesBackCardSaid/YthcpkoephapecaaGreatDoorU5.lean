/- Contracts and plain laws that the statement rests on, part 5. Conditions: as each says. -/
import Derived.Test.YthcpkoephapecaaGreatDoorU4
set_option linter.unusedVariables false
set_option linter.unusedSimpArgs false
namespace Go.E
set_option maxRecDepth 20000
set_option maxHeartbeats 2000000
open Go.Proofs
variable {G : Gh}
theorem xv {ts : List Ty} {k s : adA} {u : V} {t : adA} {N : Nat} (hN : 12 ≤ N) (hl : s.length ≤ 400) (h : rd ts N k s = some (u,t)) : ce ts k s = if t = [] ∧ V.deep u ≤ 12 then some u else none:=by
 unfold ce
 rw [if_pos hl]
 cases h12 : rd ts 12 k s with
 | none =>
  dsimp only
  rw [if_neg]
  rintro ⟨_,hd⟩
  have:=yL _ 12 k s _ h hd
  rw [h12] at this;cases this
 | some x =>
  have h1:=yK (m:=N) hN h12
  rw [h] at h1
  have hd:=jw _ _ _ _ h12
  obtain rfl:=Option.some.inj h1
  dsimp only at hd ⊢
  cases t with
  | nil=>dsimp only;rw [if_pos ⟨rfl,hd⟩]
  | cons c t=>dsimp only;rw [if_neg (fun h=>by cases h.1)]
theorem xw {ts : List Ty} {k s : adA} {N : Nat} (hN : 12 ≤ N) (hl : s.length ≤ 400) (h : rd ts N k s = none) : ce ts k s = none:=by
 unfold ce
 rw [if_pos hl]
 cases h12 : rd ts 12 k s with
 | none=>rfl
 | some x=>rw [yK (m:=N) hN h12] at h;cases h
theorem lF {b : Nat} {qs : List dp} {k s : adA} (hS : ScI G b qs) (hw : SchW (aq qs)) (hk : aB (aq qs) k = true) (hs : s.length ≤ 10000000) :
  bB adz 57 [Pt b 0,Ag (c5 k),S s] G (fun v G'=>(ce (aq qs) k s = none ∧ v = Tu [zP,Bo false]) ∨ ∃ u c,ce (aq qs) k s = some u ∧ v = Tu [Ag (bJ c),Bo true] ∧ V.rep G' u c):=by
 unfold c5
 by_cases hl : s.length ≤ 400
 case neg =>
  have hno : ce (aq qs) k s = none:=by unfold ce;rw [if_neg hl]
  refine jB [(0,_),(1,_),(2,_)] Tryz.func57 Tryz.ntmps57 fun B hok hB hW=>?_
  repeat' (first | refine jR ?_ | (refine jo ?_;first | refine jO fun _=>?_ | refine jL fun _=>?_ | refine jV (ax rfl rfl) ?_ | refine jC rfl rfl rfl ?_) | refine ac rfl (ay oM) ?_)
  all_goals refine jZ (vs:=[_,_]) rfl ⟨aJ rfl rfl rfl rfl,rfl,trivial⟩ rfl ⟨Gh.le.refl _,rfl,?_⟩
  all_goals exact .inl ⟨hno,rfl⟩
 obtain ⟨N,hN⟩ : ∃ N,s.length + 12 ≤ N:=⟨_,Nat.le_refl _⟩
 have hN2 : 12 ≤ N:=oM
 have hV:=r4 (sc:=b) hw N
 have cy_vl : ∀ {r : Nat},fK adz 92 [Pt r 0,Ag (c5 k)] G [eG r b s false] (iT (rd (aq qs) N k) r b s false):=fun {r}=>hV G r k s false hS hk oM oM
 refine jB [(0,_),(1,_),(2,_)] Tryz.func57 Tryz.ntmps57 fun B hok hB hW=>?_
 repeat' (first | refine jR ?_ | (refine jo ?_;first | refine jO fun _=>?_ | refine jL fun _=>?_ | refine jV (ax rfl rfl) ?_ | refine bM rfl ?_) | refine ad rfl (aG oM) ?_)
 refine jo ?_
 rename_i r
 refine eH rfl rfl rfl (cy_vl (r:=r)) rfl ?_
 rintro _ G1 _ hle ⟨u1,c1,t1,b1,rfl,hrep,rfl,hP⟩
 dsimp only [zA,fA]
 obtain ⟨hPl,hP0,hP1⟩:=hP
 cases b1 with
 | true =>
  have hno : ce (aq qs) k s = none:=xw hN2 hl (by rcases (hP1 rfl).1 with h | h;cases h;exact h)
  repeat' (first | refine jR ?_ | (refine jo ?_;first | refine jL fun _=>?_ | refine jV (ax rfl rfl) ?_ | refine jC rfl rfl rfl ?_ | refine aD rfl ?_ | refine aM rfl ?_) | refine aF rfl rfl rfl ?_ | refine ac rfl rfl ?_)
  all_goals refine jZ (vs:=[_,_]) rfl ⟨aJ rfl rfl rfl rfl,rfl,trivial⟩ rfl ⟨hle,rfl,?_⟩
  all_goals exact .inl ⟨hno,rfl⟩
 | false =>
  have hrd:=(hP0 rfl).2
  have hof:=xv hN2 hl hrd
  have htt:=gt _ _ _ _ hrd
  dsimp only at htt
  by_cases ht : t1 = []
  case neg =>
   have hno : ce (aq qs) k s = none:=by rw [hof,if_neg (fun h=>ht h.1)]
   repeat' (first | refine jR ?_ | (refine jo ?_;first | refine jL fun _=>?_ | refine jV (ax rfl rfl) ?_ | refine jC rfl rfl rfl ?_ | refine aD rfl ?_ | refine aM rfl ?_ | refine aC rfl ?_) | refine aF rfl rfl (ay ‹_›) ?_ | refine ar rfl rfl rfl ?_ | refine ac rfl rfl ?_)
   all_goals refine jZ (vs:=[_,_]) rfl ⟨aJ rfl rfl rfl rfl,rfl,trivial⟩ rfl ⟨hle,rfl,?_⟩
   all_goals exact .inl ⟨hno,rfl⟩
  have hnn : ¬ t1 ≠ []:=fun h=>h ht
  have cx_dp:=xg (G:=G1) u1.tot (Nat.le_refl _) oM hrep
  have hdt:=o3 u1
  by_cases hd : V.deep u1 ≤ 12
  ·have hyes : ce (aq qs) k s = some u1:=by rw [hof,if_pos ⟨ht,hd⟩]
   repeat' (first | refine jR ?_ | (refine jo ?_;first | refine jL fun _=>?_ | refine jC rfl rfl rfl ?_ | refine aD rfl ?_ | refine bM rfl ?_ | refine aC rfl ?_ | refine ae rfl rfl rfl cx_dp rfl ?_) | (refine ar rfl rfl (by first | rfl | (refine decide_eq_false ?_;(assumption))) ?_) | refine ad rfl (aG oM) ?_)
   all_goals refine jZ (vs:=[_,_]) rfl ⟨aJ rfl rfl rfl rfl,rfl,trivial⟩ rfl ⟨hle,rfl,?_⟩
   all_goals exact .inr ⟨u1,c1,hyes,rfl,hrep⟩
  ·have hno : ce (aq qs) k s = none:=by rw [hof,if_neg (fun h=>hd h.2)]
   repeat' (first | refine jR ?_ | (refine jo ?_;first | refine jL fun _=>?_ | refine jV (ax rfl rfl) ?_ | refine jC rfl rfl rfl ?_ | refine aD rfl ?_ | refine bM rfl ?_ | refine aC rfl ?_ | refine ae rfl rfl rfl cx_dp rfl ?_) | (refine ar rfl rfl (by first | rfl | (refine decide_eq_false ?_;(assumption))) ?_) | refine ac rfl (ay oM) ?_)
   all_goals refine jZ (vs:=[_,_]) rfl ⟨aJ rfl rfl rfl rfl,rfl,trivial⟩ rfl ⟨hle,rfl,?_⟩
   all_goals exact .inl ⟨hno,rfl⟩
theorem li {s k : adA} (h : dq s k = true) : ∃ ts,aV s = some ts ∧ aB ts k = true ∧ SchW ts:=by
 unfold dq at h
 cases h1 : aV s with
 | none=>rw [h1] at h;cases h
 | some ts=>rw [h1] at h;exact ⟨ts,rfl,h,cY h1⟩
def cB (s k v : adA) : Option V:=match aV s with
 | some ts=>if aB ts k = true then ce ts k v else none
 | none=>none
theorem ph {s k w : adA} (h : s.length ≤ 1048576 ∧ k.length ≤ 1048576 ∧ w.length ≤ 1048576) (hno : cB s k w = none) : bB adz 39 [S s,S k,S w] G (fun v _=>∃ p a b c,v = Tu [p,Ag [S a,S b,S c],zP,Bo false]):=by
 by_cases hk : dq s k = true
 case neg =>
  have cx_bo1 : ∀ G,bB adz 67 [S s,S k] G (fun v _=>∃ p a b c,v = Tu [p,Ag [S a,S b,S c],Bo false]):=fun G=>by
   refine (tQ (G:=G) (s:=s) (k:=k) oM oM).mono ?_
   rintro v G' L' ⟨h1,h2,⟨_,p,a,b,c,rfl⟩ | ⟨b,qs,rfl,h4,h5,_⟩⟩
   ·exact ⟨h1,h2,p,a,b,c,rfl⟩
   ·exact absurd (by unfold dq;rw [h4];exact h5) hk
  refine jB [(0,_),(1,_),(2,_)] Tryz.func39 Tryz.ntmps39 fun B hok hB hW=>?_
  repeat' (first | refine jR ?_ | (refine jo ?_;first | refine jL fun _=>?_ | refine jC rfl rfl rfl ?_ | refine jV (ax rfl rfl) ?_ | (refine an rfl rfl rfl (cx_bo1 _) rfl ?_;rintro _ G hle ⟨p1,a1,b1,c1,rfl⟩;skip)) | refine ac rfl rfl ?_)
  all_goals refine jZ (vs:=[_,_,_,_]) rfl ⟨rfl,aJ rfl rfl rfl rfl,aJ rfl rfl rfl rfl,rfl,trivial⟩ rfl ⟨hle,rfl,?_⟩
  all_goals exact ⟨_,_,_,_,rfl⟩
 obtain ⟨ts,hs,hki,hw⟩:=li hk
 have hvo : ce ts k w = none:=by unfold cB at hno;rw [hs] at hno;dsimp only at hno;rwa [if_pos hki] at hno
 have cx_boa : ∀ G,bB adz 67 [S s,S k] G (fun v G'=>∃ b qs,v = Tu [Pt b 0,Ag [S (sg k),S (bs k),S (nm k)],Bo true] ∧ aq qs = ts ∧ ScI G' b qs):=fun G=>by
  refine (tQ (G:=G) (s:=s) (k:=k) oM oM).mono ?_
  rintro v G' L' ⟨h1,h2,⟨h4,_⟩ | ⟨b,qs,rfl,h4,h5,h6⟩⟩
  ·rw [h4] at hk;cases hk
  ·rw [hs] at h4;exact ⟨h1,h2,b,qs,rfl,(Option.some.inj h4).symm,h6⟩
 have cx_ri0 : ∀ G b qs,aq qs = ts → ScI G b qs → bB adz 57 [Pt b 0,Ag [S (sg k),S (bs k),S (nm k)],S w] G (fun v _=>v = Tu [zP,Bo false]):=fun G b qs hq hS=>by
  subst hq
  refine (lF (G:=G) (b:=b) (s:=w) hS hw hki oM).mono ?_
  rintro v G' L' ⟨h1,h2,⟨_,rfl⟩ | ⟨u,c,h4,_⟩⟩
  ·exact ⟨h1,h2,rfl⟩
  ·rw [hvo] at h4;cases h4
 refine jB [(0,_),(1,_),(2,_)] Tryz.func39 Tryz.ntmps39 fun B hok hB hW=>?_
 repeat' (first | refine jR ?_ | (refine jo ?_;first | refine jL fun _=>?_ | refine jC rfl rfl rfl ?_ | refine bM rfl ?_ | (refine an rfl rfl rfl (cx_boa _) rfl ?_;rintro _ G hle ⟨ba,qa,rfl,hT1,hR1⟩;skip) | (refine an rfl rfl rfl ((cx_ri0 _ _ _) (by (repeat (assumption));done) (by (repeat (assumption));done)) rfl ?_;rintro _ G hle rfl;skip)) | refine ad rfl rfl ?_ | (refine am (d4 (id:=5) (tt:=7) rfl al ?_);refine jW 5 [0,3,4] (aa 8 25) ?_;(refine jG (aa 8 27) 1 rfl (bP rfl rfl rfl rfl) ?_);(refine jG (aa 8 31) 2 rfl (bP rfl rfl rfl rfl) ?_);refine jA 5 rfl ?_;(refine jC rfl rfl rfl ?_);refine jK (aa 8 63) ?_;refine jA 6 rfl ?_;(refine jC rfl rfl rfl ?_);refine jK (aa 8 127) ?_;refine jW 0 [7] (aa 8 255) ?_;refine jQ ?_))
 all_goals refine jZ (vs:=[_,_,_,_]) rfl ⟨rfl,aJ rfl rfl rfl rfl,aJ rfl rfl rfl rfl,rfl,trivial⟩ rfl ⟨(Gh.le.trans aS hle),rfl,?_⟩
 all_goals exact ⟨_,_,_,_,rfl⟩
theorem pe {s k w : adA} {u : V} {ts : List Ty} (h : s.length ≤ 1048576 ∧ k.length ≤ 1048576 ∧ w.length ≤ 1048576) (hs : aV s = some ts) (hki : aB ts k = true) (hvo : ce ts k w = some u) :
  bB adz 39 [S s,S k,S w] G (fun v G'=>∃ b qs cv,v = Tu [Pt b 0,Ag [S (sg k),S (bs k),S (nm k)],Ag (bJ cv),Bo true] ∧ aq qs = ts ∧ ScI G' b qs ∧ V.rep G' u cv):=by
 have hw:=cY hs
 have hk : dq s k = true:=by unfold dq;rw [hs];exact hki
 have cx_boa : ∀ G,bB adz 67 [S s,S k] G (fun v G'=>∃ b qs,v = Tu [Pt b 0,Ag [S (sg k),S (bs k),S (nm k)],Bo true] ∧ aq qs = ts ∧ ScI G' b qs):=fun G=>by
  refine (tQ (G:=G) (s:=s) (k:=k) oM oM).mono ?_
  rintro v G' L' ⟨h1,h2,⟨h4,_⟩ | ⟨b,qs,rfl,h4,h5,h6⟩⟩
  ·rw [h4] at hk;cases hk
  ·rw [hs] at h4;exact ⟨h1,h2,b,qs,rfl,(Option.some.inj h4).symm,h6⟩
 have cx_ri1 : ∀ G b qs,aq qs = ts → ScI G b qs → bB adz 57 [Pt b 0,Ag [S (sg k),S (bs k),S (nm k)],S w] G (fun v G'=>∃ cv,v = Tu [Ag (bJ cv),Bo true] ∧ V.rep G' u cv):=fun G b qs hq hS=>by
  subst hq
  refine (lF (G:=G) (b:=b) (s:=w) hS hw hki oM).mono ?_
  rintro v G' L' ⟨h1,h2,⟨h4,_⟩ | ⟨u',c,h4,rfl,h5⟩⟩
  ·rw [hvo] at h4;cases h4
  ·rw [hvo] at h4;obtain rfl:=Option.some.inj h4;exact ⟨h1,h2,c,rfl,h5⟩
 refine jB [(0,_),(1,_),(2,_)] Tryz.func39 Tryz.ntmps39 fun B hok hB hW=>?_
 repeat' (first | refine jR ?_ | (refine jo ?_;first | refine jL fun _=>?_ | refine jC rfl rfl rfl ?_ | refine bM rfl ?_ | (refine an rfl rfl rfl (cx_boa _) rfl ?_;rintro _ G hle ⟨ba,qa,rfl,hT1,hR1⟩;skip) | (refine an rfl rfl rfl ((cx_ri1 _ _ _) (by (repeat (assumption));done) (by (repeat (assumption));done)) rfl ?_;rintro _ G hle ⟨cv,rfl,hrv⟩;skip)) | refine ad rfl rfl ?_)
 rename_i x7 x8 Ga hla x11 x13
 dsimp only [bJ,VC.sl]
 (refine am (ao (id:=5) [.blk x13 (.cells (List.toArray [U8 (cv.what : Nat),S cv.text,I cv.tag,.slice cv.a cv.n cv.c]) c8 (0,0)),.blk x11 (.cells (List.toArray [S (sg k),S (bs k),S (nm k)]) fD (0,0))] (by intro y hy;simp only [List.mem_cons,List.not_mem_nil,or_false] at hy ⊢;rcases hy with hy | hy <;> simp [hy]) al ?_);refine jW 5 [0,3,4] (aa 8 25) ?_;(refine jG (aa 8 27) 1 rfl (bP rfl rfl rfl rfl) ?_);(refine jG (aa 8 31) 2 rfl (bP rfl rfl rfl rfl) ?_);refine jA 5 rfl ?_;(refine jC rfl rfl rfl ?_);refine jK (aa 8 63) ?_;refine jA 6 rfl ?_;(refine jC rfl rfl rfl ?_);refine jK (aa 8 127) ?_;refine jW 0 [7] (aa 8 255) ?_;refine jQ ?_)
 all_goals repeat' (refine jR ?_)
 all_goals refine jZ (vs:=[_,_,_,_]) rfl ⟨rfl,aJ rfl rfl rfl rfl,aJ rfl rfl rfl rfl,rfl,trivial⟩ rfl ⟨(Gh.le.trans aS hle),rfl,?_⟩
 all_goals exact ⟨ba,qa,cv,rfl,hT1,hR1.mono hle,hrv⟩
def dw (b : Nat) : List Value:=[Pt b 0]
instance : RowF dw 1:=⟨fun _=>rfl⟩
def cH (n : Int) : List Value:=[I n]
instance : RowF cH 1:=⟨fun _=>rfl⟩
abbrev adg : TypeId:=9
abbrev n7 : TypeId:=86
inductive RepR (G : Gh) (ts : List Ty) : V → adA → Nat → Prop
 | leaf (w : Nat) (x k tx : adA) (b : Nat) : b9 G b 0 [S k,S tx,aQ,aQ] → ((w = 110 ∧ k = [110] ∧ tx = x ∧ ∀ c ∈ x,bn c = true) ∨ (w = 116 ∧ k = [116] ∧ tx = 39 :: (x ++ [39])) ∨ (w = 102 ∧ k = [102] ∧ tx = x ∧ (x = [121,101,115] ∨ x = [110,111]))) → RepR G ts (.nd w x 0 []) k b
 | lst (k : adA) (b : Nat) (ks : List V) (bs : List Nat) (a : Option Addr) (c : Nat) : b9 G b 0 [S (91 :: k),S [],aQ,.slice a ks.length c] → aU G (.slice a ks.length c) 1 ks.length (ak dw bs) → bs.length = ks.length → (∀ i,i < ks.length → RepR G ts (ab ks i) k (ab bs i)) → RepR G ts (.nd 91 [] 0 ks) (91 :: k) b
 | non (k : adA) (b : Nat) : b9 G b 0 [S (63 :: k),S [],aQ,aQ] → RepR G ts (.nd 63 [] 0 []) (63 :: k) b
 | opt (k : adA) (b kb b' cc : Nat) (v : V) : 1 ≤ cc → b9 G b 0 [S (63 :: k),S [],aQ,.slice (some ⟨kb,0,none⟩) 1 cc] → b9 G kb 0 [Pt b' 0] → RepR G ts v k b' → RepR G ts (.nd 63 [] 0 [v]) (63 :: k) b
 | recd (k : adA) (b : Nat) (t : Ty) (fs : List (Fld × V)) (bs : List Nat) (a a2 : Option Addr) (c c2 : Nat) : a8 ts k = some t ∧ t.sort = 82 → b9 G b 0 [S k,S [82],.slice a fs.length c,.slice a2 fs.length c2] → aU G (.slice a fs.length c) 1 fs.length (ak cH (fs.map fun p=>p.1.tag)) → aU G (.slice a2 fs.length c2) 1 fs.length (ak dw bs) → bs.length = fs.length → (∀ i,i < fs.length → (ab fs i).1 ∈ t.fields) → (∀ i,i < fs.length → RepR G ts (ab fs i).2 (ab fs i).1.kind (ab bs i)) → RepR G ts (.nd 82 [] 0 (fs.map fun p=>.nd 61 [] p.1.tag [p.2])) k b
 | enm (k : adA) (b tb : Nat) (t : Ty) (d : Fld) {tc : Nat} : a8 ts k = some t ∧ t.sort = 69 → d ∈ t.fields → b9 G b 0 [S k,S [69],.slice (some ⟨tb,0,none⟩) 1 (tc + 1),aQ] → b9 G tb 0 [I d.tag] → RepR G ts (.nd 69 [] d.tag []) k b
 | uni (k : adA) (b tb kb b' cc : Nat) (t : Ty) (d : Fld) (v : V) {tc : Nat} : 1 ≤ cc → a8 ts k = some t ∧ t.sort = 85 → d ∈ t.fields → b9 G b 0 [S k,S [85],.slice (some ⟨tb,0,none⟩) 1 (tc + 1),.slice (some ⟨kb,0,none⟩) 1 cc] → b9 G tb 0 [I d.tag] → b9 G kb 0 [Pt b' 0] → RepR G ts v d.kind b' → RepR G ts (.nd 85 [] d.tag [v]) k b
theorem RepR.mono {G G' : Gh} {ts : List Ty} (hl : Gh.le G G') {v : V} {k : adA} {b : Nat} (h : RepR G ts v k b) : RepR G' ts v k b:=by
 induction h with
 | leaf w x k tx b h1 h2=>exact .leaf w x k tx b (h1.mono hl) h2
 | lst k b ks bs a c h1 h2 h3 _ ih=>exact .lst k b ks bs a c (h1.mono hl) (h2.mono hl) h3 ih
 | non k b h1=>exact .non k b (h1.mono hl)
 | opt k b kb b' cc v h0 h1 h2 _ ih=>exact .opt k b kb b' cc v h0 (h1.mono hl) (h2.mono hl) ih
 | recd k b t fs bs a a2 c c2 h0 h1 h2 h3 h4 h5 _ ih=>exact .recd k b t fs bs a a2 c c2 h0 (h1.mono hl) (h2.mono hl) (h3.mono hl) h4 h5 ih
 | enm k b tb t d h0 h1 h2 h3=>exact .enm k b tb t d h0 h1 (h2.mono hl) (h3.mono hl)
 | uni k b tb kb b' cc t d v hcc h0 h1 h2 h3 h4 _ ih=>exact .uni k b tb kb b' cc t d v hcc h0 h1 (h2.mono hl) (h3.mono hl) (h4.mono hl) ih
def eQ (ts : List Ty) (f : Option (V × adA)) (k : adA) (v : Value) (G' : Gh) : Prop :=
 ∃ q rest ok,v = Tu [.pointer q,S rest,Bo ok] ∧ (ok = true → ∃ w b,q = some ⟨b,0,none⟩ ∧ f = some (w,rest) ∧ RepR G' ts w k b) ∧ (ok = false → f = none)
theorem tO {s : adA} (hs : s.length ≤ 100000000) : a9 adz 119 [S s] G (· = I ((s.takeWhile bn).length : Nat)):=by
 refine jE [(0,_)] Tryz.func119 Tryz.ntmps119 fun B hB=>?_
 repeat' (refine jR ?_)
 refine aT (ι:=Nat) (fun i=>i ≤ s.length ∧ i + ((s.drop i).takeWhile bn).length = (s.takeWhile bn).length) (fun i=>[(0,S s),(3,I i)]) (fun _=>G) (fun i=>[]) (fun i=>s.length - i) 0 ?_ tU rfl a7 (fun i Hi=>?_)
 ·exact ⟨Nat.zero_le _,by simp⟩
 obtain ⟨hi0,hi1⟩:=Hi
 by_cases hi : i < s.length
 ·obtain ⟨c,hc1,hc2⟩:=lD hi
  have hc3 : bt s ((i : Int).toNat) = c.toNat:=hc2
  rw [hc1,List.takeWhile_cons] at hi1
  by_cases hd : bn c = true
  ·rw [if_pos hd] at hi1
   have hd2:=hd
   unfold bn at hd2
   rw [decide_eq_true_eq] at hd2
   simp only [List.length_cons] at hi1
   repeat' (first | refine jM ?_ | (refine jo ?_;refine aM rfl ?_) | refine aF rfl rfl (ay oM) ?_ | refine ac rfl (ay oM) ?_)
   exact bh (i + 1) ⟨oM,oM⟩ oM tU rfl a7
  ·rw [if_neg hd] at hi1
   have hd2 : ¬ (48 ≤ c.toNat ∧ c.toNat ≤ 57):=fun h=>hd (by unfold bn;rw [decide_eq_true_eq];exact h)
   simp only [List.length_nil] at hi1
   repeat' (first | refine jM ?_ | (refine jo ?_;first | refine aM rfl ?_ | refine aC rfl ?_) | refine aF rfl rfl (ay oM) ?_ | refine fp rfl rfl (fun _=>?_) (fun _=>?_) | (refine ad rfl (by first | rfl | (refine decide_eq_false ?_;(omega))) ?_))
   all_goals refine jY (vs:=[_]) ?_
   all_goals (rw [aP,← hi1];rfl)
 ·have : i = s.length:=oM
  rw [this,List.drop_length] at hi1
  simp only [List.takeWhile_nil,List.length_nil] at hi1
  repeat' (first | refine jR ?_ | (refine jo ?_;refine aC rfl ?_) | (refine ar rfl rfl (by first | rfl | (refine decide_eq_false ?_;(omega))) ?_) | refine ad rfl rfl ?_)
  all_goals refine jY (vs:=[_]) ?_
  all_goals (rw [aP,← hi1,this];rfl)
theorem pq (q : UInt8 → Bool) (s : adA) : s.take ((((s.takeWhile q).length : Nat) : Int)).toNat = s.takeWhile q ∧ s.drop ((((s.takeWhile q).length : Nat) : Int)).toNat = s.dropWhile q:=by
 have h:=List.takeWhile_append_dropWhile (p:=q) (l:=s)
 have e : ((((s.takeWhile q).length : Nat) : Int)).toNat = (s.takeWhile q).length:=oM
 rw [e]
 constructor
 ·have h2 : (s.takeWhile q ++ s.dropWhile q).take (s.takeWhile q).length = s.takeWhile q:=List.take_left
  rwa [h] at h2
 ·have h2 : (s.takeWhile q ++ s.dropWhile q).drop (s.takeWhile q).length = s.dropWhile q:=List.drop_left
  rwa [h] at h2
theorem yn {u : Value} {ts : List Ty} {s : adA} (hu : u.oneCell' = true) (hs : s.length ≤ 100000000) : bB adz 85 [Ag [u],S s,S [110]] G (eQ ts ((cK 999999 s).map fun x=>(.nd 110 (bI x.1) 0 [],x.2)) [110]):=by
 have cx_dg:=tO (G:=G) hs
 obtain ⟨e1,e2⟩:=pq bn s
 have hwl:=eA bn s
 have hlen : (s.take ((((s.takeWhile bn).length : Nat) : Int)).toNat).length ≤ 100000000:=by rw [e1];omega
 refine jB [(0,_),(1,_),(2,_)] Tryz.func85 Tryz.ntmps85 fun B hok hB hW=>?_
 repeat' (first | refine jM ?_ | (refine jo ?_;first | refine jO fun _=>?_ | refine ae rfl rfl rfl cx_dg rfl ?_ | (refine eF rfl rfl rfl (ii oM) rfl ?_;rintro _ ⟨n,rfl,hnum⟩)) | refine ac rfl rfl ?_ | (refine am (ao (id:=6) _ (fun _ h=>h) al ?_);refine jW 5 [0,1,2,3,6,7,8,9] (aa 13 975) ?_;(refine jG (aa 13 991) 4 rfl (ax rfl rfl) ?_);refine jA 5 rfl ?_;(refine jO fun _=>?_);refine jS (aa 13 1023) ?_;refine jT 0 [10,11,12] (aa 13 8191) ?_;refine jQ ?_))
 rename_i x3 x4
 refine Nx.sealC (b:=x4) fun G2 hG2 hsy=>?_
 refine jZ (vs:=[_,_,_]) rfl ⟨rfl,rfl,rfl,trivial⟩ rfl ⟨hG2,rfl,?_⟩
 rw [bG]
 rw [e1] at hnum hsy
 rw [e1,e2]
 refine ⟨_,_,_,rfl,fun h=>?_,fun h=>?_⟩
 ·cases hm : aK (s.takeWhile bn) 999999 with
  | none=>rw [hm] at h;cases h
  | some m =>
   have hmd:=(d6 hm).2.1
   refine ⟨.nd 110 (bI m) 0 [],x4,rfl,by unfold cK;rw [hm];rfl,.leaf 110 _ _ _ _ hsy (.inl ⟨rfl,rfl,hmd,fun c hc=>List.all_eq_true.1 (List.all_takeWhile (l:=s) (p:=bn)) c (by rw [hmd];exact hc)⟩)⟩
 ·cases hm : aK (s.takeWhile bn) 999999 with
  | none=>unfold cK;rw [hm];rfl
  | some m=>rw [hm] at h;cases h
theorem pM {c : UInt8} {r : adA} {i : Nat} (hc : i ≤ r.length) (hn : ∀ j,j < i → bt r j ≠ 39) (hi : i = r.length ∨ bt r i = 39 ∧ i < r.length) :
  (dJ (c :: r) = if dW ((c :: r).take (min (i + 2) (r.length + 1))) = true then some (.nd 116 (r.take i) 0 [],r.drop (i + 1)) else none) ∧ (dW ((c :: r).take (min (i + 2) (r.length + 1))) = true → (c :: r).take (min (i + 2) (r.length + 1)) = 39 :: (r.take i ++ [39])):=by
 unfold dJ
 dsimp only
 rcases hi with hi | ⟨h39,hlt⟩
 ·have hcut : aH 39 r = (r,[],false):=qN fun j hj=>hn j oM
  have htk : (c :: r).take (min (i + 2) (r.length + 1)) = c :: r:=List.take_of_length_le (by simp;omega)
  have hno : dW (c :: r) = false:=by
   unfold dW
   refine decide_eq_false fun h=>?_
   obtain ⟨⟨h2,_⟩,_,h3,_⟩:=h
   simp only [List.length_cons] at h2
   rw [show (c :: r).length - 1 = (r.length - 1) + 1 by simp;omega,er] at h3
   exact hn (r.length - 1) oM h3
  rw [hcut,htk,hno]
  exact ⟨by simp,fun h=>(by cases h)⟩
 ·have hcut:=nW (k:=39) hlt hn h39
  have htk : (c :: r).take (min (i + 2) (r.length + 1)) = c :: (r.take i ++ [39]):=by
   rw [show min (i + 2) (r.length + 1) = (i + 1) + 1 by omega,List.take_succ_cons,co hlt]
   congr 1;congr 1;congr 1
   rw [aA hlt]
   have : bt r i = (r[i]).toNat:=by simp [bt,List.getD,List.getElem?_eq_getElem hlt]
   exact UInt8.toNat_inj.1 (by rw [← this,h39];rfl)
  rw [hcut,htk]
  dsimp only
  by_cases h : c.toNat = 39
  ·rw [if_pos h,show c = 39 from UInt8.toNat_inj.1 h]
   exact ⟨rfl,fun _=>rfl⟩
  ·have hno : ¬ dW (c :: (r.take i ++ [39])) = true:=fun ht=>by
    unfold dW at ht
    rw [decide_eq_true_eq] at ht
    exact h (by have:=ht.2.1;rwa [bj] at this)
   rw [if_neg h,if_neg hno]
   exact ⟨rfl,fun h2=>absurd h2 hno⟩
theorem ym {u : Value} {ts : List Ty} {s : adA} (hu : u.oneCell' = true) (hs : s.length ≤ 100000000) (hne : s ≠ []) : bB adz 85 [Ag [u],S s,S [116]] G (eQ ts (dJ s) [116]):=by
 match s,hne with
 | c :: r,_ =>
 simp only [List.length_cons] at hs
 have hcl : (c :: r).length = r.length + 1:=rfl
 refine jB [(0,_),(1,_),(2,_)] Tryz.func85 Tryz.ntmps85 fun B hok hB hW=>?_
 repeat' (first | refine jR ?_ | (refine jo ?_;refine jO fun _=>?_) | refine ac rfl rfl ?_ | refine ad rfl rfl ?_)
 rename_i x3
 refine aT (ι:=Nat) (fun i=>i ≤ r.length ∧ ∀ j,j < i → bt r j ≠ 39) (fun i=>[(1,S (c :: r)),(2,S [116]),(9,I (i + 1 : Nat))]) (fun _=>G) (fun i=>[]) (fun i=>r.length - i) 0 ?_ tU rfl (by repeat (exact List.nil_sublist _)) (fun i Hi=>?_)
 ·exact ⟨Nat.zero_le _,fun j hj=>absurd hj oM⟩
 obtain ⟨hi0,hi1⟩:=Hi
 have hb : bt (c :: r) ((i + 1 : Nat) : Int).toNat = bt r i:=er c r i
 by_cases hi : i < r.length
 ·by_cases h39 : bt r i = 39
  ·have h39' : bt (c :: r) ((i + 1 : Nat) : Int).toNat = 39:=by rw [hb];exact h39
   have hq:=pM (c:=c) hi0 hi1 (.inr ⟨h39,hi⟩)
   have e3 : (min (((i + 1 : Nat) : Int) + 1) ((((c :: r).length : Nat) : Int))).toNat = min (i + 2) (r.length + 1):=oM
   have cx_tx:=g8 (G:=G) (s:=(c :: r).take (min (((i + 1 : Nat) : Int) + 1) ((((c :: r).length : Nat) : Int))).toNat) (by rw [List.length_take];omega)
   repeat' (first | refine jM ?_ | (refine jo ?_;first | refine aM rfl ?_ | refine jV (vJ rfl rfl) ?_) | refine aF rfl rfl (ay oM) ?_ | refine ad rfl (aG oM) ?_ | (refine am (ao (id:=12) _ (fun _ h=>h) al ?_);refine jW 6 [0,1,2,3,6,7,8,9,10,11] (aa 16 4047) ?_;(refine jG (aa 16 4063) 4 rfl (ax rfl rfl) ?_);refine b8 [5,12] kR dC ⟨?_,?_,trivial⟩;(focus (refine aO rfl rfl ?_;(refine jO fun _=>?_);refine jS (aa 16 4095) ?_;refine jA 12 rfl ?_;((refine ae rfl rfl rfl (g8 ?_) rfl ?_;(focus ((simp;omega);done))));refine jS (aa 16 8191) ?_;refine jW 0 [13,14,15] (aa 16 65535) ?_;refine jQ ?_));rotate_left 1;(focus (refine aO rfl rfl ?_;((refine ae rfl rfl rfl (g8 ?_) rfl ?_;(focus ((simp;omega);done))));refine jS (aa 16 8159) ?_;refine jA 5 rfl ?_;(refine jO fun _=>?_);refine jS (aa 16 8191) ?_;refine jW 0 [13,14,15] (aa 16 65535) ?_;refine jQ ?_));rotate_left 1))
   all_goals
    rename_i x4
    refine Nx.sealC (b:=x4) fun G2 hG2 hsy=>?_
    refine jZ (vs:=[_,_,_]) rfl ⟨rfl,rfl,rfl,trivial⟩ rfl ⟨hG2,rfl,?_⟩
    rw [bG]
    rw [e3] at hsy
    rw [e3]
    refine ⟨_,_,_,rfl,fun h=>?_,fun h=>?_⟩
    ·have htk:=hq.2 h
     rw [htk] at hsy
     have hdr : (c :: r).drop (min (i + 2) (r.length + 1)) = r.drop (i + 1):=by
      rcases Nat.lt_or_ge i r.length with h2 | h2
      ·rw [show min (i + 2) (r.length + 1) = (i + 1) + 1 by omega];rfl
      ·rw [List.drop_eq_nil_of_le (by simp;omega),List.drop_eq_nil_of_le oM]
     exact ⟨_,x4,rfl,by rw [hq.1,if_pos h,hdr],.leaf 116 _ _ _ _ hsy (.inr (.inl ⟨rfl,rfl,rfl⟩))⟩
    ·rw [hq.1,if_neg (by rw [h];decide)]
  ·have h39' : ¬ bt (c :: r) ((i + 1 : Nat) : Int).toNat = 39:=by rw [hb];exact h39
   repeat' (first | refine jM ?_ | (refine jo ?_;refine aM rfl ?_) | refine aF rfl rfl (ay oM) ?_ | refine ac rfl (ay oM) ?_)
   refine Nx.re (d:=9) (v':=I (i + 1 + 1 : Nat)) rfl (congrArg (Value.int .i64) oM) ?_
   exact bh (i + 1) ⟨oM,fun j hj=>(by
    rcases Nat.lt_or_ge j i with h | h
    ·exact hi1 j h
    ·have : j = i:=oM
     subst this;exact h39)⟩ oM tU rfl a7
 ·have hq:=pM (c:=c) hi0 hi1 (.inl oM)
  have e3 : (min (((i + 1 : Nat) : Int) + 1) ((((c :: r).length : Nat) : Int))).toNat = min (i + 2) (r.length + 1):=oM
  have cx_tx:=g8 (G:=G) (s:=(c :: r).take (min (((i + 1 : Nat) : Int) + 1) ((((c :: r).length : Nat) : Int))).toNat) (by rw [List.length_take];omega)
  repeat' (first | refine jM ?_ | (refine jo ?_;first | refine aC rfl ?_ | refine jV (vJ rfl rfl) ?_) | refine ar rfl rfl (aG oM) ?_ | refine ad rfl rfl ?_ | (refine am (ao (id:=12) _ (fun _ h=>h) al ?_);refine jW 6 [0,1,2,3,6,7,8,9,10,11] (aa 16 4047) ?_;(refine jG (aa 16 4063) 4 rfl (ax rfl rfl) ?_);refine b8 [5,12] kR dC ⟨?_,?_,trivial⟩;(focus (refine aO rfl rfl ?_;(refine jO fun _=>?_);refine jS (aa 16 4095) ?_;refine jA 12 rfl ?_;((refine ae rfl rfl rfl (g8 ?_) rfl ?_;(focus ((simp;omega);done))));refine jS (aa 16 8191) ?_;refine jW 0 [13,14,15] (aa 16 65535) ?_;refine jQ ?_));rotate_left 1;(focus (refine aO rfl rfl ?_;((refine ae rfl rfl rfl (g8 ?_) rfl ?_;(focus ((simp;omega);done))));refine jS (aa 16 8159) ?_;refine jA 5 rfl ?_;(refine jO fun _=>?_);refine jS (aa 16 8191) ?_;refine jW 0 [13,14,15] (aa 16 65535) ?_;refine jQ ?_));rotate_left 1))
  all_goals
   rename_i x4
   refine Nx.sealC (b:=x4) fun G2 hG2 hsy=>?_
   refine jZ (vs:=[_,_,_]) rfl ⟨rfl,rfl,rfl,trivial⟩ rfl ⟨hG2,rfl,?_⟩
   rw [bG]
   rw [e3] at hsy
   rw [e3]
   refine ⟨_,_,_,rfl,fun h=>?_,fun h=>?_⟩
   ·have htk:=hq.2 h
    rw [htk] at hsy
    have hdr : (c :: r).drop (min (i + 2) (r.length + 1)) = r.drop (i + 1):=by
     rcases Nat.lt_or_ge i r.length with h2 | h2
     ·rw [show min (i + 2) (r.length + 1) = (i + 1) + 1 by omega];rfl
     ·rw [List.drop_eq_nil_of_le (by simp;omega),List.drop_eq_nil_of_le oM]
    exact ⟨_,x4,rfl,by rw [hq.1,if_pos h,hdr],.leaf 116 _ _ _ _ hsy (.inr (.inl ⟨rfl,rfl,rfl⟩))⟩
   ·rw [hq.1,if_neg (by rw [h];decide)]
theorem yp {u : Value} {ts : List Ty} {s : adA} (hu : u.oneCell' = true) (hs : s.length ≤ 100000000) : bB adz 85 [Ag [u],S s,S [102]] G (eQ ts (eL s) [102]):=by
 have hpf : ∀ l : adA,l.isPrefixOf s = true ↔ l.length ≤ s.length ∧ s.take l.length = l:=fun l=>by
  rw [List.isPrefixOf_iff_prefix]
  constructor
  ·rintro ⟨t,rfl⟩;simp
  ·rintro ⟨h1,h2⟩;exact ⟨s.drop l.length,by rw [show l ++ s.drop l.length = s.take l.length ++ s.drop l.length from by rw [h2]];exact List.take_append_drop _ _⟩
 refine jB [(0,_),(1,_),(2,_)] Tryz.func85 Tryz.ntmps85 fun B hok hB hW=>?_
 repeat' (first | refine jR ?_ | (refine jo ?_;first | refine jO fun _=>?_ | refine jF fun _=>?_ | refine jV (af rfl) ?_) | refine ad rfl rfl ?_)
 rename_i x3 x4
 refine aT (ι:=Nat) (fun i=>i ≤ 2 ∧ (1 ≤ i → ([121,101,115] : adA).isPrefixOf s = false) ∧ (2 ≤ i → ([110,111] : adA).isPrefixOf s = false)) (fun i=>[(1,S s),(2,S [102]),(68,.slice (some ⟨x4,0,none⟩) 2 2),(69,I (2 : Nat)),(70,I i)]) (fun _=>G) (fun i=>[.blk x4 (.cells (List.toArray [S [121,101,115],S [110,111]]) adg (0,0))]) (fun i=>2 - i) 0 ?_ tU rfl sB (fun i Hi=>?_)
 ·exact ⟨Nat.zero_le _,fun h=>absurd h oM,fun h=>absurd h oM⟩
 obtain ⟨hi0,hi1,hi2⟩:=Hi
 have h3 : i = 0 ∨ i = 1 ∨ i = 2:=oM
 rcases h3 with rfl | rfl | rfl
 ·cases hp : ([121,101,115] : adA).isPrefixOf s with
  | true =>
   obtain ⟨h1,h2⟩:=(hpf _).1 hp
   have h1' : (((([121,101,115] : adA).length : Nat) : Int)) ≤ s.length:=oM
   have h2' : s.take (((([121,101,115] : adA).length : Nat) : Int)).toNat = [121,101,115]:=h2
   repeat' (first | refine jM ?_ | (refine jo ?_;first | refine aM rfl ?_ | refine jV (ag rfl rfl oM) ?_ | refine aD rfl ?_) | refine aF rfl rfl (ay ‹_›) ?_ | (refine ac rfl (by first | rfl | (refine decide_eq_true ?_;(assumption))) ?_) | (refine am (ao (id:=17) _ (fun _ h=>h) al ?_);refine jW 5 [0,1,4,5,6,7] (aa 11 243) ?_;(refine jG (aa 11 247) 2 rfl (ax rfl rfl) ?_);refine jA 3 rfl ?_;(refine jO fun _=>?_);refine jS (aa 11 255) ?_;refine jT 0 [8,9,10] (aa 11 2047) ?_;refine jQ ?_))
   all_goals
    rename_i y
    refine Nx.sealC (b:=y) fun G2 hG2 hsy=>?_
    refine jZ (vs:=[_,_,_]) rfl ⟨rfl,rfl,rfl,trivial⟩ rfl ⟨hG2,rfl,?_⟩
    rw [bG]
    exact ⟨_,_,_,rfl,fun _=>⟨.nd 102 [121,101,115] 0 [],y,rfl,by unfold eL;rw [hp,if_pos rfl];rfl,.leaf 102 _ _ _ _ hsy (.inr (.inr ⟨rfl,rfl,rfl,.inl rfl⟩))⟩,fun h=>(by cases h)⟩
  | false =>
   have hn : ¬ ((([121,101,115] : adA).length : Nat) ≤ s.length ∧ s.take ([121,101,115] : adA).length = [121,101,115]):=fun h=>by rw [(hpf _).2 h] at hp;cases hp
   have hn' : ¬ ((((([121,101,115] : adA).length : Nat) : Int)) ≤ s.length ∧ s.take (((([121,101,115] : adA).length : Nat) : Int)).toNat = [121,101,115]):=fun h=>hn ⟨oM,h.2⟩
   by_cases h1' : (((([121,101,115] : adA).length : Nat) : Int)) ≤ s.length
   ·have h2' : ¬ s.take (((([121,101,115] : adA).length : Nat) : Int)).toNat = [121,101,115]:=fun h=>hn' ⟨h1',h⟩
    repeat' (first | refine jM ?_ | (refine jo ?_;first | refine aM rfl ?_ | refine jV (ag rfl rfl oM) ?_ | refine aD rfl ?_) | refine aF rfl rfl (ay ‹_›) ?_ | refine ac rfl rfl ?_ | refine ad rfl (aG ‹_›) ?_)
    exact bh 1 ⟨oM,fun _=>rfl,fun h=>absurd h oM⟩ oM tU rfl a7
   ·repeat' (first | refine jM ?_ | (refine jo ?_;first | refine aC rfl ?_ | refine jV (ag rfl rfl oM) ?_ | refine aD rfl ?_) | refine ar rfl rfl (aG ‹_›) ?_ | refine ac rfl rfl ?_ | refine ad rfl rfl ?_)
    exact bh 1 ⟨oM,fun _=>rfl,fun h=>absurd h oM⟩ oM tU rfl a7
 ·have hy:=hi1 (Nat.le_refl _)
  cases hp : ([110,111] : adA).isPrefixOf s with
  | true =>
   obtain ⟨h1,h2⟩:=(hpf _).1 hp
   have h1' : (((([110,111] : adA).length : Nat) : Int)) ≤ s.length:=oM
   have h2' : s.take (((([110,111] : adA).length : Nat) : Int)).toNat = [110,111]:=h2
   repeat' (first | refine jM ?_ | (refine jo ?_;first | refine aM rfl ?_ | refine jV (ag rfl rfl oM) ?_ | refine aD rfl ?_) | refine aF rfl rfl (ay ‹_›) ?_ | (refine ac rfl (by first | rfl | (refine decide_eq_true ?_;(assumption))) ?_) | (refine am (ao (id:=17) _ (fun _ h=>h) al ?_);refine jW 5 [0,1,4,5,6,7] (aa 11 243) ?_;(refine jG (aa 11 247) 2 rfl (ax rfl rfl) ?_);refine jA 3 rfl ?_;(refine jO fun _=>?_);refine jS (aa 11 255) ?_;refine jT 0 [8,9,10] (aa 11 2047) ?_;refine jQ ?_))
   all_goals
    rename_i y
    refine Nx.sealC (b:=y) fun G2 hG2 hsy=>?_
    refine jZ (vs:=[_,_,_]) rfl ⟨rfl,rfl,rfl,trivial⟩ rfl ⟨hG2,rfl,?_⟩
    rw [bG]
    exact ⟨_,_,_,rfl,fun _=>⟨.nd 102 [110,111] 0 [],y,rfl,by unfold eL;rw [hy,if_neg dC,hp,if_pos rfl];rfl,.leaf 102 _ _ _ _ hsy (.inr (.inr ⟨rfl,rfl,rfl,.inr rfl⟩))⟩,fun h=>(by cases h)⟩
  | false =>
   have hn : ¬ ((([110,111] : adA).length : Nat) ≤ s.length ∧ s.take ([110,111] : adA).length = [110,111]):=fun h=>by rw [(hpf _).2 h] at hp;cases hp
   have hn' : ¬ ((((([110,111] : adA).length : Nat) : Int)) ≤ s.length ∧ s.take (((([110,111] : adA).length : Nat) : Int)).toNat = [110,111]):=fun h=>hn ⟨oM,h.2⟩
   by_cases h1' : (((([110,111] : adA).length : Nat) : Int)) ≤ s.length
   ·have h2' : ¬ s.take (((([110,111] : adA).length : Nat) : Int)).toNat = [110,111]:=fun h=>hn' ⟨h1',h⟩
    repeat' (first | refine jM ?_ | (refine jo ?_;first | refine aM rfl ?_ | refine jV (ag rfl rfl oM) ?_ | refine aD rfl ?_) | refine aF rfl rfl (ay ‹_›) ?_ | refine ac rfl rfl ?_ | refine ad rfl (aG ‹_›) ?_)
    exact bh 2 ⟨oM,fun _=>hy,fun _=>rfl⟩ oM tU rfl a7
   ·repeat' (first | refine jM ?_ | (refine jo ?_;first | refine aC rfl ?_ | refine jV (ag rfl rfl oM) ?_ | refine aD rfl ?_) | refine ar rfl rfl (aG ‹_›) ?_ | refine ac rfl rfl ?_ | refine ad rfl rfl ?_)
    exact bh 2 ⟨oM,fun _=>hy,fun _=>rfl⟩ oM tU rfl a7
 ·repeat' (first | refine jR ?_ | refine ad rfl rfl ?_)
  refine jZ (vs:=[_,_,_]) rfl ⟨rfl,rfl,rfl,trivial⟩ rfl ⟨Gh.le.refl _,rfl,?_⟩
  rw [bG]
  exact ⟨_,_,_,rfl,fun h=>(by cases h),fun _=>by unfold eL;rw [hi1 oM,if_neg dC,hi2 oM,if_neg dC]⟩
theorem rX {u : Value} {x : cy} {s : adA} (hs : s.length ≤ 100000000) (hu : u.oneCell' = true) (hf : aU G (gn x) 4 x.2.fields.length (ak g0 x.2.fields)) (hl : x.2.fields.length ≤ 1000) :
  a9 adz 118 [Ag [u],S s,Ag (ka x)] G (fun v=>∃ n,v = Tu [Ag (g0 ((ck x.2.fields n).getD zF)),S (s.dropWhile bn),Bo ((aK (s.takeWhile bn) 200).isSome && (ck x.2.fields n).isSome)] ∧ ∀ m,aK (s.takeWhile bn) 200 = some m → n = m):=by
 have cx_dg:=tO (G:=G) hs
 obtain ⟨e1,e2⟩:=pq bn s
 have hwl:=eA bn s
 have hlen : (s.take ((((s.takeWhile bn).length : Nat) : Int)).toNat).length ≤ 100000000:=by rw [e1];omega
 simp only [ka]
 refine jE [(0,_),(1,_),(2,_)] Tryz.func118 Tryz.ntmps118 fun B hB=>?_
 repeat' (first | refine jM ?_ | (refine jo ?_;first | refine jO fun _=>?_ | refine jL fun _=>?_ | refine bM rfl ?_ | refine ae rfl rfl rfl cx_dg rfl ?_ | (refine eF rfl rfl rfl (ii oM) rfl ?_;rintro _ ⟨n,rfl,hnum⟩)))
 rename_i n
 have cx_fld:=tN (G:=G) (tag:=n) hf hl
 rw [e1] at hnum
 cases hm : (aK (s.take ((((s.takeWhile bn).length : Nat) : Int)).toNat) 200).isSome with
 | false =>
  repeat' (first | refine jR ?_ | (refine jo ?_;first | refine jL fun _=>?_ | refine jC rfl rfl rfl ?_ | refine ae rfl rfl rfl cx_fld rfl ?_) | (refine am (d4 (id:=4) (tt:=6) rfl al ?_);refine jW 6 [1,2,3,4,5] (aa 11 62) ?_;(try (refine Nx.re (d:=34) (v':=Bo false) rfl (congrArg Value.bool rfl) ?_));refine jW 5 [6] (aa 11 126) ?_;(refine jG (aa 11 127) 0 rfl (bP rfl rfl rfl rfl) ?_);((refine jG (aa 11 255) 7 rfl (bm rfl rfl ?_) ?_;(focus ((rfl);done))));refine jA 8 rfl ?_;(refine jC rfl rfl rfl ?_);refine jK (aa 11 511) ?_;refine jW 0 [9,10] (aa 11 2047) ?_;refine jQ ?_))
  all_goals refine jZ (vs:=[_,_,_]) rfl ⟨aJ rfl rfl rfl rfl,rfl,rfl,trivial⟩ rfl ⟨rfl,rfl,?_⟩
  all_goals (rw [bG];exact ⟨n,by rw [e1] at hm;rw [hm,e2];rfl,hnum⟩)
 | true =>
  repeat' (first | refine jR ?_ | (refine jo ?_;first | refine jL fun _=>?_ | refine jC rfl rfl rfl ?_ | refine ae rfl rfl rfl cx_fld rfl ?_) | (refine am (d4 (id:=4) (tt:=6) rfl al ?_);refine jW 6 [1,2,3,4,5] (aa 11 62) ?_;(try (refine Nx.re (d:=34) (v':=Bo true) rfl (congrArg Value.bool rfl) ?_));refine jW 5 [6] (aa 11 126) ?_;(refine jG (aa 11 127) 0 rfl (bP rfl rfl rfl rfl) ?_);((refine jG (aa 11 255) 7 rfl (bO rfl rfl ?_) ?_;(focus ((rfl);done))));refine jA 8 rfl ?_;(refine jC rfl rfl rfl ?_);refine jK (aa 11 511) ?_;refine jW 0 [9,10] (aa 11 2047) ?_;refine jQ ?_))
  all_goals refine jZ (vs:=[_,_,_]) rfl ⟨aJ rfl rfl rfl rfl,rfl,rfl,trivial⟩ rfl ⟨rfl,rfl,?_⟩
  all_goals (rw [bG];exact ⟨n,by rw [e1] at hm;rw [hm,e2];rfl,hnum⟩)
def iE (v : V) : Prop:=v.out.length + 1 ≤ 2 * v.tot
theorem kO : ∀ {ks : List V},(∀ v ∈ ks,iE v) → dI (V.outs ks) + ks.length ≤ 2 * V.tots ks
 | [],_=>by simp [V.outs,dI]
 | v :: r,h=>by
  have h1:=h v (.head _)
  have h2:=kO fun u hu=>h u (.tail _ hu)
  unfold iE at h1
  simp only [V.outs,dI,List.map_cons,List.sum_cons,V.tots,List.length_cons] at *
  omega
theorem gD {w : Nat} {x : adA} {t : Int} {ks : List V} (h : ∀ v ∈ ks,iE v) (ht : t ≤ 999999) : iE (.nd w x t ks):=by
 have h1:=kO h
 have h2:=gv 44 (V.outs ks)
 rw [ku] at h2
 have h4:=sL (w:=w) (x:=x) (e:=ks.isEmpty) (j:=aL 44 (V.outs ks)) ht
 have h5:=di ks
 unfold iE
 rw [V.out,V.tot]
 omega
theorem pO {α : Type} [Inhabited α] {l : List α} {x : α} (h : x ∈ l) : ∃ i,i < l.length ∧ ab l i = x:=by
 obtain ⟨i,hi,rfl⟩:=List.mem_iff_getElem.1 h
 exact ⟨i,hi,aA hi⟩
theorem kp {ts : List Ty} (hw : SchW ts) {k : adA} {t : Ty} (h : a8 ts k = some t) {d : Fld} (hd : d ∈ t.fields) : d.tag ≤ 999999 ∧ 0 ≤ d.tag:=by
 have:=((hw.ty t (br h)).fld d hd).tag
 omega
theorem dn {ts : List Ty} {k : adA} {t : Ty} (h : a8 ts k = some t) : ∃ r,k = 64 :: r:=by
 unfold a8 at h
 cases k with
 | nil=>cases h
 | cons c r =>
  unfold b7 at h
  dsimp only at h
  by_cases h64 : c.toNat = 64
  ·exact ⟨r,by rw [show c = 64 from UInt8.toNat_inj.1 h64]⟩
  ·rw [if_neg h64] at h;cases h
theorem l9 {ts : List Ty} (hw : SchW ts) {v : V} {k : adA} {b : Nat} (h : RepR G ts v k b) : iE v:=by
 induction h with
 | leaf w x k tx b h1 h2=>exact gD (by simp) dC
 | lst k b ks bs a c h1 h2 h3 _ ih =>
  exact gD (fun v hv=>by obtain ⟨i,hi,rfl⟩:=pO hv;exact ih i hi) dC
 | non k b h1=>exact gD (by simp) dC
 | opt k b kb b' cc v h0 h1 h2 _ ih=>exact gD (fun u hu=>by simp only [List.mem_singleton] at hu;subst hu;exact ih) dC
 | recd k b t fs bs a a2 c c2 h0 h1 h2 h3 h4 h5 _ ih =>
  refine gD (fun v hv=>?_) dC
  obtain ⟨p,hp,rfl⟩:=List.mem_map.1 hv
  obtain ⟨i,hi,rfl⟩:=pO hp
  exact gD (fun u hu=>by simp only [List.mem_singleton] at hu;subst hu;exact ih i hi) (kp hw h0.1 (h5 i hi)).1
 | enm k b tgb t d h0 h1 h2 h3=>exact gD (by simp) (kp hw h0.1 h1).1
 | uni k b tgb kb b' cc t d v hcc h0 h1 h2 h3 h4 _ ih=>exact gD (fun u hu=>by simp only [List.mem_singleton] at hu;subst hu;exact ih) (kp hw h0.1 h1).1
theorem pQ {c : UInt8} {xs : List adA} {i : Nat} (h : i < xs.length) : aL c (xs.take (i + 1)) = if 0 < i then aL c (xs.take i) ++ c :: ab xs i else ab xs i:=by
 rw [co h]
 by_cases hi : 0 < i
 ·rw [if_pos hi,mg]
  rw [ne_eq,List.take_eq_nil_iff]
  rintro (h0 | h0)
  ·omega
  ·subst h0;simp at h
 ·have : i = 0:=oM
  subst this;rfl
theorem fP {ts : List Ty} (hw : SchW ts) {v : V} {k : adA} {b : Nat} (h : RepR G ts v k b) : v.tot ≤ 1000000000000 → a9 adz 49 [Pt b 0] G (· = S v.out):=by
 induction h with
 | leaf w x k tx b h1 h2 =>
  intro _
  rcases h2 with ⟨rfl,rfl,rfl,_⟩ | ⟨rfl,rfl,rfl⟩ | ⟨rfl,rfl,rfl,_⟩
  all_goals
   refine jE [(0,_)] Tryz.func49 Tryz.ntmps49 fun B hB=>?_
   repeat' (first | refine jX ?_ | (refine jo ?_;refine jV (aj rfl rfl aS rfl rfl) ?_) | refine ad rfl rfl ?_)
   refine jY (vs:=[_]) ?_
   rw [aP,V.out];rfl
 | lst k b ks bs a c h1 h2 h3 hk ih =>
  intro ht
  rw [bA] at ht
  have hb:=kO (ks:=ks) fun v hv=>by obtain ⟨i,hi,rfl⟩:=pO hv;exact l9 hw (hk i hi)
  have hol:=ku ks
  refine jE [(0,_)] Tryz.func49 Tryz.ntmps49 fun B hB=>?_
  repeat' (first | refine jX ?_ | (refine jo ?_;refine jV (aj rfl rfl aS rfl rfl) ?_) | refine ac rfl rfl ?_)
  refine aT (ι:=Nat) (fun i=>i ≤ ks.length) (fun i=>[(0,Pt b 0),(3,S (91 :: aL 44 ((V.outs ks).take i))),(4,I i)]) (fun _=>G) (fun i=>[]) (fun i=>ks.length - i) 0 ?_ tU rfl a7 (fun i Hi=>?_)
  ·exact Nat.zero_le _
  have hj1:=gv 44 ((V.outs ks).take i)
  have hj2:=fm (V.outs ks) i
  have hj3 : ((V.outs ks).take i).length ≤ ks.length:=by rw [List.length_take];omega
  by_cases hi : i < ks.length
  ·have hti:=gB hi
   have cx_out:=ih i hi oM
   have hou:=l7 hi
   have hxi : ab bs i = ab bs i:=rfl
   have hob:=l9 hw (hk i hi)
   unfold iE at hob
   have hst:=pQ (c:=44) (xs:=V.outs ks) (i:=i) oM
   rw [hou] at hst
   obtain ⟨kb,ko,kc,e,hs⟩:=h2.expl oM
   simp only [Value.slice.injEq] at e
   obtain ⟨rfl,-,rfl⟩:=e
   by_cases h0 : 0 < i
   ·rw [if_pos h0] at hst
    repeat' (first | refine jX ?_ | (refine jo ?_;first | refine jV (aj rfl rfl aS rfl rfl) ?_ | (refine jV (bW rfl rfl aS ?_ aS rfl) ?_;focus omega) | refine jV (af rfl) ?_ | refine jV (ag rfl rfl oM) ?_ | refine ae rfl rfl rfl cx_out rfl ?_) | refine ac rfl (ay oM) ?_)
    refine Nx.re (d:=3) (v':=S (91 :: aL 44 ((V.outs ks).take (i + 1)))) rfl (congrArg (fun l=>S l) (by rw [hst];simp)) ?_
    exact bh (i + 1) oM oM tU rfl a7
   ·rw [if_neg h0] at hst
    have hi0 : i = 0:=oM
    subst hi0
    repeat' (first | refine jX ?_ | (refine jo ?_;first | (refine jV (gf rfl rfl aS ?_ aS rfl rfl) ?_;focus omega) | refine jV (aj rfl rfl aS rfl rfl) ?_ | refine jV (af rfl) ?_ | refine jV (ag rfl rfl oM) ?_ | refine ae rfl rfl rfl cx_out rfl ?_) | refine ac rfl (ay oM) ?_ | refine ad rfl rfl ?_)
    refine Nx.re (d:=3) (v':=S (91 :: aL 44 ((V.outs ks).take (0 + 1)))) rfl (congrArg (fun l=>S l) (by rw [hst];rfl)) ?_
    exact bh (0 + 1) oM oM tU rfl a7
  ·have hin : i = ks.length:=oM
   subst hin
   repeat' (first | refine jX ?_ | (refine jo ?_;first | refine jV (aj rfl rfl aS rfl rfl) ?_ | refine jV (af rfl) ?_) | refine ad rfl (aG oM) ?_)
   refine jY (vs:=[_]) ?_
   rw [aP,V.out,← hol,List.take_length];rfl
 | non k b h1 =>
  intro _
  refine jE [(0,_)] Tryz.func49 Tryz.ntmps49 fun B hB=>?_
  repeat' (first | refine jX ?_ | (refine jo ?_;first | refine jV (aj rfl rfl aS rfl rfl) ?_ | refine jV (af rfl) ?_) | refine ac rfl rfl ?_ | refine ad rfl rfl ?_)
  refine jY (vs:=[_]) ?_
  rfl
 | opt k b kb b' cc v h0 h1 h2 h3 ih =>
  intro ht
  simp only [bA,V.tots] at ht
  have cx_out:=ih oM
  have hob:=l9 hw h3
  unfold iE at hob
  refine jE [(0,_)] Tryz.func49 Tryz.ntmps49 fun B hB=>?_
  repeat' (first | refine jX ?_ | (refine jo ?_;first | refine jV (aj rfl rfl aS rfl rfl) ?_ | refine jV (af rfl) ?_ | refine jV (aN rfl rfl oM) ?_ | refine ae rfl rfl rfl cx_out rfl ?_) | refine ac rfl rfl ?_ | refine ad rfl rfl ?_)
  refine jY (vs:=[_]) ?_
  rw [aP,V.out];rfl
 | recd k b t fs bs a a2 c c2 h0 h1 h2 h3 h4 h5 hk ih =>
  intro ht
  obtain ⟨r,rfl⟩:=dn h0.1
  rw [bA] at ht
  have hB1 : ∀ v ∈ fs.map (fun p : Fld × V=>V.nd 61 [] p.1.tag [p.2]),iE v:=fun v hv=>by
   obtain ⟨p,hp,rfl⟩:=List.mem_map.1 hv
   obtain ⟨i,hi,rfl⟩:=pO hp
   exact gD (fun u hu=>by simp only [List.mem_singleton] at hu;subst hu;exact l9 hw (hk i hi)) (kp hw h0.1 (h5 i hi)).1
  have hb:=kO hB1
  have hml : (fs.map (fun p : Fld × V=>V.nd 61 [] p.1.tag [p.2])).length = fs.length:=by simp
  have hol:=ku (fs.map (fun p : Fld × V=>V.nd 61 [] p.1.tag [p.2]))
  have hnt : ∀ i,i < fs.length → ab (fs.map (fun p : Fld × V=>V.nd 61 [] p.1.tag [p.2])) i = V.nd 61 [] (ab fs i).1.tag [(ab fs i).2]:=fun i hi=>by rw [aA (by simpa using hi),aA hi];simp
  generalize hKS : fs.map (fun p : Fld × V=>V.nd 61 [] p.1.tag [p.2]) = KS at *
  have cx_nmd : a9 adz 82 [Pt b 0] G (· = S (V.out (.nd 82 [] 0 KS))):=by
   refine jE [(0,_)] Tryz.func82 Tryz.ntmps82 fun B hB=>?_
   repeat' (first | refine jR ?_ | (refine jo ?_;refine jV (aj rfl rfl aS rfl rfl) ?_) | refine ad rfl rfl ?_)
   refine aT (ι:=Nat) (fun i=>i ≤ fs.length) (fun i=>[(0,Pt b 0),(3,S (123 :: aL 44 ((V.outs KS).take i))),(4,I i)]) (fun _=>G) (fun i=>[]) (fun i=>fs.length - i) 0 ?_ tU rfl a7 (fun i Hi=>?_)
   ·exact Nat.zero_le _
   have hj1:=gv 44 ((V.outs KS).take i)
   have hj2:=fm (V.outs KS) i
   have hj3 : ((V.outs KS).take i).length ≤ fs.length:=by rw [List.length_take];omega
   by_cases hi : i < fs.length
   ·have hti:=gB (ks:=KS) (i:=i) oM
    rw [hnt i hi] at hti
    simp only [bA,V.tots] at hti
    have cx_out:=ih i hi oM
    have hou:=l7 (ks:=KS) (i:=i) oM
    rw [hnt i hi,gc] at hou
    have hxi : ab bs i = ab bs i:=rfl
    have htg:=kp hw h0.1 (h5 i hi)
    have hdl:=gJ htg.1
    have hob:=l9 hw (hk i hi)
    unfold iE at hob
    have hst:=pQ (c:=44) (xs:=V.outs KS) (i:=i) oM
    rw [hou] at hst
    have htn : ab (fs.map fun p : Fld × V=>p.1.tag) i = (ab fs i).1.tag:=by rw [aA (by simpa using hi),aA hi];simp
    have htl : (fs.map fun p : Fld × V=>p.1.tag).length = fs.length:=by simp
    obtain ⟨tgb,to,tc,e,hs1⟩:=h2.expl oM
    simp only [Value.slice.injEq] at e
    obtain ⟨rfl,-,rfl⟩:=e
    obtain ⟨kb,ko,kc,e,hs2⟩:=h3.expl oM
    simp only [Value.slice.injEq] at e
    obtain ⟨rfl,-,rfl⟩:=e
    by_cases hp0 : 0 < i
    ·rw [if_pos hp0] at hst
     repeat' (first | refine jX ?_ | (refine jo ?_;first | refine jV (aj rfl rfl aS rfl rfl) ?_ | refine jV (af rfl) ?_) | refine ac rfl (ay oM) ?_ | (refine am (ao (id:=12) _ (fun _ h=>h) al ?_);refine jT 12 [0,1,2,3,5,11,12,13,15] (aa 21 47151) ?_;(refine jG (aa 21 47167) 4 rfl (aj rfl rfl aS rfl rfl) ?_);(refine jG (aa 21 47231) 6 rfl (ag rfl rfl oM) ?_);((refine jG (aa 21 47359) 7 rfl (bW rfl rfl aS ?_ aS rfl) ?_;focus omega));(refine jG (aa 21 63743) 14 rfl (aj rfl rfl aS rfl rfl) ?_);(refine jG (aa 21 129279) 16 rfl (ag rfl rfl oM) ?_);((refine jG (aa 21 260351) 17 rfl (bW rfl rfl aS ?_ aS rfl) ?_;focus omega));refine jA 8 rfl ?_;(refine ae rfl rfl rfl (dD oM) rfl ?_);refine jS (aa 21 260607) ?_;refine jW 3 [9,10] (aa 21 262143) ?_;refine jA 18 rfl ?_;(refine ae rfl rfl rfl cx_out rfl ?_);refine jS (aa 21 524287) ?_;refine jW 0 [19,20] (aa 21 2097151) ?_;refine jQ ?_))
     all_goals
      refine Nx.re (d:=3) (v':=S (123 :: aL 44 ((V.outs KS).take (i + 1)))) rfl (congrArg (fun l=>S l) (by rw [hst];simp)) ?_
      exact bh (i + 1) oM oM tU rfl a7
    ·rw [if_neg hp0] at hst
     have hi0 : i = 0:=oM
     subst hi0
     repeat' (first | refine jM ?_ | (refine jo ?_;first | refine jV (aj rfl rfl aS rfl rfl) ?_ | refine jV (af rfl) ?_) | refine ac rfl (ay oM) ?_ | refine ad rfl rfl ?_ | (refine am (ao (id:=12) _ (fun _ h=>h) al ?_);refine jT 12 [0,1,2,3,5,11,12,13,15] (aa 21 47151) ?_;(refine jG (aa 21 47167) 4 rfl (aj rfl rfl aS rfl rfl) ?_);(refine jG (aa 21 47231) 6 rfl (ag rfl rfl oM) ?_);((refine jG (aa 21 47359) 7 rfl (bW rfl rfl aS ?_ aS rfl) ?_;focus omega));(refine jG (aa 21 63743) 14 rfl (aj rfl rfl aS rfl rfl) ?_);(refine jG (aa 21 129279) 16 rfl (ag rfl rfl oM) ?_);((refine jG (aa 21 260351) 17 rfl (gf rfl rfl aS ?_ aS rfl rfl) ?_;focus omega));refine jA 8 rfl ?_;(refine ae rfl rfl rfl (dD oM) rfl ?_);refine jS (aa 21 260607) ?_;refine jW 3 [9,10] (aa 21 262143) ?_;refine jA 18 rfl ?_;(refine ae rfl rfl rfl cx_out rfl ?_);refine jS (aa 21 524287) ?_;refine jW 0 [19,20] (aa 21 2097151) ?_;refine jQ ?_))
     all_goals
      refine Nx.re (d:=3) (v':=S (123 :: aL 44 ((V.outs KS).take (0 + 1)))) rfl (congrArg (fun l=>S l) (by rw [hst];simp [aL])) ?_
      exact bh (0 + 1) oM oM tU rfl a7
   ·have hin : i = fs.length:=oM
    repeat' (first | refine jX ?_ | (refine jo ?_;first | refine jV (aj rfl rfl aS rfl rfl) ?_ | refine jV (af rfl) ?_) | refine ad rfl (aG oM) ?_)
    refine jY (vs:=[_]) ?_
    rw [aP,V.out,hin,← hml,← hol,List.take_length];rfl
  refine jE [(0,_)] Tryz.func49 Tryz.ntmps49 fun B hB=>?_
  repeat' (first | refine jX ?_ | (refine jo ?_;first | refine jV (aj rfl rfl aS rfl rfl) ?_ | refine ae rfl rfl rfl cx_nmd rfl ?_) | refine ac rfl rfl ?_ | refine ad rfl rfl ?_)
  refine jY (vs:=[_]) ?_
  rfl
 | enm k b tgb t d h0 h1 h2 h3 =>
  intro _
  obtain ⟨r,rfl⟩:=dn h0.1
  have htg:=kp hw h0.1 h1
  have hdl:=gJ htg.1
  have cx_nmd : a9 adz 82 [Pt b 0] G (· = S (V.out (.nd 69 [] d.tag []))):=by
   refine jE [(0,_)] Tryz.func82 Tryz.ntmps82 fun B hB=>?_
   repeat' (first | refine jX ?_ | (refine jo ?_;first | refine jV (aj rfl rfl aS rfl rfl) ?_ | refine jV (aN rfl rfl oM) ?_ | refine ae rfl rfl rfl (dD oM) rfl ?_) | refine ac rfl rfl ?_ | refine ad rfl rfl ?_)
   refine jY (vs:=[_]) ?_
   rw [aP,V.out];rfl
  refine jE [(0,_)] Tryz.func49 Tryz.ntmps49 fun B hB=>?_
  repeat' (first | refine jX ?_ | (refine jo ?_;first | refine jV (aj rfl rfl aS rfl rfl) ?_ | refine ae rfl rfl rfl cx_nmd rfl ?_) | refine ac rfl rfl ?_ | refine ad rfl rfl ?_)
  refine jY (vs:=[_]) ?_
  rfl
 | uni k b tgb kb b' cc t d v hcc h0 h1 h2 h3 h4 hk ih =>
  intro ht
  obtain ⟨r,rfl⟩:=dn h0.1
  have htg:=kp hw h0.1 h1
  have hdl:=gJ htg.1
  simp only [bA,V.tots] at ht
  have cx_out:=ih oM
  have hob:=l9 hw hk
  unfold iE at hob
  have cx_nmd : a9 adz 82 [Pt b 0] G (· = S (V.out (.nd 85 [] d.tag [v]))):=by
   refine jE [(0,_)] Tryz.func82 Tryz.ntmps82 fun B hB=>?_
   repeat' (first | refine jR ?_ | (refine jo ?_;refine jV (aj rfl rfl aS rfl rfl) ?_) | refine ac rfl rfl ?_ | (refine am (ao (id:=3) _ (fun _ h=>h) al ?_);refine jT 13 [0,1,2,9,10,11] (aa 19 3591) ?_;(refine jG (aa 19 3599) 3 rfl (aj rfl rfl aS rfl rfl) ?_);(refine jG (aa 19 3615) 4 rfl (aN rfl rfl oM) ?_);(refine jG (aa 19 3647) 5 rfl (aj rfl rfl aS rfl rfl) ?_);(refine jG (aa 19 7743) 12 rfl (aj rfl rfl aS rfl rfl) ?_);(refine jG (aa 19 15935) 13 rfl (aN rfl rfl oM) ?_);(refine jG (aa 19 32319) 14 rfl (aj rfl rfl aS rfl rfl) ?_);refine jA 6 rfl ?_;(refine ae rfl rfl rfl (dD oM) rfl ?_);refine jS (aa 19 32383) ?_;refine jW 4 [7,8] (aa 19 32767) ?_;refine jA 15 rfl ?_;(refine ae rfl rfl rfl cx_out rfl ?_);refine jS (aa 19 65535) ?_;refine jW 0 [16,17,18] (aa 19 524287) ?_;refine jQ ?_))
   all_goals refine jY (vs:=[_]) ?_
   all_goals (rw [aP,V.out];simp [V.outs,cW,aL])
  clear cx_out
  refine jE [(0,_)] Tryz.func49 Tryz.ntmps49 fun B hB=>?_
  repeat' (first | refine jX ?_ | (refine jo ?_;first | refine jV (aj rfl rfl aS rfl rfl) ?_ | refine ae rfl rfl rfl cx_nmd rfl ?_) | refine ac rfl rfl ?_ | refine ad rfl rfl ?_)
  refine jY (vs:=[_]) ?_
  rfl
abbrev aaK : TypeId:=56
abbrev tRd : TypeId:=90
def k5 (n : Nat) (u : Value) (vs : List cy) : Prop:=∀ (G : Gh) (k s : adA),SchR G u vs → aB (ah vs) k = true → s.length ≤ 2000000 →
 bB adz 50 [Ag [u],S s,S k,I (n : Nat)] G (eQ (ah vs) (rd (ah vs) n k s) k)
theorem aal {n : Nat} {u : Value} {vs : List cy} {k s : adA} (hR : k5 n u vs) (h : SchR G u vs) (hk : aB (ah vs) k = true) (hs : s.length ≤ 2000000) (hn : n ≤ 1000) :
  bB adz 83 [Ag [u],S s,S (91 :: k),I (n + 1 : Nat)] G (eQ (ah vs) (fM (rd (ah vs) n k) (91 :: s)) (91 :: k)):=by
 have edn : ((n + 1 : Nat) : Int) - 1 = (n : Nat):=oM
 by_cases h93 : ∃ s2,s = 93 :: s2
 ·obtain ⟨s2,rfl⟩:=h93
  refine jB [(0,_),(1,_),(2,_),(3,_)] Tryz.func83 Tryz.ntmps83 fun B hok hB hW=>?_
  repeat' (first | refine jX ?_ | (refine jo ?_;first | refine jO fun _=>?_ | refine jV (ax rfl rfl) ?_ | refine aM rfl ?_) | refine aF rfl rfl rfl ?_ | refine ac rfl rfl ?_ | (refine am (ao (id:=3) _ (fun _ h=>h) al ?_);refine jW 0 [0,1,2,3,4,5] (aa 6 63) ?_;refine jQ ?_))
  rename_i x4 x11
  refine Nx.sealC (b:=x11) fun G2 hG2 hsy=>?_
  refine jZ (vs:=[_,_,_]) rfl ⟨rfl,rfl,rfl,trivial⟩ rfl ⟨hG2,rfl,?_⟩
  rw [bG]
  exact ⟨_,_,_,rfl,fun _=>⟨.nd 91 [] 0 [],x11,rfl,rfl,.lst k x11 [] [] none 0 hsy ⟨rfl,.inl ⟨rfl,rfl⟩⟩ rfl (fun i hi=>absurd hi (by simp))⟩,fun h=>(by cases h)⟩
 have hRl : fM (rd (ah vs) n k) (91 :: s) = (bK (rd (ah vs) n k) 20 s []).map fun x=>(.nd 91 [] 0 x.1,x.2):=by
  unfold fM
  dsimp only
  rw [if_pos (show (91 : UInt8).toNat = 91 from rfl)]
  cases s with
  | nil =>
   have : rd (ah vs) n k [] = none:=by
    cases h : rd (ah vs) n k [] with
    | none=>rfl
    | some x=>have:=iM h;simp at this
   simp [bK,this]
  | cons e r' =>
   dsimp only
   rw [if_neg]
   intro h;exact h93 ⟨r',by rw [show e = 93 from UInt8.toNat_inj.1 h]⟩
 have hs0 : s = [] ∨ s ≠ [] ∧ ¬ ((bt s (Int.toNat 0) : Nat) : Int) = 93:=by
  cases s with
  | nil=>exact .inl rfl
  | cons e r' =>
   refine .inr ⟨by simp,fun h=>h93 ⟨r',?_⟩⟩
   have : bt (e :: r') (Int.toNat 0) = e.toNat:=bj e r'
   rw [show e = 93 from UInt8.toNat_inj.1 (show e.toNat = 93 by omega)]
 have hkl : k.length ≤ 1000:=by
  have:=(cV (dh hk)).2
  omega
 have hslen : s = [] ∨ 0 < s.length:=by cases s <;> simp
 rcases hs0 with hs0 | ⟨hs0,hs1⟩
 all_goals
  have hslen2 : s ≠ [] → 0 < s.length:=fun h=>by rcases hslen with h' | h';exact absurd h' h;exact h'
  try have hslen3:=hslen2 hs0
  refine jB [(0,_),(1,_),(2,_),(3,_)] Tryz.func83 Tryz.ntmps83 fun B hok hB hW=>?_
  repeat' (first | refine jM ?_ | (refine jo ?_;first | refine jO fun _=>?_ | refine jV (ax rfl rfl) ?_ | refine aM rfl ?_ | refine aC rfl ?_) | refine aF rfl rfl (ay ‹_›) ?_ | (refine ar rfl rfl ?_ ?_;(focus ((simp [*];done);done))) | (refine ad rfl (by first | rfl | (refine decide_eq_false ?_;(assumption))) ?_))
  rename_i x4 x11
  refine Nx.addNil aaK 1 ?_
  refine aT (ι:=List V × List Nat × Option Addr × Nat × adA × Gh) (fun q=>((q.2.1.length = q.1.length ∧ ∀ i,i < q.1.length → RepR q.2.2.2.2.2 (ah vs) (ab q.1 i) k (ab q.2.1 i)) ∧ Gh.le G q.2.2.2.2.2) ∧ bK (rd (ah vs) n k) 20 s [] = bK (rd (ah vs) n k) (20 - q.1.length) q.2.2.2.2.1 q.1 ∧ q.1.length ≤ 20 ∧ q.2.2.2.2.1.length ≤ s.length) (fun q=>[(1,S q.2.2.2.2.1),(2,S (91 :: k)),(3,I (n + 1 : Nat)),(4,Pt x4 0),(11,Pt x11 0)]) (fun q=>q.2.2.2.2.2) (fun q=>[.acc (.slice q.2.2.1 q.1.length q.2.2.2.1) aaK 1 q.1.length (ak dw q.2.1),.blk x11 (.cells (List.toArray [S (91 :: k),S [],aQ,.slice q.2.2.1 q.1.length q.2.2.2.1]) n7 (0,0)),.blk x4 (.cells (List.toArray [u]) tRd (0,0))]) (fun q=>20 - q.1.length) ([],[],none,0,s,G) ?_ tU rfl a7 (fun q Hq=>?_)
  ·exact ⟨⟨⟨rfl,fun i hi=>absurd hi (by simp)⟩,Gh.le.refl _⟩,rfl,Nat.zero_le _,Nat.le_refl _⟩
  obtain ⟨ws,bs,a,cap,t,Gq⟩:=q
  dsimp only at Hq ⊢
  obtain ⟨⟨⟨hbl,hreps⟩,hgq⟩,hit,hwl,htl⟩:=Hq
  by_cases h20 : ws.length < 20
  case neg =>
   have e20 : 20 - ws.length = 0:=oM
   repeat' (first | refine jR ?_ | (refine jo ?_;first | refine aD rfl ?_ | refine jV (af rfl) ?_) | refine ad rfl (aG oM) ?_)
   refine jZ (vs:=[_,_,_]) rfl ⟨rfl,rfl,rfl,trivial⟩ rfl ⟨hgq,rfl,?_⟩
   rw [bG]
   exact ⟨_,_,_,rfl,fun h=>(by cases h),fun _=>by rw [hRl,hit,e20];rfl⟩
  have cx_rd:=hR Gq k t (h.mono hgq) hk oM
  rw [← edn] at cx_rd
  repeat' (first | refine jR ?_ | (refine jo ?_;first | refine aD rfl ?_ | refine jV (af rfl) ?_) | refine ac rfl (ay oM) ?_)
  (refine am (ao (id:=5) _ (fun _ h=>h) al ?_);refine jW 9 [1,2,3,4,5] (aa 14 62) ?_;(refine jG (aa 14 63) 0 rfl (bP rfl rfl rfl rfl) ?_);refine jA 6 rfl ?_;(refine an rfl rfl rfl cx_rd rfl ?_;rintro _ G hle ⟨q1,r1,ok1,rfl,hyes,hno⟩;skip);refine jS (aa 14 127) ?_;refine jT 0 [7,8,9,10,11,12,13] (aa 14 16383) ?_;refine jQ ?_)
  have hgl:=hgq.trans hle
  cases ok1 with
  | false =>
   have hnone : bK (rd (ah vs) n k) (20 - ws.length) t ws = none:=jJ (.inl (hno rfl))
   repeat' (first | refine jR ?_ | (refine jo ?_;refine aM rfl ?_) | refine aF rfl rfl rfl ?_ | refine ac rfl rfl ?_)
   refine jZ (vs:=[_,_,_]) rfl ⟨rfl,rfl,rfl,trivial⟩ rfl ⟨hgl,rfl,?_⟩
   rw [bG]
   exact ⟨_,_,_,rfl,fun h=>(by cases h),fun _=>by rw [hRl,hit,hnone];rfl⟩
  | true =>
   obtain ⟨w,wb,rfl,hf,hrep⟩:=hyes rfl
   have hsh:=iM hf
   cases r1 with
   | nil =>
    have hnone : bK (rd (ah vs) n k) (20 - ws.length) t ws = none:=jJ (.inr ⟨w,hf⟩)
    repeat' (first | refine jR ?_ | (refine jo ?_;first | refine aM rfl ?_ | refine aC rfl ?_) | refine aF rfl rfl rfl ?_ | refine ar rfl rfl rfl ?_ | refine ac rfl rfl ?_)
    refine jZ (vs:=[_,_,_]) rfl ⟨rfl,rfl,rfl,trivial⟩ rfl ⟨hgl,rfl,?_⟩
    rw [bG]
    exact ⟨_,_,_,rfl,fun h=>(by cases h),fun _=>by rw [hRl,hit,hnone];rfl⟩
   | cons e r2 =>
    have hstep:=jI (vs:=ws) hf (show 0 < 20 - ws.length by omega)
    have he0 : bt (e :: r2) (Int.toNat 0) = e.toNat:=bj e r2
    simp only [List.length_cons] at hsh
    have hel : (e :: r2).length = r2.length + 1:=rfl
    have hrow : ak dw bs ++ [Pt wb 0] = ak dw (bs ++ [wb]):=(bR dw bs wb).symm
    have hwl1 : (ws ++ [w]).length = ws.length + 1:=by simp
    have hbl1 : (bs ++ [wb]).length = (ws ++ [w]).length:=by simp [hbl]
    have hrp : ∀ i,i < (ws ++ [w]).length → RepR G (ah vs) (ab (ws ++ [w]) i) k (ab (bs ++ [wb]) i):=fun i hi=>by
     by_cases h1 : i < ws.length
     ·have e1 : ab (ws ++ [w]) i = ab ws i:=by rw [aA hi,aA h1,List.getElem_append_left h1]
      have e2 : ab (bs ++ [wb]) i = ab bs i:=by rw [aA oM,aA oM,List.getElem_append_left oM]
      rw [e1,e2];exact (hreps i h1).mono hle
     ·have h2 : i = ws.length:=oM
      have e1 : ab (ws ++ [w]) i = w:=by rw [aA hi];simp [h2]
      have e2 : ab (bs ++ [wb]) i = wb:=by rw [aA oM];simp [h2,hbl]
      rw [e1,e2];exact hrep
    by_cases h44 : e.toNat = 44
    ·rw [if_pos h44] at hstep
     have hn93 : ¬ e.toNat = 93:=oM
     repeat' (first | refine jM ?_ | (refine jo ?_;first | refine aC rfl ?_ | refine aD rfl ?_ | refine jF fun _=>?_ | refine bD rfl rfl rfl rfl rfl rfl rfl rfl rfl oM fun _ _=>?_ | refine jD rfl rfl rfl ?_) | (refine ar rfl rfl (by first | rfl | (refine decide_eq_false ?_;(omega))) ?_) | (refine ad rfl (by first | rfl | (refine decide_eq_false ?_;(omega))) ?_))
     rename_i y0 y1 yc
     rw [hrow]
     exact bh (ws ++ [w],bs ++ [wb],some ⟨y1,0,none⟩,yc,r2,G) ⟨⟨⟨hbl1,hrp⟩,hgl⟩,(by dsimp only;rw [hit,hstep,hwl1,Nat.sub_sub]),(by dsimp only;omega),(by dsimp only;omega)⟩ (by dsimp only;omega) tU rfl (by rw [hwl1];repeat (first | exact List.Sublist.refl _ | apply List.Sublist.cons_cons | apply List.Sublist.cons))
    ·rw [if_neg h44] at hstep
     by_cases h93' : e.toNat = 93
     ·rw [if_pos h93'] at hstep
      repeat' (first | refine jM ?_ | (refine jo ?_;first | refine aM rfl ?_ | refine aC rfl ?_ | refine aD rfl ?_ | refine jF fun _=>?_ | refine bD rfl rfl rfl rfl rfl rfl rfl rfl rfl oM fun _ _=>?_ | refine jD rfl rfl rfl ?_) | refine aF rfl rfl (ay oM) ?_ | refine ar rfl rfl rfl ?_ | refine ac rfl (ay oM) ?_ | refine ad rfl (aG oM) ?_)
      rename_i y0 y1 yc
      rw [hrow]
      refine Nx.sealS (v:=.slice (some ⟨y1,0,none⟩) (ws.length + 1) yc) fun G2 hG2 hsl=>?_
      refine Nx.sealC (b:=x11) fun G3 hG3 hsg=>?_
      refine jZ (vs:=[_,_,_]) rfl ⟨rfl,rfl,rfl,trivial⟩ rfl ⟨((hgl.trans hG2).trans hG3),rfl,?_⟩
      rw [bG]
      exact ⟨_,_,_,rfl,fun _=>⟨.nd 91 [] 0 (ws ++ [w]),x11,rfl,by rw [hRl,hit,hstep];rfl,.lst k x11 _ (bs ++ [wb]) (some ⟨y1,0,none⟩) yc (by rw [hwl1];exact hsg) (by rw [hwl1];exact hsl.mono hG3) hbl1 (fun i hi=>(hrp i hi).mono (hG2.trans hG3))⟩,fun h=>(by cases h)⟩
     ·rw [if_neg h93'] at hstep
      repeat' (first | refine jM ?_ | (refine jo ?_;first | refine aM rfl ?_ | refine aC rfl ?_) | refine aF rfl rfl (ay oM) ?_ | refine ar rfl rfl rfl ?_ | refine ac rfl (ay oM) ?_)
      refine jZ (vs:=[_,_,_]) rfl ⟨rfl,rfl,rfl,trivial⟩ rfl ⟨hgl,rfl,?_⟩
      rw [bG]
      exact ⟨_,_,_,rfl,fun h=>(by cases h),fun _=>by rw [hRl,hit,hstep];rfl⟩
section
variable {P : Program} {n : Nat} {D : List Deferred} {E : bS} {M : World → Prop} {d : Option Nat} {ty : TypeId} {pos : String} {aft : Array Edge} {gd : Option (Nat × Bool)}
theorem wG {T T0 : TypeId} {x : Operand} {desc : TypeDesc} {size bytes b m cap i : Nat} {zero : Value} {G0 : Gh} {L0 : List Own} {cs : List Int} {xs : List Value} {y : Int} [TI P T desc size bytes zero] [Kn M G0 L0] [h : AccB L0 b m cap T0 1 xs] (hx : ev E x = some (Pt b (0 + i * 1))) (ha : dR desc = false) (hxs : xs = ak cH cs) (hi : i < cs.length) (hy : ab cs i = y) :
  Gives P n D E M ⟨d,.load T x,ty,pos,aft,gd⟩ (I y):=gw hx ha (by
 have:=(gz (S:=M) h.mem).go (i * 1 + 0) (I y) (by rw [hxs,fV hi oM,hy];rfl)
 simpa using this)
end
def i7 (fs : List (Fld × V)) : Int:=match fs.getLast? with
 | some p=>p.1.tag
 | none=>0
def ir (fs : List (Fld × V)) : List V:=fs.map fun p=>.nd 61 [] p.1.tag [p.2]
theorem vF (fs : List (Fld × V)) (p : Fld × V) : i7 (fs ++ [p]) = p.1.tag:=by simp [i7]
abbrev yE : TypeId:=56
abbrev yH : TypeId:=3
abbrev tFd : TypeId:=137
abbrev aaH : TypeId:=155
theorem w6 {n : Nat} {u : Value} {vs : List cy} {x : cy} {k s : adA} (hR : k5 n u vs) (h : SchR G u vs) (hw : SchW (ah vs)) (hx : x ∈ vs) (hrf : a8 (ah vs) k = some x.2) (hso : x.2.sort = 82) (hs : s.length ≤ 2000000) (hn : n ≤ 1000) (hkl : k.length ≤ 1000) :
  bB adz 117 [Ag [u],S s,S k,Ag (ka x),I (n + 1 : Nat)] G (eQ (ah vs) (bC (ah vs) (rd (ah vs) n) x.2 (123 :: s)) k):=by
 have edn : ((n + 1 : Nat) : Int) - 1 = (n : Nat):=oM
 have hxt : x.2 ∈ ah vs:=List.mem_map_of_mem hx
 have hTW:=hw.ty _ hxt
 have hfl:=hTW.len
 by_cases h125 : ∃ s2,s = 125 :: s2
 ·obtain ⟨s2,rfl⟩:=h125
  have hgood : bC (ah vs) (rd (ah vs) n) x.2 (123 :: 125 :: s2) = some (.nd 82 [] 0 [],s2):=by
   unfold bC
   dsimp only
   rw [if_pos hso,if_pos (show (123 : UInt8).toNat = 123 from rfl),if_pos (show (125 : UInt8).toNat = 125 from rfl)]
  refine jB [(0,_),(1,_),(2,_),(3,_),(4,_)] Tryz.func117 Tryz.ntmps117 fun B hok hB hW=>?_
  repeat' (first | refine jX ?_ | (refine jo ?_;first | refine jO fun _=>?_ | refine jV (ax rfl rfl) ?_ | refine aM rfl ?_) | refine aF rfl rfl rfl ?_ | refine ac rfl rfl ?_ | (refine am (ao (id:=3) _ (fun _ h=>h) al ?_);refine jW 0 [0,1,2,3,4,5] (aa 6 63) ?_;refine jQ ?_))
  rename_i x5 x8 x13
  refine Nx.sealC (b:=x13) fun G2 hG2 hsy=>?_
  refine jZ (vs:=[_,_,_]) rfl ⟨rfl,rfl,rfl,trivial⟩ rfl ⟨hG2,rfl,?_⟩
  rw [bG]
  exact ⟨_,_,_,rfl,fun _=>⟨.nd 82 [] 0 [],x13,rfl,hgood,.recd k x13 x.2 [] [] none none 0 0 ⟨hrf,hso⟩ hsy ⟨rfl,.inl ⟨rfl,rfl⟩⟩ ⟨rfl,.inl ⟨rfl,rfl⟩⟩ rfl (fun i hi=>absurd hi (by simp)) (fun i hi=>absurd hi (by simp))⟩,fun h=>(by cases h)⟩
 have hRl : bC (ah vs) (rd (ah vs) n) x.2 (123 :: s) = (cd (ah vs) (rd (ah vs) n) x.2 (s.length + 1) 0 s []).map fun x=>(.nd 82 [] 0 x.1,x.2):=by
  unfold bC
  dsimp only
  rw [if_pos hso,if_pos (show (123 : UInt8).toNat = 123 from rfl)]
  cases s with
  | nil=>rw [eE k9];rfl
  | cons e r' =>
   dsimp only
   rw [if_neg]
   intro h;exact h125 ⟨r',by rw [show e = 125 from UInt8.toNat_inj.1 h]⟩
 have hs0 : s = [] ∨ s ≠ [] ∧ ¬ ((bt s (Int.toNat 0) : Nat) : Int) = 125:=by
  cases s with
  | nil=>exact .inl rfl
  | cons e r' =>
   refine .inr ⟨by simp,fun h=>h125 ⟨r',?_⟩⟩
   have : bt (e :: r') (Int.toNat 0) = e.toNat:=bj e r'
   rw [show e = 125 from UInt8.toNat_inj.1 (show e.toNat = 125 by omega)]
 have hslen : s = [] ∨ 0 < s.length:=by cases s <;> simp
 rcases hs0 with hs0 | ⟨hs0,hs1⟩
 ·subst hs0
  have cx_tg:=rX (G:=G) (u:=u) (x:=x) (s:=[]) (by simp) h.sl.one (h.fl x hx) oM
  have e0 : aK (([] : adA).takeWhile bn) 200 = none:=by
   cases h : aK (([] : adA).takeWhile bn) 200 with
   | none=>rfl
   | some m =>
    have:=(d6 h).2.1
    have h2:=gy m
    rw [← this] at h2;simp at h2
  rw [e0] at cx_tg
  refine jB [(0,_),(1,_),(2,_),(3,_),(4,_)] Tryz.func117 Tryz.ntmps117 fun B hok hB hW=>?_
  repeat' (first | refine jR ?_ | (refine jo ?_;first | refine jO fun _=>?_ | refine jV (ax rfl rfl) ?_ | refine aC rfl ?_) | refine ar rfl rfl rfl ?_ | refine ad rfl rfl ?_)
  rename_i x5 x8 x13
  refine aT (ι:=Unit) (fun i=>True) (fun i=>[(1,S []),(2,S k),(4,I (n + 1 : Nat)),(5,Pt x5 0),(8,Pt x8 0),(13,Pt x13 0)]) (fun _=>G) (fun i=>[.blk x13 (.cells (List.toArray [S k,S [82],aQ,aQ]) n7 (0,0)),.blk x8 (.cells (List.toArray [U8 x.2.sort,S x.2.name,gn x]) aaH (0,0)),.blk x5 (.cells (List.toArray [u]) tRd (0,0))]) (fun i=>0) () ?_ tU rfl a7 (fun i Hi=>?_)
  ·trivial
  repeat' (first | refine jR ?_ | (refine jo ?_;first | refine bM rfl ?_ | refine jL fun _=>?_ | refine jC rfl rfl rfl ?_ | (refine eF rfl rfl rfl cx_tg rfl ?_;rintro _ ⟨nt,rfl,hnt⟩)) | refine ac rfl rfl ?_ | (refine am (ao (id:=5) _ (fun _ h=>h) al ?_);refine jT 33 [0,1,2] (aa 36 7) ?_;(try (refine Nx.re (d:=43) (v':=Bo true) rfl (congrArg Value.bool rfl) ?_));refine jT 31 [3,4] (aa 36 31) ?_;(refine jG (aa 36 63) 5 rfl (bO rfl rfl rfl) ?_);refine jT 29 [6] (aa 36 127) ?_;(try (refine Nx.re (d:=47) (v':=Bo true) rfl (congrArg Value.bool rfl) ?_));refine jT 26 [7,8,9] (aa 36 1023) ?_;(refine jG (aa 36 2047) 10 rfl (bO rfl rfl rfl) ?_);refine jT 24 [11] (aa 36 4095) ?_;(try (refine Nx.re (d:=52) (v':=Bo true) rfl (congrArg Value.bool rfl) ?_));refine jT 21 [12,13,14] (aa 36 32767) ?_;(refine jN (aa 36 65535) 15 rfl ?_);(refine jN (aa 36 131071) 16 rfl ?_);refine jT 17 [17,18] (aa 36 524287) ?_;(try (fail));refine jT 10 [19,20,21,23,24,25,31] (aa 36 2210398207) ?_;(refine jN (aa 36 2214592511) 22 rfl ?_);(refine jN (aa 36 2281701375) 26 rfl ?_);(refine jN (aa 36 2415919103) 27 rfl ?_);refine jT 6 [28] (aa 36 2684354559) ?_;(refine jN (aa 36 3221225471) 29 rfl ?_);(refine jN (aa 36 4294967295) 30 rfl ?_);(refine jN (aa 36 8589934591) 32 rfl ?_);refine jT 2 [33] (aa 36 17179869183) ?_;(refine jN (aa 36 34359738367) 34 rfl ?_);(refine jG (aa 36 68719476735) 35 rfl (bO rfl rfl rfl) ?_);refine jQ ?_))
  all_goals refine jZ (vs:=[_,_,_]) rfl ⟨rfl,rfl,rfl,trivial⟩ rfl ⟨Gh.le.refl _,rfl,?_⟩
  all_goals (rw [bG];exact ⟨_,_,_,rfl,fun h=>(by cases h),fun _=>by rw [hRl,eE k9];rfl⟩)
 ·have hslen3 : 0 < s.length:=List.length_pos_iff.2 hs0
  refine jB [(0,_),(1,_),(2,_),(3,_),(4,_)] Tryz.func117 Tryz.ntmps117 fun B hok hB hW=>?_
  repeat' (first | refine jM ?_ | (refine jo ?_;first | refine jO fun _=>?_ | refine jV (ax rfl rfl) ?_ | refine aM rfl ?_) | refine aF rfl rfl (ay ‹_›) ?_ | refine ad rfl (aG ‹_›) ?_)
  rename_i x5 x8 x13
  refine Nx.addNil yH 1 (Nx.addNil yE 1 ?_)
  refine aT (ι:=List (Fld × V) × List Nat × Option Addr × Nat × Option Addr × Nat × adA × Nat × Gh) (fun q=>((q.2.1.length = q.1.length ∧ (∀ i,i < q.1.length → (ab q.1 i).1 ∈ x.2.fields) ∧ ∀ i,i < q.1.length → RepR q.2.2.2.2.2.2.2.2 (ah vs) (ab q.1 i).2 (ab q.1 i).1.kind (ab q.2.1 i)) ∧ Gh.le G q.2.2.2.2.2.2.2.2) ∧ (cd (ah vs) (rd (ah vs) n) x.2 (s.length + 1) 0 s [] = cd (ah vs) (rd (ah vs) n) x.2 q.2.2.2.2.2.2.2.1 (i7 q.1) q.2.2.2.2.2.2.1 (ir q.1) ∧ q.2.2.2.2.2.2.1.length < q.2.2.2.2.2.2.2.1) ∧ q.2.2.2.2.2.2.1.length ≤ s.length ∧ q.1.length + q.2.2.2.2.2.2.1.length ≤ s.length) (fun q=>[(1,S q.2.2.2.2.2.2.1),(2,S k),(4,I (n + 1 : Nat)),(5,Pt x5 0),(8,Pt x8 0),(13,Pt x13 0)]) (fun q=>q.2.2.2.2.2.2.2.2) (fun q=>[.acc (.slice q.2.2.2.2.1 q.1.length q.2.2.2.2.2.1) yE 1 q.1.length (ak dw q.2.1),.acc (.slice q.2.2.1 q.1.length q.2.2.2.1) yH 1 q.1.length (ak cH (q.1.map fun p=>p.1.tag)),.blk x13 (.cells (List.toArray [S k,S [82],.slice q.2.2.1 q.1.length q.2.2.2.1,.slice q.2.2.2.2.1 q.1.length q.2.2.2.2.2.1]) n7 (0,0)),.blk x8 (.cells (List.toArray [U8 x.2.sort,S x.2.name,gn x]) aaH (0,0)),.blk x5 (.cells (List.toArray [u]) tRd (0,0))]) (fun q=>q.2.2.2.2.2.2.1.length) ([],[],none,0,none,0,s,s.length + 1,G) ?_ tU rfl a7 (fun q Hq=>?_)
  ·exact ⟨⟨⟨rfl,fun i hi=>absurd hi (by simp),fun i hi=>absurd hi (by simp)⟩,Gh.le.refl _⟩,⟨rfl,Nat.lt_succ_self _⟩,Nat.le_refl _,by simp⟩
  obtain ⟨fs,bs,a1,c1,a2,c2,t,m,Gq⟩:=q
  dsimp only at Hq ⊢
  obtain ⟨⟨⟨hbl,hfm,hreps⟩,hgq⟩,⟨hit,htm⟩,htl,hft⟩:=Hq
  have cx_tg:=rX (G:=Gq) (u:=u) (x:=x) (s:=t) oM h.sl.one ((h.mono hgq).fl x hx) oM
  repeat' (first | refine jR ?_ | (refine jo ?_;first | refine bM rfl ?_ | refine jL fun _=>?_ | refine jC rfl rfl rfl ?_ | (refine eF rfl rfl rfl cx_tg rfl ?_;rintro _ ⟨nt,rfl,hnt⟩)))
  have hnone : ∀ {v : Value} {G' : Gh} {r : adA},cd (ah vs) (rd (ah vs) n) x.2 m (i7 fs) t (ir fs) = none → v = Tu [.pointer none,S r,Bo false] → eQ (ah vs) (bC (ah vs) (rd (ah vs) n) x.2 (123 :: s)) k v G':=fun h1 h2=>⟨_,_,_,h2,fun h=>(by cases h),fun _=>by rw [hRl,hit,h1];rfl⟩
  cases hb16 : (aK (t.takeWhile bn) 200).isSome && (ck x.2.fields nt).isSome with
  | false =>
   have hno : aY (rd (ah vs) n) x.2 t = none:=by
    cases hm : aK (t.takeWhile bn) 200 with
    | none=>exact fX (.inl hm)
    | some m0 =>
     refine fX (.inr ⟨m0,hm,?_⟩)
     rw [hm] at hb16
     rw [← hnt m0 hm]
     cases hf : ck x.2.fields nt with
     | none=>rfl
     | some d=>rw [hf] at hb16;cases hb16
   (refine am (ao (id:=5) _ (fun _ h=>h) al ?_);refine jT 33 [0,1,2] (aa 36 7) ?_;(try (refine Nx.re (d:=43) (v':=Bo true) rfl (congrArg Value.bool rfl) ?_));refine jT 31 [3,4] (aa 36 31) ?_;(refine jG (aa 36 63) 5 rfl (bO rfl rfl rfl) ?_);refine jT 29 [6] (aa 36 127) ?_;(try (refine Nx.re (d:=47) (v':=Bo true) rfl (congrArg Value.bool rfl) ?_));refine jT 26 [7,8,9] (aa 36 1023) ?_;(refine jG (aa 36 2047) 10 rfl (bO rfl rfl rfl) ?_);refine jT 24 [11] (aa 36 4095) ?_;(try (refine Nx.re (d:=52) (v':=Bo true) rfl (congrArg Value.bool rfl) ?_));refine jT 21 [12,13,14] (aa 36 32767) ?_;(refine jN (aa 36 65535) 15 rfl ?_);(refine jN (aa 36 131071) 16 rfl ?_);refine jT 17 [17,18] (aa 36 524287) ?_;(try (fail));refine jT 10 [19,20,21,23,24,25,31] (aa 36 2210398207) ?_;(refine jN (aa 36 2214592511) 22 rfl ?_);(refine jN (aa 36 2281701375) 26 rfl ?_);(refine jN (aa 36 2415919103) 27 rfl ?_);refine jT 6 [28] (aa 36 2684354559) ?_;(refine jN (aa 36 3221225471) 29 rfl ?_);(refine jN (aa 36 4294967295) 30 rfl ?_);(refine jN (aa 36 8589934591) 32 rfl ?_);refine jT 2 [33] (aa 36 17179869183) ?_;(refine jN (aa 36 34359738367) 34 rfl ?_);(refine jG (aa 36 68719476735) 35 rfl (bO rfl rfl rfl) ?_);refine jQ ?_)
   repeat' (first | refine jR ?_ | refine ac rfl rfl ?_)
   all_goals refine jZ (vs:=[_,_,_]) rfl ⟨rfl,rfl,rfl,trivial⟩ rfl ⟨hgq,rfl,?_⟩
   all_goals exact hnone (eE hno) rfl
  | true =>
   simp only [Bool.and_eq_true] at hb16
   obtain ⟨hb1,hb2⟩:=hb16
   obtain ⟨m0,hm⟩:=Option.isSome_iff_exists.1 hb1
   obtain ⟨d,hd⟩:=Option.isSome_iff_exists.1 hb2
   have hnm:=hnt m0 hm
   subst hnm
   rw [hd]
   simp only [Option.getD_some]
   have hdm : d ∈ x.2.fields:=List.mem_of_find?_eq_some hd
   have hdt : d.tag = nt:=by have:=List.find?_some hd;simpa using this
   have hwl:=eA bn t
   cases hdw : t.dropWhile bn with
   | nil =>
    have hno : aY (rd (ah vs) n) x.2 t = none:=iy hm (fun s2 h=>by rw [hdw] at h;cases h)
    (refine am (ao (id:=5) _ (fun _ h=>h) al ?_);refine jT 33 [0,1,2] (aa 36 7) ?_;(try (refine Nx.re (d:=43) (v':=Bo false) rfl (congrArg Value.bool rfl) ?_));refine jT 31 [3,4] (aa 36 31) ?_;(refine jG (aa 36 63) 5 rfl (bm rfl rfl rfl) ?_);refine jT 29 [6] (aa 36 127) ?_;(try (refine Nx.re (d:=47) (v':=Bo true) rfl (congrArg Value.bool rfl) ?_));refine jT 26 [7,8,9] (aa 36 1023) ?_;(refine jG (aa 36 2047) 10 rfl (bO rfl rfl rfl) ?_);refine jT 24 [11] (aa 36 4095) ?_;(try (refine Nx.re (d:=52) (v':=Bo true) rfl (congrArg Value.bool rfl) ?_));refine jT 21 [12,13,14] (aa 36 32767) ?_;(refine jN (aa 36 65535) 15 rfl ?_);(refine jN (aa 36 131071) 16 rfl ?_);refine jT 17 [17,18] (aa 36 524287) ?_;(try (fail));refine jT 10 [19,20,21,23,24,25,31] (aa 36 2210398207) ?_;(refine jN (aa 36 2214592511) 22 rfl ?_);(refine jN (aa 36 2281701375) 26 rfl ?_);(refine jN (aa 36 2415919103) 27 rfl ?_);refine jT 6 [28] (aa 36 2684354559) ?_;(refine jN (aa 36 3221225471) 29 rfl ?_);(refine jN (aa 36 4294967295) 30 rfl ?_);(refine jN (aa 36 8589934591) 32 rfl ?_);refine jT 2 [33] (aa 36 17179869183) ?_;(refine jN (aa 36 34359738367) 34 rfl ?_);(refine jG (aa 36 68719476735) 35 rfl (bO rfl rfl rfl) ?_);refine jQ ?_)
    repeat' (first | refine jR ?_ | refine ac rfl rfl ?_)
    all_goals refine jZ (vs:=[_,_,_]) rfl ⟨rfl,rfl,rfl,trivial⟩ rfl ⟨hgq,rfl,?_⟩
    all_goals exact hnone (eE hno) rfl
   | cons e r2 =>
    have he0 : bt (e :: r2) (Int.toNat 0) = e.toNat:=bj e r2
    have hel : (e :: r2).length = r2.length + 1:=rfl
    by_cases h61 : e.toNat = 61
    case neg =>
     have hno : aY (rd (ah vs) n) x.2 t = none:=iy hm (fun s2 h=>by rw [hdw] at h;simp only [List.cons.injEq] at h;exact h61 (by rw [h.1];rfl))
     (refine am (ao (id:=5) _ (fun _ h=>h) al ?_);refine jT 33 [0,1,2] (aa 36 7) ?_;(try (refine Nx.re (d:=43) (v':=Bo false) rfl (congrArg Value.bool rfl) ?_));refine jT 31 [3,4] (aa 36 31) ?_;(refine jG (aa 36 63) 5 rfl (bm rfl rfl rfl) ?_);refine jT 29 [6] (aa 36 127) ?_;(try (refine Nx.re (d:=47) (v':=Bo false) rfl (congrArg Value.bool rfl) ?_));refine jW 26 [7,8,9] (aa 36 1023) ?_;(refine jG (aa 36 2047) 10 rfl (bm rfl rfl rfl) ?_);refine jT 24 [11] (aa 36 4095) ?_;(try ((refine Nx.re (d:=52) (v':=Bo true) rfl (congrArg Value.bool (ay oM)) ?_)));refine jT 21 [12,13,14] (aa 36 32767) ?_;(refine jN (aa 36 65535) 15 rfl ?_);(refine jN (aa 36 131071) 16 rfl ?_);refine jT 17 [17,18] (aa 36 524287) ?_;(try (fail));refine jT 10 [19,20,21,23,24,25,31] (aa 36 2210398207) ?_;(refine jN (aa 36 2214592511) 22 rfl ?_);(refine jN (aa 36 2281701375) 26 rfl ?_);(refine jN (aa 36 2415919103) 27 rfl ?_);refine jT 6 [28] (aa 36 2684354559) ?_;(refine jN (aa 36 3221225471) 29 rfl ?_);(refine jN (aa 36 4294967295) 30 rfl ?_);(refine jN (aa 36 8589934591) 32 rfl ?_);refine jT 2 [33] (aa 36 17179869183) ?_;(refine jN (aa 36 34359738367) 34 rfl ?_);(refine jG (aa 36 68719476735) 35 rfl (bO rfl rfl rfl) ?_);refine jQ ?_)
     repeat' (first | refine jR ?_ | refine ac rfl rfl ?_)
     all_goals refine jZ (vs:=[_,_,_]) rfl ⟨rfl,rfl,rfl,trivial⟩ rfl ⟨hgq,rfl,?_⟩
     all_goals exact hnone (eE hno) rfl
    have he61 : e = 61:=UInt8.toNat_inj.1 h61
    have hfs:=mn (f:=rd (ah vs) n) (t:=x.2) (s:=t) hm hd (by rw [hdw,he61])
    have hm0 : 0 < m:=oM
    have hflt : (fs.map fun p : Fld × V=>p.1.tag).length = fs.length:=by simp
    have hdt1:=((hTW.fld d hdm).tag).1
    have hlast0 : fs.length = 0 → i7 fs = 0:=fun h0=>by rw [List.length_eq_zero_iff.1 h0];rfl
    have hlast1 : 0 < fs.length → ab (fs.map fun p : Fld × V=>p.1.tag) (((fs.length : Nat) : Int) - 1).toNat = i7 fs:=fun h0=>by
     have e1 : (((fs.length : Nat) : Int) - 1).toNat = fs.length - 1:=oM
     rw [e1,aA (by rw [hflt];omega)]
     unfold i7
     rw [List.getLast?_eq_getElem?,List.getElem?_eq_getElem oM]
     simp
    rename_i x14
    have hf0 : fs.length = 0 ∨ 0 < fs.length:=oM
    by_cases hlt : d.tag ≤ i7 fs
    ·have hpos : 0 < fs.length:=by
      rcases hf0 with h0 | h0
      ·have:=hlast0 h0;omega
      ·exact h0
     have hyl:=hlast1 hpos
     have hno : cd (ah vs) (rd (ah vs) n) x.2 m (i7 fs) t (ir fs) = none:=by
      cases hy : rd (ah vs) n d.kind r2 with
      | none=>exact eE (by rw [hfs,hy];rfl)
      | some y =>
       obtain ⟨w,r3⟩:=y
       rw [kV (d:=d) (v:=w) (r:=r3) (by rw [hfs,hy];rfl) hm0,if_pos (.inl hlt)]
     refine Nx.shp (v:=.slice a1 fs.length c1) (.tail _ (.tail _ (.head _))) fun hsh=>?_
     obtain ⟨tb1,tc1,e1⟩:=hsh.pos oM
     simp only [Value.slice.injEq] at e1
     obtain ⟨rfl,-,rfl⟩:=e1
     (refine am (ao (id:=5) _ (fun _ h=>h) al ?_);refine jT 33 [0,1,2] (aa 36 7) ?_;(try (refine Nx.re (d:=43) (v':=Bo false) rfl (congrArg Value.bool rfl) ?_));refine jT 31 [3,4] (aa 36 31) ?_;(refine jG (aa 36 63) 5 rfl (bm rfl rfl rfl) ?_);refine jT 29 [6] (aa 36 127) ?_;(try (refine Nx.re (d:=47) (v':=Bo false) rfl (congrArg Value.bool rfl) ?_));refine jW 26 [7,8,9] (aa 36 1023) ?_;(refine jG (aa 36 2047) 10 rfl (bm rfl rfl rfl) ?_);refine jT 24 [11] (aa 36 4095) ?_;(try ((refine Nx.re (d:=52) (v':=Bo false) rfl (congrArg Value.bool (aG oM)) ?_)));refine jT 21 [12,13,14] (aa 36 32767) ?_;(refine jG (aa 36 65535) 15 rfl (aX rfl rfl rfl) ?_);(refine jG (aa 36 131071) 16 rfl (af rfl) ?_);refine jT 17 [17,18] (aa 36 524287) ?_;(try ((refine Nx.re (d:=59) (v':=Bo true) rfl (congrArg Value.bool (ay oM)) ?_)));refine jT 10 [19,20,21,23,24,25,31] (aa 36 2210398207) ?_;(refine jG (aa 36 2214592511) 22 rfl (aX rfl rfl rfl) ?_);(refine jG (aa 36 2281701375) 26 rfl (aX rfl rfl rfl) ?_);(refine jG (aa 36 2415919103) 27 rfl (af rfl) ?_);refine jW 6 [28] (aa 36 2684354559) ?_;(refine jG (aa 36 3221225471) 29 rfl (aN rfl rfl oM) ?_);((refine jG (aa 36 4294967295) 30 rfl (wG rfl rfl rfl ?_ aS) ?_;focus omega));(refine jG (aa 36 8589934591) 32 rfl (aX rfl rfl rfl) ?_);refine jT 2 [33] (aa 36 17179869183) ?_;(refine jG (aa 36 34359738367) 34 rfl (bO rfl rfl rfl) ?_);(refine jG (aa 36 68719476735) 35 rfl (bm rfl rfl rfl) ?_);refine jQ ?_)
     repeat' (first | refine jR ?_ | refine ac rfl (ay ‹_›) ?_)
     all_goals refine jZ (vs:=[_,_,_]) rfl ⟨rfl,rfl,rfl,trivial⟩ rfl ⟨hgq,rfl,?_⟩
     all_goals exact hnone hno rfl
    have hSq:=h.mono hgq
    have hdk : aB (ah vs) d.kind = true:=dT hw hxt oM hdm
    rw [hdw,List.length_cons] at hwl
    have cx_rd:=hR Gq d.kind r2 hSq hdk oM
    rw [← edn] at cx_rd
    rcases hf0 with hf0 | hf0
    rotate_left
    have hyl:=hlast1 hf0
    refine Nx.shp (v:=.slice a1 fs.length c1) (.tail _ (.tail _ (.head _))) fun hsh=>?_
    obtain ⟨tb1,tc1,e1⟩:=hsh.pos oM
    simp only [Value.slice.injEq] at e1
    obtain ⟨rfl,-,rfl⟩:=e1
    all_goals
     (refine am (ao (id:=5) _ (fun _ h=>h) al ?_);refine jT 33 [0,1,2] (aa 36 7) ?_;(try (refine Nx.re (d:=43) (v':=Bo false) rfl (congrArg Value.bool rfl) ?_));refine jT 31 [3,4] (aa 36 31) ?_;(refine jG (aa 36 63) 5 rfl (bm rfl rfl rfl) ?_);refine jT 29 [6] (aa 36 127) ?_;(try (refine Nx.re (d:=47) (v':=Bo false) rfl (congrArg Value.bool rfl) ?_));refine jW 26 [7,8,9] (aa 36 1023) ?_;(refine jG (aa 36 2047) 10 rfl (bm rfl rfl rfl) ?_);refine jT 24 [11] (aa 36 4095) ?_;(try ((refine Nx.re (d:=52) (v':=Bo false) rfl (congrArg Value.bool (aG oM)) ?_)));refine jT 21 [12,13,14] (aa 36 32767) ?_;(refine jG (aa 36 65535) 15 rfl (aX rfl rfl rfl) ?_);(refine jG (aa 36 131071) 16 rfl (af rfl) ?_);refine jT 17 [17,18] (aa 36 524287) ?_;(try (first | (refine Nx.re (d:=59) (v':=Bo true) rfl (congrArg Value.bool (ay oM)) ?_) | (refine Nx.re (d:=59) (v':=Bo false) rfl (congrArg Value.bool (aG oM)) ?_)));refine jT 10 [19,20,21,23,24,25,31] (aa 36 2210398207) ?_;(first | refine jG (aa 36 2214592511) 22 rfl (aX rfl rfl rfl) ?_ | refine jN (aa 36 2214592511) 22 rfl ?_);(first | refine jG (aa 36 2281701375) 26 rfl (aX rfl rfl rfl) ?_ | refine jN (aa 36 2281701375) 26 rfl ?_);(first | refine jG (aa 36 2415919103) 27 rfl (af rfl) ?_ | refine jN (aa 36 2415919103) 27 rfl ?_);refine jW 6 [28] (aa 36 2684354559) ?_;(first | refine jG (aa 36 3221225471) 29 rfl (aN rfl rfl oM) ?_ | refine jN (aa 36 3221225471) 29 rfl ?_);(first | (refine jG (aa 36 4294967295) 30 rfl (wG rfl rfl rfl ?_ aS) ?_;focus omega) | refine jN (aa 36 4294967295) 30 rfl ?_);(first | refine jG (aa 36 8589934591) 32 rfl (aX rfl rfl rfl) ?_ | refine jN (aa 36 8589934591) 32 rfl ?_);refine jT 2 [33] (aa 36 17179869183) ?_;(first | refine jG (aa 36 34359738367) 34 rfl (bO rfl rfl rfl) ?_ | refine jG (aa 36 34359738367) 34 rfl (bm rfl rfl rfl) ?_);(refine jG (aa 36 68719476735) 35 rfl (bm rfl rfl rfl) ?_);refine jQ ?_)
     repeat' (first | refine jR ?_ | (refine ad rfl (by first | rfl | (refine decide_eq_false ?_;(assumption))) ?_))
     (refine am (ao (id:=7) _ (fun _ h=>h) al ?_);refine jW 10 [1,2,3,5,6] (aa 15 110) ?_;(refine jG (aa 15 111) 0 rfl (bP rfl rfl rfl rfl) ?_);(refine jG (aa 15 127) 4 rfl (aX rfl rfl rfl) ?_);refine jA 7 rfl ?_;(refine an rfl rfl rfl cx_rd rfl ?_;rintro _ G hle ⟨q1,r1,ok1,rfl,hyes,hno⟩;skip);refine jS (aa 15 255) ?_;refine jT 0 [8,9,10,11,12,13,14] (aa 15 32767) ?_;refine jQ ?_)
     repeat' (refine jR ?_)
     have hgl:=hgq.trans hle
     cases ok1 with
     | false =>
      have hno2 : aY (rd (ah vs) n) x.2 t = none:=by rw [hfs,hno rfl];rfl
      (refine am (ao (id:=8) _ (fun _ h=>h) al ?_);refine jT 22 [0,1,2] (aa 25 7) ?_;(try (refine Nx.re (d:=92) (v':=Bo true) rfl (congrArg Value.bool rfl) ?_));refine jT 20 [3,5] (aa 25 47) ?_;(refine jN (aa 25 111) 6 rfl ?_);(refine jN (aa 25 239) 7 rfl ?_);(refine jN (aa 25 255) 4 rfl ?_);(refine jN (aa 25 511) 8 rfl ?_);refine jT 15 [9] (aa 25 1023) ?_;(refine jG (aa 25 2047) 10 rfl (bO rfl rfl rfl) ?_);refine jT 13 [11] (aa 25 4095) ?_;(try (refine Nx.re (d:=101) (v':=Bo true) rfl (congrArg Value.bool rfl) ?_));refine jT 11 [12,13] (aa 25 16383) ?_;(refine jG (aa 25 32767) 14 rfl (bO rfl rfl rfl) ?_);refine jT 9 [15] (aa 25 65535) ?_;(try (refine Nx.re (d:=105) (v':=Bo true) rfl (congrArg Value.bool rfl) ?_));refine jT 5 [16,17,18,19] (aa 25 1048575) ?_;(try (fail));refine jT 2 [20,21,22] (aa 25 8388607) ?_;(refine jN (aa 25 16777215) 23 rfl ?_);(refine jG (aa 25 33554431) 24 rfl (bO rfl rfl rfl) ?_);refine jQ ?_)
      repeat' (first | refine jR ?_ | refine ac rfl rfl ?_)
      all_goals refine jZ (vs:=[_,_,_]) rfl ⟨rfl,rfl,rfl,trivial⟩ rfl ⟨hgl,rfl,?_⟩
      all_goals exact hnone (eE hno2) rfl
     | true =>
      obtain ⟨w,wb,rfl,hf,hrep⟩:=hyes rfl
      have hsh:=iM hf
      have htt:=gt _ _ _ _ hf
      dsimp only at htt hsh
      have hob:=l9 hw hrep
      unfold iE at hob
      have cx_out:=fP hw hrep oM
      have cx_sta:=my (f:=d) (h.mono hgl) hw hdk
      have hfd : aY (rd (ah vs) n) x.2 t = some ((d,w),r1):=by rw [hfs,hf];rfl
      have hst:=kV (ts:=ah vs) (vs:=ir fs) (last:=i7 fs) hfd hm0
      by_cases heq : w.out = bT (ah vs) d
      ·rw [if_pos (.inr heq)] at hst
       (refine am (ao (id:=8) _ (fun _ h=>h) al ?_);refine jT 22 [0,1,2] (aa 25 7) ?_;(try (refine Nx.re (d:=92) (v':=Bo false) rfl (congrArg Value.bool rfl) ?_));refine jT 20 [3,5] (aa 25 47) ?_;(refine jG (aa 25 111) 6 rfl (aX rfl rfl rfl) ?_);(refine jG (aa 25 239) 7 rfl (bP rfl rfl rfl rfl) ?_);(refine jA 4 rfl ?_;(refine ae rfl rfl rfl cx_out rfl ?_);refine jS (aa 25 255) ?_);(refine jA 8 rfl ?_;(refine ae rfl rfl rfl cx_sta rfl ?_);refine jS (aa 25 511) ?_);refine jT 15 [9] (aa 25 1023) ?_;(refine jG (aa 25 2047) 10 rfl (bm rfl rfl rfl) ?_);refine jT 13 [11] (aa 25 4095) ?_;(try (refine Nx.re (d:=101) (v':=Bo true) rfl (congrArg Value.bool (ay ‹_›)) ?_));refine jT 11 [12,13] (aa 25 16383) ?_;(refine jG (aa 25 32767) 14 rfl (bO rfl rfl rfl) ?_);refine jT 9 [15] (aa 25 65535) ?_;(try (refine Nx.re (d:=105) (v':=Bo true) rfl (congrArg Value.bool rfl) ?_));refine jT 5 [16,17,18,19] (aa 25 1048575) ?_;(try (fail));refine jT 2 [20,21,22] (aa 25 8388607) ?_;(refine jN (aa 25 16777215) 23 rfl ?_);(refine jG (aa 25 33554431) 24 rfl (bO rfl rfl rfl) ?_);refine jQ ?_)
       repeat' (first | refine jR ?_ | refine ac rfl rfl ?_)
       all_goals refine jZ (vs:=[_,_,_]) rfl ⟨rfl,rfl,rfl,trivial⟩ rfl ⟨hgl,rfl,?_⟩
       all_goals exact hnone hst rfl
      rw [if_neg (fun h=>by rcases h with h | h;exact hlt h;exact heq h)] at hst
      cases r1 with
      | nil =>
       (refine am (ao (id:=8) _ (fun _ h=>h) al ?_);refine jT 22 [0,1,2] (aa 25 7) ?_;(try (refine Nx.re (d:=92) (v':=Bo false) rfl (congrArg Value.bool rfl) ?_));refine jT 20 [3,5] (aa 25 47) ?_;(refine jG (aa 25 111) 6 rfl (aX rfl rfl rfl) ?_);(refine jG (aa 25 239) 7 rfl (bP rfl rfl rfl rfl) ?_);(refine jA 4 rfl ?_;(refine ae rfl rfl rfl cx_out rfl ?_);refine jS (aa 25 255) ?_);(refine jA 8 rfl ?_;(refine ae rfl rfl rfl cx_sta rfl ?_);refine jS (aa 25 511) ?_);refine jT 15 [9] (aa 25 1023) ?_;(refine jG (aa 25 2047) 10 rfl (bm rfl rfl rfl) ?_);refine jT 13 [11] (aa 25 4095) ?_;(try (refine Nx.re (d:=101) (v':=Bo false) rfl (congrArg Value.bool (aG ‹_›)) ?_));refine jT 11 [12,13] (aa 25 16383) ?_;(refine jG (aa 25 32767) 14 rfl (bm rfl rfl rfl) ?_);refine jT 9 [15] (aa 25 65535) ?_;(try (refine Nx.re (d:=105) (v':=Bo true) rfl (congrArg Value.bool rfl) ?_));refine jT 5 [16,17,18,19] (aa 25 1048575) ?_;(try (fail));refine jT 2 [20,21,22] (aa 25 8388607) ?_;(refine jN (aa 25 16777215) 23 rfl ?_);(refine jG (aa 25 33554431) 24 rfl (bO rfl rfl rfl) ?_);refine jQ ?_)
       repeat' (first | refine jR ?_ | refine ac rfl rfl ?_)
       all_goals refine jZ (vs:=[_,_,_]) rfl ⟨rfl,rfl,rfl,trivial⟩ rfl ⟨hgl,rfl,?_⟩
       all_goals exact hnone hst rfl
      | cons e2 r3 =>
       have he20 : bt (e2 :: r3) (Int.toNat 0) = e2.toNat:=bj e2 r3
       have hel2 : (e2 :: r3).length = r3.length + 1:=rfl
       have hl' : (fs ++ [(d,w)]).length = fs.length + 1:=by simp
       have hbl' : (bs ++ [wb]).length = (fs ++ [(d,w)]).length:=by simp [hbl]
       have hnth : ∀ i,i < (fs ++ [(d,w)]).length → (i < fs.length ∧ ab (fs ++ [(d,w)]) i = ab fs i ∧ ab (bs ++ [wb]) i = ab bs i) ∨ (ab (fs ++ [(d,w)]) i = (d,w) ∧ ab (bs ++ [wb]) i = wb):=fun i hi=>by
        by_cases h1 : i < fs.length
        ·exact .inl ⟨h1,by rw [aA hi,aA h1,List.getElem_append_left h1],by rw [aA oM,aA oM,List.getElem_append_left oM]⟩
        ·have h2 : i = fs.length:=oM
         exact .inr ⟨by rw [aA hi];simp [h2],by rw [aA oM];simp [h2,hbl]⟩
       have hfm' : ∀ i,i < (fs ++ [(d,w)]).length → (ab (fs ++ [(d,w)]) i).1 ∈ x.2.fields:=fun i hi=>by
        rcases hnth i hi with ⟨h1,h2,_⟩ | ⟨h2,_⟩
        ·rw [h2];exact hfm i h1
        ·rw [h2];exact hdm
       have hreps' : ∀ i,i < (fs ++ [(d,w)]).length → RepR G (ah vs) (ab (fs ++ [(d,w)]) i).2 (ab (fs ++ [(d,w)]) i).1.kind (ab (bs ++ [wb]) i):=fun i hi=>by
        rcases hnth i hi with ⟨h1,h2,h3⟩ | ⟨h2,h3⟩
        ·rw [h2,h3];exact (hreps i h1).mono hle
        ·rw [h2,h3];exact hrep
       have hrow1 : ak cH (fs.map fun p=>p.1.tag) ++ [I d.tag] = ak cH ((fs ++ [(d,w)]).map fun p=>p.1.tag):=by rw [List.map_append];exact (bR cH _ d.tag).symm
       have hrow2 : ak dw bs ++ [Pt wb 0] = ak dw (bs ++ [wb]):=(bR dw bs wb).symm
       have hnd : ir (fs ++ [(d,w)]) = ir fs ++ [.nd 61 [] d.tag [w]]:=by simp [ir]
       dsimp only at hst
       by_cases h44 : e2.toNat = 44
       ·rw [if_pos h44] at hst
        have hn93 : ¬ e2.toNat = 125:=oM
        (refine am (ao (id:=8) _ (fun _ h=>h) al ?_);refine jT 22 [0,1,2] (aa 25 7) ?_;(try (refine Nx.re (d:=92) (v':=Bo false) rfl (congrArg Value.bool rfl) ?_));refine jT 20 [3,5] (aa 25 47) ?_;(refine jG (aa 25 111) 6 rfl (aX rfl rfl rfl) ?_);(refine jG (aa 25 239) 7 rfl (bP rfl rfl rfl rfl) ?_);(refine jA 4 rfl ?_;(refine ae rfl rfl rfl cx_out rfl ?_);refine jS (aa 25 255) ?_);(refine jA 8 rfl ?_;(refine ae rfl rfl rfl cx_sta rfl ?_);refine jS (aa 25 511) ?_);refine jT 15 [9] (aa 25 1023) ?_;(refine jG (aa 25 2047) 10 rfl (bm rfl rfl rfl) ?_);refine jT 13 [11] (aa 25 4095) ?_;(try (refine Nx.re (d:=101) (v':=Bo false) rfl (congrArg Value.bool (aG ‹_›)) ?_));refine jT 11 [12,13] (aa 25 16383) ?_;(refine jG (aa 25 32767) 14 rfl (bm rfl rfl rfl) ?_);refine jT 9 [15] (aa 25 65535) ?_;(try (refine Nx.re (d:=105) (v':=Bo false) rfl (congrArg Value.bool rfl) ?_));refine jW 5 [16,17,18,19] (aa 25 1048575) ?_;(try ((refine Nx.re (d:=109) (v':=Bo false) rfl (congrArg Value.bool (aG oM)) ?_)));refine jT 2 [20,21,22] (aa 25 8388607) ?_;(refine jG (aa 25 16777215) 23 rfl (bm rfl rfl rfl) ?_);(refine jG (aa 25 33554431) 24 rfl (bm rfl rfl rfl) ?_);refine jQ ?_)
        repeat' (first | refine jR ?_ | refine ad rfl rfl ?_)
        (refine am (ao (id:=10) [.blk x14 (.cells (List.toArray [I d.tag,S d.name,S d.kind,S d.stand]) tFd (0,0))] (by intro y hy;simp only [List.mem_cons,List.not_mem_nil,or_false] at hy ⊢;simp [hy]) al ?_);refine jW 7 [0,1,2,3,5] (aa 12 47) ?_;(refine jG (aa 12 111) 6 rfl (aX rfl rfl rfl) ?_);refine b8 [4,7] kR dC ⟨?_,?_,trivial⟩;(focus (refine aO rfl rfl ?_;(refine aD rfl ?_);refine jK (aa 12 127) ?_;refine jA 7 rfl ?_;(refine jF fun _=>?_);refine jK (aa 12 255) ?_;refine jA 8 rfl ?_;((refine bD rfl rfl rfl rfl rfl rfl rfl rfl rfl ?_ fun _ _=>?_;focus omega));refine jK (aa 12 511) ?_;refine jW 1 [9,10] (aa 12 2047) ?_;refine jA 11 rfl ?_;(refine jD rfl rfl rfl ?_);refine jK (aa 12 4095) ?_;refine jQ ?_));rotate_left 1;(focus (refine aO rfl rfl ?_;(refine jF fun _=>?_);refine jK (aa 12 239) ?_;refine jA 4 rfl ?_;(refine aD rfl ?_);refine jK (aa 12 255) ?_;refine jA 8 rfl ?_;((refine bD rfl rfl rfl rfl rfl rfl rfl rfl rfl ?_ fun _ _=>?_;focus omega));refine jK (aa 12 511) ?_;refine jW 1 [9,10] (aa 12 2047) ?_;refine jA 11 rfl ?_;(refine jD rfl rfl rfl ?_);refine jK (aa 12 4095) ?_;refine jQ ?_));rotate_left 1)
        all_goals repeat' (first | refine jM ?_ | (refine jo ?_;first | refine aD rfl ?_ | refine jD rfl rfl rfl ?_ | refine jF fun _=>?_ | refine bD rfl rfl rfl rfl rfl rfl rfl rfl rfl oM fun _ _=>?_) | refine ad rfl (aG oM) ?_)
        all_goals
         rename_i _ y1 yc1 _ y2 yc2
         rw [hrow1,hrow2]
         exact bh (fs ++ [(d,w)],bs ++ [wb],some ⟨y1,0,none⟩,yc1,some ⟨y2,0,none⟩,yc2,r3,m - 1,G) ⟨⟨⟨hbl',hfm',hreps'⟩,hgl⟩,⟨(by dsimp only;rw [hit,hst,vF,hnd]),(by dsimp only;omega)⟩,(by dsimp only;omega),(by dsimp only;omega)⟩ (by dsimp only;omega) tU rfl (by rw [hl'];repeat (first | exact List.Sublist.refl _ | apply List.Sublist.cons_cons | apply List.Sublist.cons))
       ·rw [if_neg h44] at hst
        by_cases h125' : e2.toNat = 125
        ·rw [if_pos h125'] at hst
         (refine am (ao (id:=8) _ (fun _ h=>h) al ?_);refine jT 22 [0,1,2] (aa 25 7) ?_;(try (refine Nx.re (d:=92) (v':=Bo false) rfl (congrArg Value.bool rfl) ?_));refine jT 20 [3,5] (aa 25 47) ?_;(refine jG (aa 25 111) 6 rfl (aX rfl rfl rfl) ?_);(refine jG (aa 25 239) 7 rfl (bP rfl rfl rfl rfl) ?_);(refine jA 4 rfl ?_;(refine ae rfl rfl rfl cx_out rfl ?_);refine jS (aa 25 255) ?_);(refine jA 8 rfl ?_;(refine ae rfl rfl rfl cx_sta rfl ?_);refine jS (aa 25 511) ?_);refine jT 15 [9] (aa 25 1023) ?_;(refine jG (aa 25 2047) 10 rfl (bm rfl rfl rfl) ?_);refine jT 13 [11] (aa 25 4095) ?_;(try (refine Nx.re (d:=101) (v':=Bo false) rfl (congrArg Value.bool (aG ‹_›)) ?_));refine jT 11 [12,13] (aa 25 16383) ?_;(refine jG (aa 25 32767) 14 rfl (bm rfl rfl rfl) ?_);refine jT 9 [15] (aa 25 65535) ?_;(try (refine Nx.re (d:=105) (v':=Bo false) rfl (congrArg Value.bool rfl) ?_));refine jW 5 [16,17,18,19] (aa 25 1048575) ?_;(try ((refine Nx.re (d:=109) (v':=Bo true) rfl (congrArg Value.bool (ay oM)) ?_)));refine jW 2 [20,21,22] (aa 25 8388607) ?_;(refine jG (aa 25 16777215) 23 rfl (bO rfl rfl rfl) ?_);(refine jG (aa 25 33554431) 24 rfl (bm rfl rfl rfl) ?_);refine jQ ?_)
         repeat' (first | refine jR ?_ | refine ad rfl (aG oM) ?_)
         (refine am (ao (id:=10) [.blk x14 (.cells (List.toArray [I d.tag,S d.name,S d.kind,S d.stand]) tFd (0,0))] (by intro y hy;simp only [List.mem_cons,List.not_mem_nil,or_false] at hy ⊢;simp [hy]) al ?_);refine jW 7 [0,1,2,3,5] (aa 12 47) ?_;(refine jG (aa 12 111) 6 rfl (aX rfl rfl rfl) ?_);refine b8 [4,7] kR dC ⟨?_,?_,trivial⟩;(focus (refine aO rfl rfl ?_;(refine aD rfl ?_);refine jK (aa 12 127) ?_;refine jA 7 rfl ?_;(refine jF fun _=>?_);refine jK (aa 12 255) ?_;refine jA 8 rfl ?_;((refine bD rfl rfl rfl rfl rfl rfl rfl rfl rfl ?_ fun _ _=>?_;focus omega));refine jK (aa 12 511) ?_;refine jW 1 [9,10] (aa 12 2047) ?_;refine jA 11 rfl ?_;(refine jD rfl rfl rfl ?_);refine jK (aa 12 4095) ?_;refine jQ ?_));rotate_left 1;(focus (refine aO rfl rfl ?_;(refine jF fun _=>?_);refine jK (aa 12 239) ?_;refine jA 4 rfl ?_;(refine aD rfl ?_);refine jK (aa 12 255) ?_;refine jA 8 rfl ?_;((refine bD rfl rfl rfl rfl rfl rfl rfl rfl rfl ?_ fun _ _=>?_;focus omega));refine jK (aa 12 511) ?_;refine jW 1 [9,10] (aa 12 2047) ?_;refine jA 11 rfl ?_;(refine jD rfl rfl rfl ?_);refine jK (aa 12 4095) ?_;refine jQ ?_));rotate_left 1)
         all_goals repeat' (first | refine jM ?_ | (refine jo ?_;first | refine aD rfl ?_ | refine jD rfl rfl rfl ?_ | refine jF fun _=>?_ | refine bD rfl rfl rfl rfl rfl rfl rfl rfl rfl oM fun _ _=>?_) | refine ac rfl (ay oM) ?_)
         all_goals
          rename_i _ y1 yc1 _ y2 yc2
          rw [hrow1,hrow2]
          refine Nx.sealS (v:=.slice (some ⟨y1,0,none⟩) (fs.length + 1) yc1) fun G2 hG2 hs1=>?_
          refine Nx.sealS (v:=.slice (some ⟨y2,0,none⟩) (fs.length + 1) yc2) fun G3 hG3 hs2=>?_
          refine Nx.sealC (b:=x13) fun G4 hG4 hsg=>?_
          refine jZ (vs:=[_,_,_]) rfl ⟨rfl,rfl,rfl,trivial⟩ rfl ⟨(((hgl.trans hG2).trans hG3).trans hG4),rfl,?_⟩
          rw [bG]
          exact ⟨_,_,_,rfl,fun _=>⟨.nd 82 [] 0 (ir (fs ++ [(d,w)])),x13,rfl,(by rw [hRl,hit,hst,hnd];rfl),.recd k x13 x.2 (fs ++ [(d,w)]) (bs ++ [wb]) (some ⟨y1,0,none⟩) (some ⟨y2,0,none⟩) yc1 yc2 ⟨hrf,hso⟩ (by rw [hl'];exact hsg) (by rw [hl'];exact (hs1.mono hG3).mono hG4) (by rw [hl'];exact hs2.mono hG4) hbl' hfm' (fun i hi=>(hreps' i hi).mono ((hG2.trans hG3).trans hG4))⟩,fun h=>(by cases h)⟩
        ·rw [if_neg h125'] at hst
         (refine am (ao (id:=8) _ (fun _ h=>h) al ?_);refine jT 22 [0,1,2] (aa 25 7) ?_;(try (refine Nx.re (d:=92) (v':=Bo false) rfl (congrArg Value.bool rfl) ?_));refine jT 20 [3,5] (aa 25 47) ?_;(refine jG (aa 25 111) 6 rfl (aX rfl rfl rfl) ?_);(refine jG (aa 25 239) 7 rfl (bP rfl rfl rfl rfl) ?_);(refine jA 4 rfl ?_;(refine ae rfl rfl rfl cx_out rfl ?_);refine jS (aa 25 255) ?_);(refine jA 8 rfl ?_;(refine ae rfl rfl rfl cx_sta rfl ?_);refine jS (aa 25 511) ?_);refine jT 15 [9] (aa 25 1023) ?_;(refine jG (aa 25 2047) 10 rfl (bm rfl rfl rfl) ?_);refine jT 13 [11] (aa 25 4095) ?_;(try (refine Nx.re (d:=101) (v':=Bo false) rfl (congrArg Value.bool (aG ‹_›)) ?_));refine jT 11 [12,13] (aa 25 16383) ?_;(refine jG (aa 25 32767) 14 rfl (bm rfl rfl rfl) ?_);refine jT 9 [15] (aa 25 65535) ?_;(try (refine Nx.re (d:=105) (v':=Bo false) rfl (congrArg Value.bool rfl) ?_));refine jW 5 [16,17,18,19] (aa 25 1048575) ?_;(try ((refine Nx.re (d:=109) (v':=Bo true) rfl (congrArg Value.bool (ay oM)) ?_)));refine jW 2 [20,21,22] (aa 25 8388607) ?_;(refine jG (aa 25 16777215) 23 rfl (bO rfl rfl rfl) ?_);(refine jG (aa 25 33554431) 24 rfl (bm rfl rfl rfl) ?_);refine jQ ?_)
         repeat' (first | refine jR ?_ | refine ac rfl (ay oM) ?_)
         all_goals refine jZ (vs:=[_,_,_]) rfl ⟨rfl,rfl,rfl,trivial⟩ rfl ⟨hgl,rfl,?_⟩
         all_goals exact hnone hst rfl
theorem vo {ts : List Ty} {f : adA → adA → Option (V × adA)} {t : Ty} {e : UInt8} {s : adA} (h : t.sort = 82 ∧ ¬ e.toNat = 123 ∨ t.sort = 69 ∧ ¬ e.toNat = 35 ∨ t.sort = 85 ∧ ¬ e.toNat = 60) : bC ts f t (e :: s) = none:=by
 unfold bC
 dsimp only
 rcases h with ⟨h1,h2⟩ | ⟨h1,h2⟩ | ⟨h1,h2⟩
 ·rw [if_pos h1,if_neg h2]
 ·rw [if_neg oM,if_pos h1,if_neg h2]
 ·rw [if_neg oM,if_neg oM,if_neg h2]
theorem abK {n : Nat} {u : Value} {vs : List cy} {x : cy} {k s : adA} {e : UInt8} (hu : u.oneCell' = true) (cx_rf : a9 adz 116 [u,S k] G (· = Tu [Ag [U8 x.2.sort,S x.2.name,gn x],Bo true])) (hso : x.2.sort = 82 ∧ ¬ e.toNat = 123 ∨ x.2.sort = 69 ∧ ¬ e.toNat = 35 ∨ x.2.sort = 85 ∧ ¬ e.toNat = 60) (hs : s.length ≤ 2000000) (hn : n ≤ 1000) :
  bB adz 84 [Ag [u],S (e :: s),S k,I (n + 1 : Nat)] G (eQ (ah vs) (bC (ah vs) (rd (ah vs) n) x.2 (e :: s)) k):=by
 have hno:=vo (ts:=ah vs) (f:=rd (ah vs) n) (s:=s) hso
 have he0 : bt (e :: s) (Int.toNat 0) = e.toNat:=bj e s
 have hel : (e :: s).length = s.length + 1:=rfl
 rcases hso with ⟨h1,h2⟩ | ⟨h1,h2⟩ | ⟨h1,h2⟩
 all_goals
  have h1' : (x.2.sort : Int) = 82 ∨ (x.2.sort : Int) = 69 ∨ (x.2.sort : Int) = 85:=oM
  refine jB [(0,_),(1,_),(2,_),(3,_)] Tryz.func84 Tryz.ntmps84 fun B hok hB hW=>?_
  repeat' (first | refine jM ?_ | (refine jo ?_;first | refine jO fun _=>?_ | refine aD rfl ?_ | refine jL fun _=>?_ | refine jC rfl rfl rfl ?_ | refine aM rfl ?_ | refine aC rfl ?_ | refine ae rfl rfl rfl cx_rf rfl ?_) | refine aF rfl rfl (ay oM) ?_ | refine ar rfl rfl (aG oM) ?_ | (refine ad rfl (by first | rfl | (refine decide_eq_false ?_;(omega))) ?_))
  all_goals refine jZ (vs:=[_,_,_]) rfl ⟨rfl,rfl,rfl,trivial⟩ rfl ⟨Gh.le.refl _,rfl,?_⟩
  all_goals (rw [bG];exact ⟨_,_,_,rfl,fun h=>(by cases h),fun _=>hno⟩)
theorem abM {n : Nat} {u : Value} {vs : List cy} {x : cy} {k s : adA} (hR : k5 n u vs) (h : SchR G u vs) (hw : SchW (ah vs)) (hx : x ∈ vs) (hrf : a8 (ah vs) k = some x.2) (cx_rf : a9 adz 116 [u,S k] G (· = Tu [Ag [U8 x.2.sort,S x.2.name,gn x],Bo true])) (hso : x.2.sort = 82) (hs : s.length ≤ 1999999) (hn : n ≤ 1000) (hkl : k.length ≤ 1000) :
  bB adz 84 [Ag [u],S (123 :: s),S k,I (n + 1 : Nat)] G (eQ (ah vs) (bC (ah vs) (rd (ah vs) n) x.2 (123 :: s)) k):=by
 have cx_rc:=w6 (s:=s) hR h hw hx hrf hso oM hn hkl
 have he0 : bt (123 :: s) (Int.toNat 0) = 123:=bj 123 s
 have hel : (123 :: s).length = s.length + 1:=rfl
 have h1' : (x.2.sort : Int) = 82:=oM
 refine jB [(0,_),(1,_),(2,_),(3,_)] Tryz.func84 Tryz.ntmps84 fun B hok hB hW=>?_
 repeat' (first | refine jM ?_ | (refine jo ?_;first | refine jO fun _=>?_ | refine aD rfl ?_ | refine jL fun _=>?_ | refine jC rfl rfl rfl ?_ | refine aM rfl ?_ | refine ae rfl rfl rfl cx_rf rfl ?_) | refine aF rfl rfl (ay ‹_›) ?_ | refine ac rfl rfl ?_ | (refine am (ao (id:=3) _ (fun _ h=>h) al ?_);refine jW 9 [1,2,3,5] (aa 13 46) ?_;(refine jG (aa 13 47) 0 rfl (bP rfl rfl rfl rfl) ?_);(refine jG (aa 13 63) 4 rfl (bP rfl rfl rfl rfl) ?_);refine jA 6 rfl ?_;(refine an rfl rfl rfl cx_rc rfl ?_;rintro _ G hle ⟨q1,r1,ok1,rfl,hyes,hno⟩;skip);refine jS (aa 13 127) ?_;refine jT 0 [7,8,9,10,11,12] (aa 13 8191) ?_;refine jQ ?_))
 refine jZ (vs:=[_,_,_]) rfl ⟨rfl,rfl,rfl,trivial⟩ rfl ⟨hle,rfl,?_⟩
 rw [bG]
 exact ⟨_,_,_,rfl,hyes,hno⟩
theorem abN {n : Nat} {u : Value} {vs : List cy} {x : cy} {k s : adA} (h : SchR G u vs) (hw : SchW (ah vs)) (hx : x ∈ vs) (hrf : a8 (ah vs) k = some x.2) (cx_rf : a9 adz 116 [u,S k] G (· = Tu [Ag [U8 x.2.sort,S x.2.name,gn x],Bo true])) (hso : x.2.sort = 69) (hs : s.length ≤ 1999999) (hn : n ≤ 1000) :
  bB adz 84 [Ag [u],S (35 :: s),S k,I (n + 1 : Nat)] G (eQ (ah vs) (bC (ah vs) (rd (ah vs) n) x.2 (35 :: s)) k):=by
 have hxt : x.2 ∈ ah vs:=List.mem_map_of_mem hx
 have hTW:=hw.ty _ hxt
 have hfl:=hTW.len
 have cx_tg:=rX (G:=G) (u:=u) (x:=x) (s:=s) oM h.sl.one (h.fl x hx) oM
 have he0 : bt (35 :: s) (Int.toNat 0) = 35:=bj 35 s
 have hel : (35 :: s).length = s.length + 1:=rfl
 have h1' : (x.2.sort : Int) = 69:=oM
 have hRT : bC (ah vs) (rd (ah vs) n) x.2 (35 :: s) = match cK 200 s with
   | none=>none
   | some (n,r)=>if (ck x.2.fields n).isSome = true then some (.nd 69 [] n [],r) else none:=by
  unfold bC
  dsimp only
  rw [if_neg oM,if_pos hso,if_pos (show (35 : UInt8).toNat = 35 from rfl)]
  cases cK 200 s <;> rfl
 unfold cK at hRT
 simp only [ka] at cx_tg
 refine jB [(0,_),(1,_),(2,_),(3,_)] Tryz.func84 Tryz.ntmps84 fun B hok hB hW=>?_
 repeat' (first | refine jM ?_ | (refine jo ?_;first | refine jO fun _=>?_ | refine aD rfl ?_ | refine jL fun _=>?_ | refine jC rfl rfl rfl ?_ | refine aM rfl ?_ | refine aC rfl ?_ | refine jF fun _=>?_ | refine jV (ax rfl rfl) ?_ | refine ae rfl rfl rfl cx_rf rfl ?_) | refine aF rfl rfl (ay ‹_›) ?_ | refine ar rfl rfl (aG oM) ?_ | refine ac rfl rfl ?_ | refine ad rfl rfl ?_ | (refine am (ao (id:=5) _ (fun _ h=>h) al ?_);refine jW 11 [1,2] (aa 13 6) ?_;(refine jG (aa 13 7) 0 rfl (bP rfl rfl rfl rfl) ?_);(refine jG (aa 13 15) 3 rfl (bP rfl rfl rfl rfl) ?_);refine b8 [4,9] kR dC ⟨?_,?_,trivial⟩;(focus (refine aO rfl rfl ?_;(refine eF rfl rfl rfl cx_tg rfl ?_;rintro _ ⟨nt,rfl,hnt⟩);refine jK (aa 13 31) ?_;refine jW 4 [5,6,7,8] (aa 13 511) ?_;refine jA 9 rfl ?_;(refine jL fun _=>?_);refine jK (aa 13 1023) ?_;refine jA 10 rfl ?_;(refine jC rfl rfl rfl ?_);refine jK (aa 13 2047) ?_;refine jW 0 [11,12] (aa 13 8191) ?_;refine jQ ?_));rotate_left 1;(focus (refine aO rfl rfl ?_;(refine jL fun _=>?_);refine jK (aa 13 527) ?_;refine jA 4 rfl ?_;(refine eF rfl rfl rfl cx_tg rfl ?_;rintro _ ⟨nt,rfl,hnt⟩);refine jK (aa 13 543) ?_;refine jW 3 [5,6,7,8] (aa 13 1023) ?_;refine jA 10 rfl ?_;(refine jC rfl rfl rfl ?_);refine jK (aa 13 2047) ?_;refine jW 0 [11,12] (aa 13 8191) ?_;refine jQ ?_));rotate_left 1))
 all_goals
  rename_i y y8
  refine Nx.sealC (b:=y) fun G2 hG2 hsy=>?_
  refine Nx.sealC (b:=y8) fun G3 hG3 hsg=>?_
  refine jZ (vs:=[_,_,_]) rfl ⟨rfl,rfl,rfl,trivial⟩ rfl ⟨(hG2.trans hG3),rfl,?_⟩
  rw [bG]
  refine ⟨_,_,_,rfl,fun hb=>?_,fun hb=>?_⟩
  ·simp only [Bool.and_eq_true] at hb
   obtain ⟨hb1,hb2⟩:=hb
   obtain ⟨m0,hm⟩:=Option.isSome_iff_exists.1 hb1
   obtain ⟨d,hd⟩:=Option.isSome_iff_exists.1 hb2
   have hnm:=hnt m0 hm
   subst hnm
   rw [hd] at hsy
   simp only [Option.getD_some] at hsy
   have hdm : d ∈ x.2.fields:=List.mem_of_find?_eq_some hd
   have hdt : d.tag = nt:=by have:=List.find?_some hd;simpa using this
   exact ⟨.nd 69 [] d.tag [],y8,rfl,by rw [hRT,hm];dsimp only [Option.map_some];rw [hd,hdt];rfl,.enm k y8 y x.2 d ⟨hrf,hso⟩ hdm hsg (hsy.mono hG3)⟩
  ·rw [hRT]
   cases hm : aK (s.takeWhile bn) 200 with
   | none=>rfl
   | some m0 =>
    have hnm:=hnt m0 hm
    subst hnm
    rw [hm] at hb
    dsimp only [Option.map_some]
    rw [if_neg]
    intro h2
    rw [h2] at hb;cases hb
theorem abL {n : Nat} {u : Value} {vs : List cy} {x : cy} {k s : adA} (hR : k5 n u vs) (h : SchR G u vs) (hw : SchW (ah vs)) (hx : x ∈ vs) (hrf : a8 (ah vs) k = some x.2) (cx_rf : a9 adz 116 [u,S k] G (· = Tu [Ag [U8 x.2.sort,S x.2.name,gn x],Bo true])) (hso : x.2.sort = 85) (hs : s.length ≤ 1999999) (hn : n ≤ 1000) :
  bB adz 84 [Ag [u],S (60 :: s),S k,I (n + 1 : Nat)] G (eQ (ah vs) (bC (ah vs) (rd (ah vs) n) x.2 (60 :: s)) k):=by
 have edn : ((n + 1 : Nat) : Int) - 1 = (n : Nat):=oM
 have hxt : x.2 ∈ ah vs:=List.mem_map_of_mem hx
 have hTW:=hw.ty _ hxt
 have hfl:=hTW.len
 have cx_tg:=rX (G:=G) (u:=u) (x:=x) (s:=s) oM h.sl.one (h.fl x hx) oM
 have he0 : bt (60 :: s) (Int.toNat 0) = 60:=bj 60 s
 have hel : (60 :: s).length = s.length + 1:=rfl
 have h1' : (x.2.sort : Int) = 85:=oM
 have hRT : bC (ah vs) (rd (ah vs) n) x.2 (60 :: s) = match aY (rd (ah vs) n) x.2 s with
   | none=>none
   | some ((d,v),r)=>match r with
    | []=>none
    | c' :: r'=>if c'.toNat = 62 then some (.nd 85 [] d.tag [v],r') else none:=by
  unfold bC
  dsimp only
  rw [if_neg oM,if_neg oM,if_pos (show (60 : UInt8).toNat = 60 from rfl)]
  cases aY (rd (ah vs) n) x.2 s <;> rfl
 simp only [ka] at cx_tg
 refine jB [(0,_),(1,_),(2,_),(3,_)] Tryz.func84 Tryz.ntmps84 fun B hok hB hW=>?_
 repeat' (first | refine jM ?_ | (refine jo ?_;first | refine jO fun _=>?_ | refine aD rfl ?_ | refine jL fun _=>?_ | refine jC rfl rfl rfl ?_ | refine aM rfl ?_ | refine aC rfl ?_ | refine ae rfl rfl rfl cx_rf rfl ?_) | refine aF rfl rfl (ay ‹_›) ?_ | refine ar rfl rfl (aG oM) ?_ | refine ac rfl rfl ?_ | refine ad rfl rfl ?_)
 (refine am (ao (id:=8) _ (fun _ h=>h) al ?_);refine jW 11 [1,2] (aa 13 6) ?_;(refine jG (aa 13 7) 0 rfl (bP rfl rfl rfl rfl) ?_);(refine jG (aa 13 15) 3 rfl (bP rfl rfl rfl rfl) ?_);refine b8 [4,9] kR dC ⟨?_,?_,trivial⟩;(focus (refine aO rfl rfl ?_;(refine eF rfl rfl rfl cx_tg rfl ?_;rintro _ ⟨nt,rfl,hnt⟩);refine jK (aa 13 31) ?_;refine jW 4 [5,6,7,8] (aa 13 511) ?_;refine jA 9 rfl ?_;(refine jL fun _=>?_);refine jK (aa 13 1023) ?_;refine jA 10 rfl ?_;(refine jC rfl rfl rfl ?_);refine jK (aa 13 2047) ?_;refine jW 0 [11,12] (aa 13 8191) ?_;refine jQ ?_));rotate_left 1;(focus (refine aO rfl rfl ?_;(refine jL fun _=>?_);refine jK (aa 13 527) ?_;refine jA 4 rfl ?_;(refine eF rfl rfl rfl cx_tg rfl ?_;rintro _ ⟨nt,rfl,hnt⟩);refine jK (aa 13 543) ?_;refine jW 3 [5,6,7,8] (aa 13 1023) ?_;refine jA 10 rfl ?_;(refine jC rfl rfl rfl ?_);refine jK (aa 13 2047) ?_;refine jW 0 [11,12] (aa 13 8191) ?_;refine jQ ?_));rotate_left 1)
 all_goals
  have hnone : ∀ {v : Value} {G' : Gh} {r : adA},aY (rd (ah vs) n) x.2 s = none → v = Tu [.pointer none,S r,Bo false] → eQ (ah vs) (bC (ah vs) (rd (ah vs) n) x.2 (60 :: s)) k v G':=fun h1 h2=>⟨_,_,_,h2,fun h=>(by cases h),fun _=>by rw [hRT,h1]⟩
  cases hb16 : (aK (s.takeWhile bn) 200).isSome && (ck x.2.fields nt).isSome with
  | false =>
   have hno : aY (rd (ah vs) n) x.2 s = none:=by
    cases hm : aK (s.takeWhile bn) 200 with
    | none=>exact fX (.inl hm)
    | some m0 =>
     refine fX (.inr ⟨m0,hm,?_⟩)
     rw [hm] at hb16
     rw [← hnt m0 hm]
     cases hf : ck x.2.fields nt with
     | none=>rfl
     | some d=>rw [hf] at hb16;cases hb16
   repeat' (first | refine jR ?_ | (refine jo ?_;refine aM rfl ?_) | refine aF rfl rfl rfl ?_ | refine ac rfl rfl ?_)
   all_goals refine jZ (vs:=[_,_,_]) rfl ⟨rfl,rfl,rfl,trivial⟩ rfl ⟨Gh.le.refl _,rfl,?_⟩
   all_goals exact hnone hno rfl
  | true =>
   simp only [Bool.and_eq_true] at hb16
   obtain ⟨hb1,hb2⟩:=hb16
   obtain ⟨m0,hm⟩:=Option.isSome_iff_exists.1 hb1
   obtain ⟨d,hd⟩:=Option.isSome_iff_exists.1 hb2
   have hnm:=hnt m0 hm
   subst hnm
   rw [hd]
   simp only [Option.getD_some]
   have hdm : d ∈ x.2.fields:=List.mem_of_find?_eq_some hd
   have hwl:=eA bn s
   cases hdw : s.dropWhile bn with
   | nil =>
    have hno : aY (rd (ah vs) n) x.2 s = none:=iy hm (fun s2 h=>by rw [hdw] at h;cases h)
    repeat' (first | refine jR ?_ | (refine jo ?_;first | refine aM rfl ?_ | refine aC rfl ?_) | refine aF rfl rfl rfl ?_ | refine ar rfl rfl rfl ?_ | refine ac rfl rfl ?_)
    all_goals refine jZ (vs:=[_,_,_]) rfl ⟨rfl,rfl,rfl,trivial⟩ rfl ⟨Gh.le.refl _,rfl,?_⟩
    all_goals exact hnone hno rfl
   | cons e r2 =>
    have he20 : bt (e :: r2) (Int.toNat 0) = e.toNat:=bj e r2
    have hel2 : (e :: r2).length = r2.length + 1:=rfl
    by_cases h61 : e.toNat = 61
    case neg =>
     have hno : aY (rd (ah vs) n) x.2 s = none:=iy hm (fun s2 h=>by rw [hdw] at h;simp only [List.cons.injEq] at h;exact h61 (by rw [h.1];rfl))
     repeat' (first | refine jM ?_ | (refine jo ?_;refine aC rfl ?_) | refine ar rfl rfl rfl ?_ | refine ac rfl (ay oM) ?_)
     all_goals refine jZ (vs:=[_,_,_]) rfl ⟨rfl,rfl,rfl,trivial⟩ rfl ⟨Gh.le.refl _,rfl,?_⟩
     all_goals exact hnone hno rfl
    have he61 : e = 61:=UInt8.toNat_inj.1 h61
    have hfs:=mn (f:=rd (ah vs) n) (t:=x.2) (s:=s) hm hd (by rw [hdw,he61])
    have hdk : aB (ah vs) d.kind = true:=dT hw hxt oM hdm
    rw [hdw,List.length_cons] at hwl
    have cx_rd:=hR G d.kind r2 h hdk oM
    rw [← edn] at cx_rd
    repeat' (first | refine jM ?_ | (refine jo ?_;refine aC rfl ?_) | refine ar rfl rfl rfl ?_ | refine ad rfl (aG oM) ?_)
    (refine am (ao (id:=11) _ (fun _ h=>h) al ?_);refine jW 10 [1,2,3,5,6] (aa 15 110) ?_;(refine jG (aa 15 111) 0 rfl (bP rfl rfl rfl rfl) ?_);(refine jG (aa 15 127) 4 rfl (aX rfl rfl rfl) ?_);refine jA 7 rfl ?_;(refine an rfl rfl rfl cx_rd rfl ?_;rintro _ G hle ⟨q1,r1,ok1,rfl,hyes,hno⟩;skip);refine jS (aa 15 255) ?_;refine jT 0 [8,9,10,11,12,13,14] (aa 15 32767) ?_;refine jQ ?_)
    cases ok1 with
    | false =>
     have hno2 : aY (rd (ah vs) n) x.2 s = none:=by rw [hfs,hno rfl];rfl
     repeat' (first | refine jR ?_ | (refine jo ?_;refine aM rfl ?_) | refine aF rfl rfl rfl ?_ | refine ac rfl rfl ?_)
     all_goals refine jZ (vs:=[_,_,_]) rfl ⟨rfl,rfl,rfl,trivial⟩ rfl ⟨hle,rfl,?_⟩
     all_goals exact hnone hno2 rfl
    | true =>
     obtain ⟨w,wb,rfl,hf,hrep⟩:=hyes rfl
     have hfd : aY (rd (ah vs) n) x.2 s = some ((d,w),r1):=by rw [hfs,hf];rfl
     rw [hfd] at hRT
     dsimp only at hRT
     cases r1 with
     | nil =>
      repeat' (first | refine jR ?_ | (refine jo ?_;first | refine aM rfl ?_ | refine aC rfl ?_) | refine aF rfl rfl rfl ?_ | refine ar rfl rfl rfl ?_ | refine ac rfl rfl ?_)
      all_goals refine jZ (vs:=[_,_,_]) rfl ⟨rfl,rfl,rfl,trivial⟩ rfl ⟨hle,rfl,?_⟩
      all_goals (rw [bG];exact ⟨_,_,_,rfl,fun h=>(by cases h),fun _=>hRT⟩)
     | cons e3 r3 =>
      have he30 : bt (e3 :: r3) (Int.toNat 0) = e3.toNat:=bj e3 r3
      have hel3 : (e3 :: r3).length = r3.length + 1:=rfl
      dsimp only at hRT
      by_cases h62 : e3.toNat = 62
      case neg =>
       rw [if_neg h62] at hRT
       repeat' (first | refine jM ?_ | (refine jo ?_;refine aC rfl ?_) | refine ar rfl rfl rfl ?_ | refine ac rfl (ay oM) ?_)
       all_goals refine jZ (vs:=[_,_,_]) rfl ⟨rfl,rfl,rfl,trivial⟩ rfl ⟨hle,rfl,?_⟩
       all_goals (rw [bG];exact ⟨_,_,_,rfl,fun h=>(by cases h),fun _=>hRT⟩)
      rw [if_pos h62] at hRT
      repeat' (first | refine jM ?_ | (refine jo ?_;refine aC rfl ?_) | refine ar rfl rfl rfl ?_ | refine ad rfl (aG oM) ?_)
      (refine am (ao (id:=14) _ (fun _ h=>h) al ?_);refine jW 8 [0,1,4,8,9] (aa 13 787) ?_;(refine jG (aa 13 791) 2 rfl (aX rfl rfl rfl) ?_);refine b8 [3,5] kR dC ⟨?_,?_,trivial⟩;(focus (refine aO rfl rfl ?_;(refine jF fun _=>?_);refine jS (aa 13 799) ?_;refine jA 5 rfl ?_;(refine jF fun _=>?_);refine jS (aa 13 831) ?_;(refine jG (aa 13 895) 6 rfl (ax rfl rfl) ?_);refine jA 7 rfl ?_;(refine jO fun _=>?_);refine jS (aa 13 1023) ?_;refine jW 0 [10,11,12] (aa 13 8191) ?_;refine jQ ?_));rotate_left 1;(focus (refine aO rfl rfl ?_;(refine jF fun _=>?_);refine jS (aa 13 823) ?_;refine jA 3 rfl ?_;(refine jF fun _=>?_);refine jS (aa 13 831) ?_;(refine jG (aa 13 895) 6 rfl (ax rfl rfl) ?_);refine jA 7 rfl ?_;(refine jO fun _=>?_);refine jS (aa 13 1023) ?_;refine jW 0 [10,11,12] (aa 13 8191) ?_;refine jQ ?_));rotate_left 1)
      all_goals repeat' (refine jR ?_)
      all_goals
       rename_i y1 y2 y8
       refine Nx.sealC (b:=y1) fun G2 hG2 hs1=>?_
       refine Nx.sealC (b:=y2) fun G3 hG3 hs2=>?_
       refine Nx.sealC (b:=y8) fun G4 hG4 hsg=>?_
       refine jZ (vs:=[_,_,_]) rfl ⟨rfl,rfl,rfl,trivial⟩ rfl ⟨(((hle.trans hG2).trans hG3).trans hG4),rfl,?_⟩
       rw [bG]
       first | exact ⟨_,_,_,rfl,fun _=>⟨.nd 85 [] d.tag [w],y8,rfl,hRT,.uni k y8 y1 y2 wb 1 x.2 d w (Nat.le_refl _) ⟨hrf,hso⟩ hdm hsg (hs1.mono (hG3.trans hG4)) (hs2.mono hG4) (hrep.mono ((hG2.trans hG3).trans hG4))⟩,fun h=>(by cases h)⟩ | exact ⟨_,_,_,rfl,fun _=>⟨.nd 85 [] d.tag [w],y8,rfl,hRT,.uni k y8 y2 y1 wb 1 x.2 d w (Nat.le_refl _) ⟨hrf,hso⟩ hdm hsg (hs2.mono hG4) (hs1.mono (hG3.trans hG4)) (hrep.mono ((hG2.trans hG3).trans hG4))⟩,fun h=>(by cases h)⟩
theorem aaW {ts : List Ty} {n : Nat} {k : adA} : rd ts n k [] = none:=by
 cases h : rd ts n k [] with
 | none=>rfl
 | some x=>have:=iM h;simp at this
theorem u7 {n : Nat} {u : Value} {vs : List cy} {k s : adA} (hc : s = [] ∨ n = 0) (hn : n ≤ 1000) : bB adz 50 [Ag [u],S s,S k,I (n : Nat)] G (eQ (ah vs) (rd (ah vs) n k s) k):=by
 have hno : rd (ah vs) n k s = none:=by
  rcases hc with rfl | rfl
  ·exact aaW
  ·rfl
 by_cases hs : s = []
 ·refine jB [(0,_),(1,_),(2,_),(3,_)] Tryz.func50 Tryz.ntmps50 fun B hok hB hW=>?_
  repeat' (first | refine jR ?_ | (refine jo ?_;first | refine jO fun _=>?_ | refine aM rfl ?_) | refine aF rfl rfl (ay ‹_›) ?_ | refine ac rfl rfl ?_)
  refine jZ (vs:=[_,_,_]) rfl ⟨rfl,rfl,rfl,trivial⟩ rfl ⟨Gh.le.refl _,rfl,?_⟩
  rw [bG]
  exact ⟨_,_,_,rfl,fun h=>(by cases h),fun _=>hno⟩
 ·have hn0 : n = 0:=by
   rcases hc with h | h
   ·exact absurd h hs
   ·exact h
  refine jB [(0,_),(1,_),(2,_),(3,_)] Tryz.func50 Tryz.ntmps50 fun B hok hB hW=>?_
  repeat' (first | refine jR ?_ | (refine jo ?_;first | refine jO fun _=>?_ | refine aC rfl ?_) | refine ar rfl rfl (aG ‹_›) ?_ | refine ac rfl (ay oM) ?_)
  refine jZ (vs:=[_,_,_]) rfl ⟨rfl,rfl,rfl,trivial⟩ rfl ⟨Gh.le.refl _,rfl,?_⟩
  rw [bG]
  exact ⟨_,_,_,rfl,fun h=>(by cases h),fun _=>hno⟩
theorem aai {n : Nat} {u : Value} {vs : List cy} {k s : adA} {e : UInt8} (hR : k5 n u vs) (h : SchR G u vs) (hk : aB (ah vs) (91 :: k) = true) (hs : s.length ≤ 1999999) (hn : n ≤ 999) :
  bB adz 50 [Ag [u],S (e :: s),S (91 :: k),I (n + 1 : Nat)] G (eQ (ah vs) (rd (ah vs) (n + 1) (91 :: k) (e :: s)) (91 :: k)):=by
 have hrd : rd (ah vs) (n + 1) (91 :: k) (e :: s) = fM (rd (ah vs) n k) (e :: s):=by rw [rd];exact sv rfl
 have he0 : bt (e :: s) (Int.toNat 0) = e.toNat:=bj e s
 have hel : (e :: s).length = s.length + 1:=rfl
 have hk0 : bt (91 :: k) (Int.toNat 0) = 91:=bj 91 k
 have hkl2 : (91 :: k).length = k.length + 1:=rfl
 by_cases h91 : e.toNat = 91
 ·obtain rfl:=bX h91 dC
  have cx_ls:=aal (s:=s) hR h (fG (.inl rfl) hk) oM oM
  refine jB [(0,_),(1,_),(2,_),(3,_)] Tryz.func50 Tryz.ntmps50 fun B hok hB hW=>?_
  repeat' (first | refine jM ?_ | (refine jo ?_;first | refine jO fun _=>?_ | refine aC rfl ?_) | refine ar rfl rfl rfl ?_ | refine ac rfl rfl ?_ | refine ad rfl rfl ?_ | (refine am (ao (id:=7) _ (fun _ h=>h) al ?_);refine jW 8 [1,2,3,4] (aa 12 30) ?_;(refine jG (aa 12 31) 0 rfl (bP rfl rfl rfl rfl) ?_);refine jA 5 rfl ?_;(refine an rfl rfl rfl cx_ls rfl ?_;rintro _ G hle ⟨q1,r1,ok1,rfl,hyes,hno⟩;skip);refine jS (aa 12 63) ?_;refine jT 0 [6,7,8,9,10,11] (aa 12 4095) ?_;refine jQ ?_))
  refine jZ (vs:=[_,_,_]) rfl ⟨rfl,rfl,rfl,trivial⟩ rfl ⟨hle,rfl,?_⟩
  rw [bG,hrd]
  exact ⟨_,_,_,rfl,hyes,hno⟩
 ·have hno : fM (rd (ah vs) n k) (e :: s) = none:=by unfold fM;dsimp only;rw [if_neg h91]
  refine jB [(0,_),(1,_),(2,_),(3,_)] Tryz.func50 Tryz.ntmps50 fun B hok hB hW=>?_
  repeat' (first | refine jM ?_ | (refine jo ?_;first | refine jO fun _=>?_ | refine aC rfl ?_) | refine ar rfl rfl rfl ?_ | (refine ac rfl (by first | rfl | (refine decide_eq_true ?_;(omega))) ?_) | refine ad rfl rfl ?_)
  refine jZ (vs:=[_,_,_]) rfl ⟨rfl,rfl,rfl,trivial⟩ rfl ⟨Gh.le.refl _,rfl,?_⟩
  rw [bG,hrd]
  exact ⟨_,_,_,rfl,fun h=>(by cases h),fun _=>hno⟩
theorem aah {n : Nat} {u : Value} {vs : List cy} {k s : adA} {e : UInt8} (hR : k5 n u vs) (h : SchR G u vs) (hk : aB (ah vs) (63 :: k) = true) (hs : s.length ≤ 1999999) (hn : n ≤ 999) :
  bB adz 50 [Ag [u],S (e :: s),S (63 :: k),I (n + 1 : Nat)] G (eQ (ah vs) (rd (ah vs) (n + 1) (63 :: k) (e :: s)) (63 :: k)):=by
 have edn : ((n + 1 : Nat) : Int) - 1 = (n : Nat):=oM
 have hrd : rd (ah vs) (n + 1) (63 :: k) (e :: s) = if e.toNat = 45 then some (.nd 63 [] 0 [],s) else if e.toNat = 43 then (rd (ah vs) n k s).map fun x=>(.nd 63 [] 0 [x.1],x.2) else none:=by
  rw [rd];unfold fI
  dsimp only
  rw [if_neg (show ¬ (63 : UInt8).toNat = 91 by decide),if_pos (show (63 : UInt8).toNat = 63 from rfl)]
 have he0 : bt (e :: s) (Int.toNat 0) = e.toNat:=bj e s
 have hel : (e :: s).length = s.length + 1:=rfl
 have hk0 : bt (63 :: k) (Int.toNat 0) = 63:=bj 63 k
 have hkl2 : (63 :: k).length = k.length + 1:=rfl
 rw [hrd]
 by_cases h45 : e.toNat = 45
 ·rw [if_pos h45]
  refine jB [(0,_),(1,_),(2,_),(3,_)] Tryz.func50 Tryz.ntmps50 fun B hok hB hW=>?_
  repeat' (first | refine jM ?_ | (refine jo ?_;first | refine jO fun _=>?_ | refine aC rfl ?_) | refine ar rfl rfl rfl ?_ | (refine ac rfl (by first | rfl | (refine decide_eq_true ?_;(omega))) ?_) | refine ad rfl rfl ?_ | (refine am (ao (id:=10) _ (fun _ h=>h) al ?_);refine jW 5 [0,3,4] (aa 8 25) ?_;(refine jG (aa 8 27) 1 rfl (ax rfl rfl) ?_);refine jA 2 rfl ?_;(refine jO fun _=>?_);refine jS (aa 8 31) ?_;refine jT 0 [5,6,7] (aa 8 255) ?_;refine jQ ?_))
  rename_i y
  refine Nx.sealC (b:=y) fun G2 hG2 hsy=>?_
  refine jZ (vs:=[_,_,_]) rfl ⟨rfl,rfl,rfl,trivial⟩ rfl ⟨hG2,rfl,?_⟩
  rw [bG]
  exact ⟨_,_,_,rfl,fun _=>⟨_,y,rfl,rfl,.non k y hsy⟩,fun h=>(by cases h)⟩
 rw [if_neg h45]
 by_cases h43 : e.toNat = 43
 ·rw [if_pos h43]
  have cx_rd:=hR G k s h (fG (.inr rfl) hk) oM
  rw [← edn] at cx_rd
  refine jB [(0,_),(1,_),(2,_),(3,_)] Tryz.func50 Tryz.ntmps50 fun B hok hB hW=>?_
  repeat' (first | refine jM ?_ | (refine jo ?_;first | refine jO fun _=>?_ | refine aC rfl ?_ | refine jV (ax rfl rfl) ?_ | refine jF fun _=>?_) | refine ar rfl rfl rfl ?_ | refine ac rfl rfl ?_ | (refine ad rfl (by first | rfl | (refine decide_eq_false ?_;(omega))) ?_) | (refine am (ao (id:=13) _ (fun _ h=>h) al ?_);refine jW 9 [1,2,3,4,5,6] (aa 15 126) ?_;(refine jG (aa 15 127) 0 rfl (bP rfl rfl rfl rfl) ?_);refine jA 7 rfl ?_;(refine an rfl rfl rfl cx_rd rfl ?_;rintro _ G hle ⟨q1,r1,ok1,rfl,hyes,hno⟩;skip);refine jS (aa 15 255) ?_;refine jT 0 [8,9,10,11,12,13,14] (aa 15 32767) ?_;refine jQ ?_))
  rename_i y1 y8
  refine Nx.sealC (b:=y1) fun G2 hG2 hs1=>?_
  refine Nx.sealC (b:=y8) fun G3 hG3 hsg=>?_
  refine jZ (vs:=[_,_,_]) rfl ⟨rfl,rfl,rfl,trivial⟩ rfl ⟨((hle.trans hG2).trans hG3),rfl,?_⟩
  rw [bG]
  refine ⟨_,_,_,rfl,fun hb=>?_,fun hb=>by rw [hno hb];rfl⟩
  obtain ⟨w,wb,rfl,hf,hrep⟩:=hyes hb
  exact ⟨.nd 63 [] 0 [w],y8,rfl,by rw [hf];rfl,.opt k y8 y1 wb 1 w (Nat.le_refl _) hsg (hs1.mono hG3) (hrep.mono (hG2.trans hG3))⟩
 ·rw [if_neg h43]
  refine jB [(0,_),(1,_),(2,_),(3,_)] Tryz.func50 Tryz.ntmps50 fun B hok hB hW=>?_
  repeat' (first | refine jM ?_ | (refine jo ?_;first | refine jO fun _=>?_ | refine aC rfl ?_) | refine ar rfl rfl rfl ?_ | (refine ac rfl (by first | rfl | (refine decide_eq_true ?_;(omega))) ?_) | (refine ad rfl (by first | rfl | (refine decide_eq_false ?_;(omega))) ?_))
  refine jZ (vs:=[_,_,_]) rfl ⟨rfl,rfl,rfl,trivial⟩ rfl ⟨Gh.le.refl _,rfl,?_⟩
  rw [bG]
  exact ⟨_,_,_,rfl,fun h=>(by cases h),fun _=>rfl⟩
theorem aaj {n : Nat} {u : Value} {vs : List cy} {k s : adA} {e : UInt8} {t : Ty} (hR : k5 n u vs) (h : SchR G u vs) (hw : SchW (ah vs)) (hk : aB (ah vs) k = true) (hrf : a8 (ah vs) k = some t) (hs : s.length ≤ 1999999) (hn : n ≤ 999) :
  bB adz 50 [Ag [u],S (e :: s),S k,I (n + 1 : Nat)] G (eQ (ah vs) (rd (ah vs) (n + 1) k (e :: s)) k):=by
 obtain ⟨r,rfl⟩:=dn hrf
 have hkk:=cV (dh hk)
 have hrd : rd (ah vs) (n + 1) (64 :: r) (e :: s) = bC (ah vs) (rd (ah vs) n) t (e :: s):=by
  rw [rd];unfold fI
  dsimp only
  rw [if_neg (show ¬ (64 : UInt8).toNat = 91 by decide),if_neg (show ¬ (64 : UInt8).toNat = 63 by decide),hrf]
 have hvl : vs.length ≤ 8:=by have:=hw.len;unfold ah at this;simpa using this
 have href:=ff vs (64 :: r)
 have cx_rf:=i8 (k:=64 :: r) h oM hkk.1 oM
 rcases hr : fc vs (64 :: r) with _ | x
 ·rw [hr,hrf] at href;cases href
 rw [hr] at href cx_rf
 have htx : x.2 = t:=by rw [hrf] at href;exact Option.some.inj href
 subst htx
 have hx:=gq hr
 have cx_na : bB adz 84 [Ag [u],S (e :: s),S (64 :: r),I (n + 1 : Nat)] G (eQ (ah vs) (bC (ah vs) (rd (ah vs) n) x.2 (e :: s)) (64 :: r)):=by
  have hso:=(hw.ty _ (List.mem_map_of_mem hx)).sort
  by_cases h1 : x.2.sort = 82 ∧ e.toNat = 123
  ·obtain rfl:=bX h1.2 dC
   exact abM hR h hw hx hrf cx_rf h1.1 hs oM oM
  by_cases h2 : x.2.sort = 69 ∧ e.toNat = 35
  ·obtain rfl:=bX h2.2 dC
   exact abN h hw hx hrf cx_rf h2.1 hs oM
  by_cases h3 : x.2.sort = 85 ∧ e.toNat = 60
  ·obtain rfl:=bX h3.2 dC
   exact abL hR h hw hx hrf cx_rf h3.1 hs oM
  refine abK h.sl.one cx_rf ?_ oM oM
  rcases hso with h4 | h4 | h4 <;> omega
 have hel : (e :: s).length = s.length + 1:=rfl
 have hk0 : bt (64 :: r) (Int.toNat 0) = 64:=bj 64 r
 have hkl2 : (64 :: r).length = r.length + 1:=rfl
 refine jB [(0,_),(1,_),(2,_),(3,_)] Tryz.func50 Tryz.ntmps50 fun B hok hB hW=>?_
 repeat' (first | refine jM ?_ | (refine jo ?_;first | refine jO fun _=>?_ | refine aC rfl ?_ | refine bM rfl ?_ | (refine an rfl rfl rfl cx_na rfl ?_;rintro _ G hle ⟨q1,r1,ok1,rfl,hyes,hno⟩;skip)) | refine ar rfl rfl rfl ?_ | refine ac rfl rfl ?_ | refine ad rfl rfl ?_)
 refine jZ (vs:=[_,_,_]) rfl ⟨rfl,rfl,rfl,trivial⟩ rfl ⟨hle,rfl,?_⟩
 rw [bG,hrd]
 exact ⟨_,_,_,rfl,hyes,hno⟩
theorem aag {n : Nat} {u : Value} {vs : List cy} {s : adA} {c e : UInt8} (hu : u.oneCell' = true) (hc : c = 110 ∨ c = 116 ∨ c = 102) (hr : a8 (ah vs) [c] = none) (hs : s.length ≤ 1999999) (hn : n ≤ 999) :
  bB adz 50 [Ag [u],S (e :: s),S [c],I (n + 1 : Nat)] G (eQ (ah vs) (rd (ah vs) (n + 1) [c] (e :: s)) [c]):=by
 have hrd:=l3 (ts:=ah vs) (n:=n) (s:=e :: s) hc hr
 have hel : (e :: s).length = s.length + 1:=rfl
 have cx_pl : bB adz 85 [Ag [u],S (e :: s),S [c]] G (eQ (ah vs) (rd (ah vs) (n + 1) [c] (e :: s)) [c]):=by
  rw [hrd]
  rcases hc with rfl | rfl | rfl
  ·rw [if_pos rfl];exact yn hu oM
  ·rw [if_neg dC,if_pos rfl];exact ym hu oM (by simp)
  ·rw [if_neg dC,if_neg dC];exact yp hu oM
 clear hrd
 rcases hc with rfl | rfl | rfl
 all_goals
  refine jB [(0,_),(1,_),(2,_),(3,_)] Tryz.func50 Tryz.ntmps50 fun B hok hB hW=>?_
  repeat' (first | refine jX ?_ | (refine jo ?_;first | refine jO fun _=>?_ | refine aC rfl ?_ | refine bM rfl ?_ | (refine an rfl rfl rfl cx_pl rfl ?_;rintro _ G hle ⟨q1,r1,ok1,rfl,hyes,hno⟩;skip)) | refine ar rfl rfl rfl ?_ | refine ad rfl rfl ?_)
  refine jZ (vs:=[_,_,_]) rfl ⟨rfl,rfl,rfl,trivial⟩ rfl ⟨hle,rfl,?_⟩
  rw [bG]
  exact ⟨_,_,_,rfl,hyes,hno⟩
theorem gr {u : Value} {vs : List cy} (hw : SchW (ah vs)) : ∀ n,n ≤ 1000 → k5 n u vs
 | 0,_=>fun G k s _ _ _=>u7 (.inr rfl) oM
 | n + 1,hn=>fun G k s h hk hs=>by
  have hR:=gr (u:=u) (vs:=vs) hw n oM
  match s,hs with
  | [],_=>exact u7 (.inl rfl) hn
  | e :: s,hs =>
   simp only [List.length_cons] at hs
   match k,hk with
   | [],hk=>cases hk
   | c :: k,hk =>
    by_cases h1 : c.toNat = 91
    ·obtain rfl:=bX h1 dC
     exact aai hR h hk oM oM
    by_cases h2 : c.toNat = 63
    ·obtain rfl:=bX h2 dC
     exact aah hR h hk oM oM
    have h91 : ¬ (c.toNat = 91 ∨ c.toNat = 63):=fun h=>by rcases h with h | h <;> omega
    cases hr : a8 (ah vs) (c :: k) with
    | some t=>exact aaj hR h hw hk hr oM oM
    | none =>
     rcases dX hk h91 hr with e1 | e1 | e1
     all_goals
      simp only [List.cons.injEq] at e1
      obtain ⟨rfl,rfl⟩:=e1
      exact aag h.sl.one (by simp) hr oM oM
theorem iS {s k w : adA} (h : s.length ≤ 1048576 ∧ k.length ≤ 1048576 ∧ w.length ≤ 1048576) (hno : cB s k w = none) : bB adz 36 [S s,S k,S w] G (fun v _=>∃ u q,v = Tu [u,.pointer q,Bo false]):=by
 by_cases hk : dq s k = true
 case neg =>
  have hk2 : dq s k = false:=by simpa using hk
  have cx_lk1 : ∀ G,bB adz 60 [S s,S k] G (fun v _=>∃ u,v = Tu [u,Bo false]):=fun G=>by
   refine (g9 (G:=G) (s:=s) (k:=k) oM oM).mono ?_
   rintro v G' L' ⟨h1,h2,u,vs,rfl,_⟩
   exact ⟨h1,h2,u,by rw [hk2]⟩
  refine jB [(0,_),(1,_),(2,_)] Tryz.func36 Tryz.ntmps36 fun B hok hB hW=>?_
  repeat' (first | refine jR ?_ | (refine jo ?_;first | refine aM rfl ?_ | (refine an rfl rfl rfl (cx_lk1 _) rfl ?_;rintro _ G hle ⟨u1,rfl⟩;skip)) | refine aF rfl rfl rfl ?_ | refine ac rfl rfl ?_)
  all_goals refine jZ (vs:=[_,_,_]) rfl ⟨rfl,rfl,rfl,trivial⟩ rfl ⟨hle,rfl,?_⟩
  all_goals exact ⟨_,_,rfl⟩
 obtain ⟨ts,hs,hki,hw⟩:=li hk
 have hvo : ce ts k w = none:=by unfold cB at hno;rw [hs] at hno;dsimp only at hno;rwa [if_pos hki] at hno
 have cx_lka : ∀ G,bB adz 60 [S s,S k] G (fun v G'=>∃ a c vs,v = Tu [.slice a vs.length c,Bo true] ∧ SchR G' (.slice a vs.length c) vs ∧ ah vs = ts):=fun G=>by
  refine (g9 (G:=G) (s:=s) (k:=k) oM oM).mono ?_
  rintro v G' L' ⟨h1,h2,u,vs,rfl,h4,_,h6⟩
  obtain ⟨_,⟨rfl,h0⟩ | ⟨b,o,cap,rfl,_,_⟩⟩:=h4.sl
  ·exact ⟨h1,h2,none,0,vs,by rw [hk,h0],by rw [h0];exact h4,h6 ts hs hki⟩
  ·exact ⟨h1,h2,_,cap,vs,by rw [hk],h4,h6 ts hs hki⟩
 by_cases hl : w.length ≤ 400
 case neg =>
  refine jB [(0,_),(1,_),(2,_)] Tryz.func36 Tryz.ntmps36 fun B hok hB hW=>?_
  repeat' (first | refine jR ?_ | (refine jo ?_;first | refine aC rfl ?_ | (refine an rfl rfl rfl (cx_lka _) rfl ?_;rintro _ G hle ⟨av1,cv1,vs1,rfl,hR1,hT1⟩;skip)) | refine ar rfl rfl rfl ?_ | refine ac rfl (ay oM) ?_)
  all_goals refine jZ (vs:=[_,_,_]) rfl ⟨rfl,rfl,rfl,trivial⟩ rfl ⟨hle,rfl,?_⟩
  all_goals exact ⟨_,_,rfl⟩
 refine jB [(0,_),(1,_),(2,_)] Tryz.func36 Tryz.ntmps36 fun B hok hB hW=>?_
 repeat' (first | refine jR ?_ | (refine jo ?_;first | refine aC rfl ?_ | refine jV (ax rfl rfl) ?_ | (refine an rfl rfl rfl (cx_lka _) rfl ?_;rintro _ G hle ⟨av1,cv1,vs1,rfl,hR1,hT1⟩;skip)) | refine ar rfl rfl rfl ?_ | refine ad rfl (aG oM) ?_)
 have hR:=gr (u:=.slice av1 vs1.length cv1) (vs:=vs1) (by rw [hT1];exact hw) 12 oM G k w hR1 (by rw [hT1];exact hki) oM
 obtain ⟨f,hf⟩ : ∃ f,f = rd (ah vs1) 12 k w:=⟨_,rfl⟩
 rw [← hf] at hR
 have cx_rd:=hR
 clear hR
 repeat' (first | refine jR ?_ | (refine jo ?_;first | refine aM rfl ?_ | refine aC rfl ?_ | (refine an rfl rfl rfl cx_rd rfl ?_;rintro _ G hle ⟨q1,r1,ok1,rfl,hyes,hno⟩;skip)) | refine nr rfl rfl (fun _=>?_) (fun _=>?_))
 all_goals rename_i hok
 ·have hr : decide (r1 = []) = false:=decide_eq_false fun h=>by
   obtain ⟨v,b,_,h2,_⟩:=hyes hok
   unfold ce at hvo
   rw [if_pos hl,← hT1,← hf,h2,h] at hvo
   cases hvo
  refine jZ (vs:=[_,_,_]) rfl ⟨rfl,rfl,rfl,trivial⟩ rfl ⟨(Gh.le.trans aS hle),rfl,?_⟩
  exact ⟨_,_,by rw [hr];rfl⟩
 ·refine jZ (vs:=[_,_,_]) rfl ⟨rfl,rfl,rfl,trivial⟩ rfl ⟨(Gh.le.trans aS hle),rfl,?_⟩
  exact ⟨_,_,rfl⟩
theorem aao {s k w : adA} {v : V} {ts : List Ty} (h : s.length ≤ 1048576 ∧ k.length ≤ 1048576 ∧ w.length ≤ 1048576) (hs : aV s = some ts) (hki : aB ts k = true) (hvo : ce ts k w = some v) :
  bB adz 36 [S s,S k,S w] G (fun r G'=>∃ u b,r = Tu [u,Pt b 0,Bo true] ∧ RepR G' ts v k b):=by
 have hw:=cY hs
 have hk : dq s k = true:=by unfold dq;rw [hs];exact hki
 have hl : w.length ≤ 400:=by
  by_cases hl : w.length ≤ 400
  ·exact hl
  ·unfold ce at hvo;rw [if_neg hl] at hvo;cases hvo
 have h12 : rd ts 12 k w = some (v,[]):=by
  unfold ce at hvo
  rw [if_pos hl] at hvo
  split at hvo
  ·rename_i v' hv;rw [hv];exact congrArg (fun x=>some (x,[])) (Option.some.inj hvo)
  ·cases hvo
 have cx_lka : ∀ G,bB adz 60 [S s,S k] G (fun v G'=>∃ a c vs,v = Tu [.slice a vs.length c,Bo true] ∧ SchR G' (.slice a vs.length c) vs ∧ ah vs = ts):=fun G=>by
  refine (g9 (G:=G) (s:=s) (k:=k) oM oM).mono ?_
  rintro v G' L' ⟨h1,h2,u,vs,rfl,h4,_,h6⟩
  obtain ⟨_,⟨rfl,h0⟩ | ⟨b,o,cap,rfl,_,_⟩⟩:=h4.sl
  ·exact ⟨h1,h2,none,0,vs,by rw [hk,h0],by rw [h0];exact h4,h6 ts hs hki⟩
  ·exact ⟨h1,h2,_,cap,vs,by rw [hk],h4,h6 ts hs hki⟩
 refine jB [(0,_),(1,_),(2,_)] Tryz.func36 Tryz.ntmps36 fun B hok hB hW=>?_
 repeat' (first | refine jR ?_ | (refine jo ?_;first | refine aC rfl ?_ | refine jV (ax rfl rfl) ?_ | (refine an rfl rfl rfl (cx_lka _) rfl ?_;rintro _ G hle ⟨av1,cv1,vs1,rfl,hR1,hT1⟩;skip)) | refine ar rfl rfl rfl ?_ | refine ad rfl (aG oM) ?_)
 subst hT1
 have cx_rd : bB adz 50 [Ag [.slice av1 vs1.length cv1],S w,S k,I (12 : Nat)] G (fun r G'=>∃ b,r = Tu [Pt b 0,S [],Bo true] ∧ RepR G' (ah vs1) v k b):=by
  refine (gr (u:=.slice av1 vs1.length cv1) (vs:=vs1) hw 12 oM G k w hR1 hki oM).mono ?_
  rintro r G' L' ⟨h1,h2,q,rest,ok,rfl,h3,h4⟩
  cases ok with
  | false=>rw [h12] at h4;cases h4 rfl
  | true =>
   obtain ⟨v',b,rfl,h5,h6⟩:=h3 rfl
   rw [h12] at h5
   simp only [Option.some.injEq,Prod.mk.injEq] at h5
   obtain ⟨rfl,rfl⟩:=h5
   exact ⟨h1,h2,b,rfl,h6⟩
 refine jo ?_
 refine an rfl rfl rfl cx_rd rfl ?_
 rintro _ G2 hle2 ⟨b,rfl,hrep⟩
 repeat' (first | refine jR ?_ | (refine jo ?_;refine aM rfl ?_) | refine aF rfl rfl rfl ?_)
 refine jZ (vs:=[_,_,_]) rfl ⟨rfl,rfl,rfl,trivial⟩ rfl ⟨(Gh.le.trans hle hle2),rfl,?_⟩
 exact ⟨_,b,rfl,hrep⟩
theorem kj {x : adA} : ∀ {xs : List adA} {ps : List Int},cI xs = some ps → cI (xs ++ [x]) = (aK x 999999).map fun n=>ps ++ [n]
 | [],ps,h=>by
  simp only [cI,Option.some.injEq] at h;subst h
  simp only [List.nil_append,cI]
  cases aK x 999999 <;> rfl
 | y :: ys,ps,h=>by
  unfold cI at h
  cases hn : aK y 999999 with
  | none=>rw [hn] at h;cases h
  | some n =>
   rw [hn] at h
   dsimp only at h
   cases hs : cI ys with
   | none=>rw [hs] at h;cases h
   | some q =>
    rw [hs] at h
    simp only [Option.map_some,Option.some.injEq] at h
    subst h
    rw [List.cons_append]
    unfold cI
    rw [hn]
    dsimp only
    rw [kj hs]
    cases aK x 999999 <;> rfl
theorem pu {x : adA} {ys : List adA} (h : aK x 999999 = none) : ∀ {xs : List adA},cI (xs ++ x :: ys) = none
 | []=>by simp only [List.nil_append,cI,h]
 | y :: xs=>by
  rw [List.cons_append]
  unfold cI
  cases aK y 999999 with
  | none=>rfl
  | some n=>dsimp only;rw [pu h];rfl
abbrev ab9 : TypeId:=3
def xr (s : adA) (v : Value) (G : Gh) : Prop:=∃ a c n,v = Tu [.slice a n c,Bo (cG s).isSome] ∧ ∀ p,cG s = some p → n = p.length ∧ aU G (.slice a n c) 1 p.length (ak cH p)
theorem ng {s : adA} (h : s ≠ []) : cG s = match cI (aZ 47 s) with
  | some p=>if p.length ≤ 8 then some p else none
  | none=>none:=by
 unfold cG;rw [if_neg h]
 all_goals (cases cI (aZ 47 s) <;> rfl)
theorem pN {s : adA} (h : s ≠ []) {i : Nat} (hi : i < (aZ 47 s).length) (hn : aK (ab (aZ 47 s) i) 999999 = none) : cG s = none:=by
 rw [ng h]
 have e : aZ 47 s = (aZ 47 s).take i ++ ab (aZ 47 s) i :: (aZ 47 s).drop (i + 1):=by
  rw [aA hi,List.getElem_cons_drop,List.take_append_drop]
 rw [e,pu hn]
theorem tD {s : adA} (h : s.length ≤ 1048576) : bB adz 38 [S s] G (xr s):=by
 by_cases h0 : s = []
 ·subst h0
  refine jB [(0,_)] Tryz.func38 Tryz.ntmps38 fun B hok hB hW=>?_
  repeat' (first | refine jR ?_ | (refine jo ?_;refine jF fun _=>?_) | refine ac rfl rfl ?_)
  rename_i x
  refine Nx.blkAcc (m:=0) (sz:=1) .here rfl ?_
  refine Nx.sealS (v:=.slice (some ⟨x,0,none⟩) 0 0) fun G2 hG2 hsl=>?_
  refine jZ (vs:=[_,_]) rfl ⟨rfl,rfl,trivial⟩ rfl ⟨hG2,rfl,?_⟩
  exact ⟨_,_,_,rfl,fun p hp=>by
   obtain rfl : p = []:=by unfold cG at hp;simpa using hp.symm
   exact ⟨rfl,hsl⟩⟩
 have cx_cutS : bB adz 65 [S s,U8 47] G (fun v G'=>aU G' v 1 (aZ 47 s).length (ak cn (aZ 47 s))):=mC (k:=47) oM
 have hcl:=ic (k:=47) (s:=s)
 have hbad:=fun {i : Nat}=>pN h0 (i:=i)
 have hpo:=ng h0
 have hxl : ∀ i,i < (aZ 47 s).length → (ab (aZ 47 s) i).length ≤ 100000000:=fun i hi=>by
  have:=df (bc hi)
  omega
 generalize aZ 47 s = xs at *
 refine jB [(0,_)] Tryz.func38 Tryz.ntmps38 fun B hok hB hW=>?_
 repeat' (first | refine jR ?_ | (refine jo ?_;first | refine jF fun _=>?_ | (refine an rfl rfl rfl cx_cutS rfl ?_;rintro _ G hle hcut;skip)) | refine ad rfl (aG ‹_›) ?_)
 rename_i x _
 obtain ⟨la,lc,rfl⟩:=hcut.sl
 refine Nx.blkAcc (m:=0) (sz:=1) .here rfl ?_
 refine aT (ι:=List Int × Option Addr × Nat × Nat) (fun j=>(j.1.length = j.2.2.2 ∧ j.2.2.2 ≤ xs.length) ∧ cI (xs.take j.2.2.2) = some j.1) (fun j=>[(4,.slice j.2.1 j.1.length j.2.2.1),(5,.slice la xs.length lc),(6,I j.2.2.2)]) (fun _=>G) (fun j=>[.acc (.slice j.2.1 j.1.length j.2.2.1) ab9 1 j.1.length (ak cH j.1)]) (fun j=>xs.length - j.2.2.2) ([],some ⟨x,0,none⟩,0,0) ?_ tU rfl a7 (fun j Hj=>?_)
 ·exact ⟨⟨rfl,Nat.zero_le _⟩,rfl⟩
 obtain ⟨ps,a,c,i⟩:=j
 dsimp only at Hj ⊢
 obtain ⟨⟨hpl,hi0⟩,hst⟩:=Hj
 by_cases hi : i < xs.length
 ·obtain ⟨bl,ol,cl,e,hsx⟩:=hcut.expl oM
  simp only [Value.slice.injEq] at e
  obtain ⟨rfl,-,rfl⟩:=e
  have hxl1:=hxl i hi
  cases hn : aK (ab xs i) 999999 with
  | none =>
   have hno:=hbad hi hn
   have hns : (!(aK (ab xs i) 999999).isSome) = true:=by rw [hn];rfl
   repeat' (first | refine jR ?_ | (refine jo ?_;first | refine jV (af rfl) ?_ | refine jV (ag rfl rfl oM) ?_ | (refine jV (eN rfl rfl aS ?_) ?_;focus omega) | (refine eF rfl rfl rfl (ii oM) rfl ?_;rintro _ ⟨n,rfl,hnum⟩)) | (refine ac rfl (by first | assumption | (refine decide_eq_true ?_;(omega))) ?_))
   all_goals refine jZ (vs:=[_,_]) rfl ⟨rfl,rfl,trivial⟩ rfl ⟨hle,rfl,?_⟩
   all_goals exact ⟨_,_,_,by rw [hno];rfl,fun p hp=>by rw [hno] at hp;cases hp⟩
  | some m =>
   have hns : (!(aK (ab xs i) 999999).isSome) = false:=by rw [hn];rfl
   repeat' (first | refine jM ?_ | (refine jo ?_;first | refine jF fun _=>?_ | refine jV (af rfl) ?_ | refine jV (ag rfl rfl oM) ?_ | (refine jV (eN rfl rfl aS ?_) ?_;focus omega) | refine bD rfl rfl rfl rfl rfl rfl rfl rfl rfl oM fun _ _=>?_ | (refine eF rfl rfl rfl (ii oM) rfl ?_;rintro _ ⟨n,rfl,hnum⟩)) | refine ac rfl (ay oM) ?_ | refine ad rfl ‹_› ?_)
   rename_i y1 yc
   have hmn:=hnum m hn
   subst hmn
   have hst2 : cI (xs.take (i + 1)) = some (ps ++ [n]):=by rw [co hi,kj hst,hn];rfl
   have hl1 : (ps ++ [n]).length = ps.length + 1:=by simp
   rw [show ak cH ps ++ [I n] = ak cH (ps ++ [n]) from (bR cH ps n).symm]
   exact bh (ps ++ [n],some ⟨y1,0,none⟩,yc,i + 1) ⟨⟨by dsimp only;omega,by dsimp only;omega⟩,hst2⟩ (by dsimp only;omega) (by rw [hl1];repeat (first | exact trivial | refine ⟨rfl,?_⟩)) rfl (by rw [hl1];repeat (first | exact List.nil_sublist _ | apply List.Sublist.cons_cons))
 ·rw [List.take_of_length_le oM] at hst
  rw [hst] at hpo
  dsimp only at hpo
  repeat' (first | refine jR ?_ | (refine jo ?_;refine jV (af rfl) ?_) | refine ad rfl (aG oM) ?_)
  refine Nx.sealS (v:=.slice a ps.length c) fun G2 hG2 hsl=>?_
  refine jZ (vs:=[_,_]) rfl ⟨rfl,rfl,trivial⟩ rfl ⟨hle.trans hG2,rfl,?_⟩
  have e8 : decide (((xs.length : Nat) : Int) ≤ 8) = (cG s).isSome:=by
   rw [hpo]
   by_cases h8 : ps.length ≤ 8
   ·rw [if_pos h8];exact decide_eq_true oM
   ·rw [if_neg h8];exact decide_eq_false oM
  refine ⟨_,_,_,by rw [e8];rfl,fun p hp=>?_⟩
  rw [hpo] at hp
  split at hp
  ·simp only [Option.some.injEq] at hp;subst hp;exact ⟨rfl,hsl⟩
  ·cases hp
theorem aaV {ts : List Ty} {c : UInt8} {r : adA} (h : c.toNat ≠ 64) : a8 ts (c :: r) = none:=by
 cases h2 : a8 ts (c :: r) with
 | none=>rfl
 | some t=>exact (dc h2 rfl h).elim
theorem yf {p : Nat → Prop} {n : Nat} (h : ∃ j,j < n ∧ p j) : ∃ j,j < n ∧ p j ∧ ∀ i,i < j → ¬ p i:=by
 obtain ⟨j,hj,hp⟩:=h
 induction j using Nat.strongRecOn with
 | _ j ih =>
  by_cases hc : ∃ i,i < j ∧ p i
  ·obtain ⟨i,hi,hpi⟩:=hc
   exact ih i hi oM hpi
  ·exact ⟨j,hj,hp,fun i hi hpi=>hc ⟨i,hi,hpi⟩⟩
theorem oK {f : Fld} : ∀ {fs : List (Fld × V)} {j : Nat},j < fs.length → (ab fs j).1.tag = f.tag → (∀ i,i < j → (ab fs i).1.tag ≠ f.tag) → cq f (fs.map aw) = some (ab fs j).2
 | [],j,hj,_,_=>by simp at hj
 | p :: fs,0,_,ht,_=>by
  rw [List.map_cons,cq,if_pos (show (aw p).tag = f.tag from ht)];rfl
 | p :: fs,j + 1,hj,ht,hno=>by
  rw [List.map_cons,cq,if_neg (show ¬ (aw p).tag = f.tag from hno 0 oM)]
  exact oK (fs:=fs) (j:=j) (by simpa using hj) ht fun i hi=>hno (i + 1) oM
theorem oJ {f : Fld} : ∀ {fs : List (Fld × V)},(∀ i,i < fs.length → (ab fs i).1.tag ≠ f.tag) → cq f (fs.map aw) = none
 | [],_=>rfl
 | p :: fs,h=>by
  rw [List.map_cons,cq,if_neg (show ¬ (aw p).tag = f.tag from h 0 (by simp))]
  exact oJ fun i hi=>h (i + 1) (by simpa using hi)
theorem iI {ts : List Ty} {k w : adA} {v : V} (h : ce ts k w = some v) : rd ts 12 k w = some (v,[]) ∧ w.length ≤ 400:=by
 unfold ce at h
 split at h
 ·rename_i hl
  split at h
  ·rename_i v' hv;rw [hv];exact ⟨congrArg (fun x=>some (x,[])) (Option.some.inj h),hl⟩
  ·cases h
 ·cases h
theorem acP {b j : Nat} {k : adA} {tg : List Int} {bs : List Nat} {a a2 : Option Addr} {c c2 : Nat} {n : Int} (hl : bs.length = tg.length) (h9 : tg.length ≤ 100000) (hs : b9 G b 0 [S k,S [82],.slice a tg.length c,.slice a2 tg.length c2]) (h1 : aU G (.slice a tg.length c) 1 tg.length (ak cH tg)) (h2 : aU G (.slice a2 tg.length c2) 1 tg.length (ak dw bs)) (hj : j < tg.length) (hjn : ab tg j = n) (hno : ∀ i,i < j → ab tg i ≠ n) :
  a9 adz 100 [Pt b 0,I n] G (· = Tu [Pt (ab bs j) 0,Bo true]):=by
 obtain ⟨xb,xo,xc,e,hs1⟩:=h1.expl oM
 simp only [Value.slice.injEq] at e
 obtain ⟨rfl,-,rfl⟩:=e
 obtain ⟨zb,zo,zc,e,hs2⟩:=h2.expl oM
 simp only [Value.slice.injEq] at e
 obtain ⟨rfl,-,rfl⟩:=e
 refine jE [(0,_),(1,_)] Tryz.func100 Tryz.ntmps100 fun B hB=>?_
 repeat' (refine jR ?_)
 refine aT (ι:=Nat) (fun i=>i ≤ j) (fun i=>[(0,Pt b 0),(1,I n),(6,I i)]) (fun _=>G) (fun i=>[]) (fun i=>j - i) 0 ?_ tU rfl a7 (fun i Hi=>?_)
 ·exact Nat.zero_le _
 have hxi : ab bs i = ab bs i:=rfl
 have hti : ab tg i = ab tg i:=rfl
 by_cases hij : i = j
 ·subst hij
  repeat' (first | refine jR ?_ | (refine jo ?_;first | refine jV (aj rfl rfl aS rfl rfl) ?_ | (refine jV (bW rfl rfl aS ?_ aS rfl) ?_;focus omega) | refine jV (af rfl) ?_ | refine aM rfl ?_ | refine jV (ag rfl rfl oM) ?_) | refine aF rfl rfl (ay oM) ?_ | (refine ac rfl (by first | rfl | (refine decide_eq_true ?_;(rfl))) ?_))
  all_goals refine jY (vs:=[_,_]) ?_
  all_goals rfl
 ·have h3:=hno i oM
  repeat' (first | refine jM ?_ | (refine jo ?_;first | refine jV (aj rfl rfl aS rfl rfl) ?_ | (refine jV (bW rfl rfl aS ?_ aS rfl) ?_;focus omega) | refine jV (af rfl) ?_ | refine aM rfl ?_ | refine jV (ag rfl rfl oM) ?_) | refine aF rfl rfl (ay oM) ?_ | refine ac rfl rfl ?_ | refine ad rfl (aG ‹_›) ?_)
  exact bh (i + 1) (show i + 1 ≤ j by have : i ≤ j:=Hi;omega) (by have : i ≤ j:=Hi;omega) tU rfl a7
theorem acQ {b : Nat} {k : adA} {tg : List Int} {a a2 : Option Addr} {c c2 : Nat} {n : Int} (h9 : tg.length ≤ 100000) (hs : b9 G b 0 [S k,S [82],.slice a tg.length c,.slice a2 tg.length c2]) (h1 : aU G (.slice a tg.length c) 1 tg.length (ak cH tg)) (hno : ∀ i,i < tg.length → ab tg i ≠ n) :
  a9 adz 100 [Pt b 0,I n] G (· = Tu [.pointer none,Bo false]):=by
 refine jE [(0,_),(1,_)] Tryz.func100 Tryz.ntmps100 fun B hB=>?_
 repeat' (refine jR ?_)
 refine aT (ι:=Nat) (fun i=>i ≤ tg.length) (fun i=>[(0,Pt b 0),(1,I n),(6,I i)]) (fun _=>G) (fun i=>[]) (fun i=>tg.length - i) 0 ?_ tU rfl a7 (fun i Hi=>?_)
 ·exact Nat.zero_le _
 by_cases hi : i < tg.length
 ·obtain ⟨xb,xo,xc,e,hs1⟩:=h1.expl oM
  simp only [Value.slice.injEq] at e
  obtain ⟨rfl,-,rfl⟩:=e
  have h3:=hno i hi
  have hti : ab tg i = ab tg i:=rfl
  repeat' (first | refine jM ?_ | (refine jo ?_;first | refine jV (aj rfl rfl aS rfl rfl) ?_ | (refine jV (bW rfl rfl aS ?_ aS rfl) ?_;focus omega) | refine jV (af rfl) ?_ | refine aM rfl ?_ | refine jV (ag rfl rfl oM) ?_) | refine aF rfl rfl (ay oM) ?_ | refine ac rfl rfl ?_ | refine ad rfl (aG ‹_›) ?_)
  exact bh (i + 1) oM oM tU rfl a7
 ·repeat' (first | refine jR ?_ | (refine jo ?_;first | refine jV (aj rfl rfl aS rfl rfl) ?_ | refine jV (af rfl) ?_ | refine aC rfl ?_) | refine ar rfl rfl (aG oM) ?_ | refine ad rfl rfl ?_)
  all_goals refine jY (vs:=[_,_]) ?_
  all_goals rfl
theorem p9 {u : Value} {x : cy} {k : adA} {n : Int} (hu : u.oneCell' = true) (hf : aU G (gn x) 4 x.2.fields.length (ak g0 x.2.fields)) (hl : x.2.fields.length ≤ 1000) (cx_rf : a9 adz 116 [u,S k] G (· = Tu [Ag [U8 x.2.sort,S x.2.name,gn x],Bo true])) (hso : x.2.sort = 82) :
  a9 adz 86 [u,S k,I n] G (· = Tu [Ag (g0 ((ck x.2.fields n).getD zF)),Bo (ck x.2.fields n).isSome]):=by
 have cx_fld:=tN (tag:=n) hf hl
 obtain ⟨⟨a,ca⟩,⟨so,nm,fs⟩⟩:=x
 dsimp only at hso cx_fld cx_rf ⊢
 subst hso
 dsimp only [gn] at cx_fld cx_rf ⊢
 cases hg : ck fs n with
 | none =>
  rw [hg] at cx_fld
  simp only [Option.getD_none,Option.isSome_none] at cx_fld ⊢
  refine jE [(0,_),(1,_),(2,_)] Tryz.func86 Tryz.ntmps86 fun B hB=>?_
  repeat' (first | refine jR ?_ | (refine jo ?_;first | refine jL fun _=>?_ | refine jC rfl rfl rfl ?_ | refine bM rfl ?_ | refine ae rfl rfl rfl cx_rf rfl ?_ | refine ae rfl rfl rfl cx_fld rfl ?_) | (refine am (d4 (id:=3) (tt:=6) rfl al ?_);refine jW 10 [1,2] (aa 12 6) ?_;(try (refine Nx.re (d:=26) (v':=Bo true) rfl (congrArg Value.bool rfl) ?_));refine jW 9 [3] (aa 12 14) ?_;(refine jG (aa 12 15) 0 rfl (bP rfl rfl rfl rfl) ?_);((refine jG (aa 12 31) 4 rfl (bO rfl rfl ?_) ?_;(focus ((rfl);done))));refine jW 6 [5] (aa 12 63) ?_;(try (refine Nx.re (d:=29) (v':=Bo false) rfl (congrArg Value.bool rfl) ?_));refine jW 5 [6] (aa 12 127) ?_;(refine jN (aa 12 255) 7 rfl ?_);refine jW 3 [8] (aa 12 511) ?_;((refine jG (aa 12 1023) 9 rfl (bm rfl rfl ?_) ?_;(focus ((rfl);done))));refine jA 10 rfl ?_;(refine jC rfl rfl rfl ?_);refine jK (aa 12 2047) ?_;refine jW 0 [11] (aa 12 4095) ?_;refine jQ ?_))
  all_goals refine jZ (vs:=[_,_]) rfl ⟨aJ rfl rfl rfl rfl,rfl,trivial⟩ rfl ⟨rfl,rfl,?_⟩
  all_goals rfl
 | some f =>
  rw [hg] at cx_fld
  simp only [Option.getD_some,Option.isSome_some] at cx_fld ⊢
  refine jE [(0,_),(1,_),(2,_)] Tryz.func86 Tryz.ntmps86 fun B hB=>?_
  repeat' (first | refine jR ?_ | (refine jo ?_;first | refine jL fun _=>?_ | refine jC rfl rfl rfl ?_ | refine bM rfl ?_ | refine ae rfl rfl rfl cx_rf rfl ?_ | refine ae rfl rfl rfl cx_fld rfl ?_) | (refine am (d4 (id:=3) (tt:=6) rfl al ?_);refine jW 10 [1,2] (aa 12 6) ?_;(try (refine Nx.re (d:=26) (v':=Bo true) rfl (congrArg Value.bool rfl) ?_));refine jW 9 [3] (aa 12 14) ?_;(refine jG (aa 12 15) 0 rfl (bP rfl rfl rfl rfl) ?_);((refine jG (aa 12 31) 4 rfl (bO rfl rfl ?_) ?_;(focus ((rfl);done))));refine jW 6 [5] (aa 12 63) ?_;(try (refine Nx.re (d:=29) (v':=Bo true) rfl (congrArg Value.bool rfl) ?_));refine jW 5 [6] (aa 12 127) ?_;(refine jG (aa 12 255) 7 rfl (aX rfl rfl rfl) ?_);refine jW 3 [8] (aa 12 511) ?_;((refine jG (aa 12 1023) 9 rfl (bO rfl rfl ?_) ?_;(focus ((rfl);done))));refine jA 10 rfl ?_;(refine jC rfl rfl rfl ?_);refine jK (aa 12 2047) ?_;refine jW 0 [11] (aa 12 4095) ?_;refine jQ ?_))
  all_goals refine jZ (vs:=[_,_]) rfl ⟨aJ rfl rfl rfl rfl,rfl,trivial⟩ rfl ⟨rfl,rfl,?_⟩
  all_goals rfl
def fZ (ts : List Ty) (o : Option (adA × V)) (r : Value) (G' : Gh) : Prop:=(o = none ∧ ∃ q,r = Tu [.pointer q,Bo false]) ∨ ∃ k' v' b',o = some (k',v') ∧ r = Tu [Pt b' 0,Bo true] ∧ RepR G' ts v' k' b'
theorem fZ.no {f : FuncId} {args : List Value} {ts : List Ty} {o : Option (adA × V)} (h : bB adz f args G (fZ ts o)) (e : o = none) : bB adz f args G (fun r _=>∃ q,r = Tu [.pointer q,Bo false]):=by
 refine h.mono ?_
 rintro v G' L' ⟨h1,h2,⟨_,h3⟩ | ⟨k',v',b',h3,_⟩⟩
 ·exact ⟨h1,h2,h3⟩
 ·rw [e] at h3;cases h3
theorem fZ.yes {f : FuncId} {args : List Value} {ts : List Ty} {o : Option (adA × V)} {k' : adA} {v' : V} (h : bB adz f args G (fZ ts o)) (e : o = some (k',v')) : bB adz f args G (fun r G'=>∃ b',r = Tu [Pt b' 0,Bo true] ∧ RepR G' ts v' k' b'):=by
 refine h.mono ?_
 rintro v G' L' ⟨h1,h2,⟨h3,_⟩ | ⟨k2,v2,b',h3,h4,h5⟩⟩
 ·rw [e] at h3;cases h3
 ·rw [e] at h3
  simp only [Option.some.injEq,Prod.mk.injEq] at h3
  obtain ⟨rfl,rfl⟩:=h3
  exact ⟨h1,h2,b',h4,h5⟩
theorem iX {ts : List Ty} {c : UInt8} {r : adA} {v : V} {n : Int} (h1 : c.toNat ≠ 91) (h2 : c.toNat ≠ 63) (h3 : c.toNat ≠ 64) : aE ts (c :: r) v n = none:=by
 unfold aE;dsimp only;rw [if_neg (fun h=>by rcases h with h | h;exact h1 h;exact h2 h),aaV h3]
theorem gm {ts : List Ty} {c : UInt8} {r : adA} {v : V} {n : Int} (h : c.toNat = 91 ∨ c.toNat = 63) : aE ts (c :: r) v n = if n < (v.kids.length : Nat) then some (r,ab v.kids n.toNat) else none:=by
 unfold aE;dsimp only;rw [if_pos h]
theorem hX {ts : List Ty} {k : adA} {v : V} {n : Int} {t : Ty} (h : a8 ts k = some t) : aE ts k v n = match ck t.fields n with
  | none=>none
  | some f=>if t.sort = 69 then none else if t.sort = 82 then some (f.kind,dP ts v f) else if v.tag = n then some (f.kind,ab v.kids 0) else none:=by
 obtain ⟨r,rfl⟩:=dn h
 unfold aE;dsimp only;rw [if_neg dC,h]
 all_goals rfl
theorem nX {u : Value} {vs : List cy} (h : SchR G u vs) (hw : SchW (ah vs)) {k : adA} {v : V} {b : Nat} (hr : RepR G (ah vs) v k b) (ho : OfK (ah vs) k v) (hki : aB (ah vs) k = true) {n : Int} (hn : 0 ≤ n ∧ n ≤ 999999) (htt : v.tot ≤ 1000000) :
  bB adz 63 [u,Pt b 0,I n] G (fZ (ah vs) (aE (ah vs) k v n)):=by
 have hu:=h.sl.one
 obtain ⟨ua,uc,rfl⟩:=h.sl.sl
 cases hr with
 | leaf w x k tx b h1 h2 =>
  have hn82 : ¬ tx = [82]:=by
   rcases h2 with ⟨_,_,rfl,h⟩ | ⟨_,_,rfl⟩ | ⟨_,_,rfl,h⟩
   ·rintro rfl;exact absurd (h 82 (by simp)) dC
   ·simp
   ·rcases h with rfl | rfl <;> decide
  have hn85 : ¬ tx = [85]:=by
   rcases h2 with ⟨_,_,rfl,h⟩ | ⟨_,_,rfl⟩ | ⟨_,_,rfl,h⟩
   ·rintro rfl;exact absurd (h 85 (by simp)) dC
   ·simp
   ·rcases h with rfl | rfl <;> decide
  have hno : aE (ah vs) k (.nd w x 0 []) n = none:=by
   rcases h2 with ⟨_,rfl,_⟩ | ⟨_,rfl,_⟩ | ⟨_,rfl,_⟩
   all_goals exact iX dC dC dC
  rw [hno]
  rcases h2 with ⟨rfl,rfl,_⟩ | ⟨rfl,rfl,_⟩ | ⟨rfl,rfl,_⟩
  all_goals
   refine jB [(0,_),(1,_),(2,_)] Tryz.func63 Tryz.ntmps63 fun B hok hB hW=>?_
   repeat' (first | refine jX ?_ | (refine jo ?_;first | refine jV (aj rfl rfl aS rfl rfl) ?_ | refine aC rfl ?_) | (refine ar rfl rfl (by first | rfl | (refine decide_eq_false ?_;(assumption))) ?_) | refine ad rfl rfl ?_)
   all_goals refine jZ (vs:=[_,_]) rfl ⟨rfl,rfl,trivial⟩ rfl ⟨Gh.le.refl _,rfl,?_⟩
   all_goals exact .inl ⟨rfl,_,rfl⟩
 | lst k b ks bs a c h1 h2 h3 hk =>
  have hk0 : bt (91 :: k) (Int.toNat 0) = 91:=bj 91 k
  have hkl2 : (91 :: k).length = k.length + 1:=rfl
  have hst:=gm (ts:=ah vs) (c:=91) (r:=k) (v:=.nd 91 [] 0 ks) (n:=n) (.inl rfl)
  rw [V.kids] at hst
  rw [hst]
  by_cases hn2 : n < ((ks.length : Nat) : Int)
  ·obtain ⟨i,rfl⟩ : ∃ i : Nat,n = i:=⟨n.toNat,oM⟩
   obtain ⟨kb,ko,kc,e,hs⟩:=h2.expl oM
   simp only [Value.slice.injEq] at e
   obtain ⟨rfl,-,rfl⟩:=e
   have hxi : ab bs i = ab bs i:=rfl
   rw [if_pos hn2]
   refine jB [(0,_),(1,_),(2,_)] Tryz.func63 Tryz.ntmps63 fun B hok hB hW=>?_
   repeat' (first | refine jM ?_ | (refine jo ?_;first | refine jV (aj rfl rfl aS rfl rfl) ?_ | (refine jV (bW rfl rfl aS ?_ aS rfl) ?_;focus omega) | refine aM rfl ?_ | refine jV (af rfl) ?_ | refine jV (ag rfl rfl oM) ?_) | refine aF rfl rfl rfl ?_ | refine ac rfl rfl ?_ | refine ad rfl (aG oM) ?_)
   all_goals refine jZ (vs:=[_,_]) rfl ⟨rfl,rfl,trivial⟩ rfl ⟨Gh.le.refl _,rfl,?_⟩
   all_goals exact .inr ⟨_,_,ab bs i,rfl,rfl,hk i oM⟩
  ·rw [if_neg hn2]
   refine jB [(0,_),(1,_),(2,_)] Tryz.func63 Tryz.ntmps63 fun B hok hB hW=>?_
   repeat' (first | refine jM ?_ | (refine jo ?_;first | refine jV (aj rfl rfl aS rfl rfl) ?_ | refine aM rfl ?_ | refine jV (af rfl) ?_) | refine aF rfl rfl rfl ?_ | (refine ac rfl (by first | rfl | (refine decide_eq_true ?_;(omega))) ?_))
   all_goals refine jZ (vs:=[_,_]) rfl ⟨rfl,rfl,trivial⟩ rfl ⟨Gh.le.refl _,rfl,?_⟩
   all_goals exact .inl ⟨rfl,_,rfl⟩
 | non k b h1 =>
  have hk0 : bt (63 :: k) (Int.toNat 0) = 63:=bj 63 k
  have hkl2 : (63 :: k).length = k.length + 1:=rfl
  have hst:=gm (ts:=ah vs) (c:=63) (r:=k) (v:=.nd 63 [] 0 []) (n:=n) (.inr rfl)
  rw [V.kids,if_neg (by simp;omega)] at hst
  rw [hst]
  refine jB [(0,_),(1,_),(2,_)] Tryz.func63 Tryz.ntmps63 fun B hok hB hW=>?_
  repeat' (first | refine jM ?_ | (refine jo ?_;first | refine jV (aj rfl rfl aS rfl rfl) ?_ | refine aC rfl ?_ | refine jV (af rfl) ?_) | refine ar rfl rfl rfl ?_ | (refine ac rfl (by first | rfl | (refine decide_eq_true ?_;(omega))) ?_))
  all_goals refine jZ (vs:=[_,_]) rfl ⟨rfl,rfl,trivial⟩ rfl ⟨Gh.le.refl _,rfl,?_⟩
  all_goals exact .inl ⟨rfl,_,rfl⟩
 | opt k b kb b' cc w h0 h1 h2 h3 =>
  have hk0 : bt (63 :: k) (Int.toNat 0) = 63:=bj 63 k
  have hkl2 : (63 :: k).length = k.length + 1:=rfl
  have hst:=gm (ts:=ah vs) (c:=63) (r:=k) (v:=.nd 63 [] 0 [w]) (n:=n) (.inr rfl)
  rw [V.kids] at hst
  rw [hst]
  by_cases hn2 : n = 0
  ·subst hn2
   rw [if_pos (by simp)]
   refine jB [(0,_),(1,_),(2,_)] Tryz.func63 Tryz.ntmps63 fun B hok hB hW=>?_
   repeat' (first | refine jM ?_ | (refine jo ?_;first | refine jV (aj rfl rfl aS rfl rfl) ?_ | refine aC rfl ?_ | refine jV (af rfl) ?_ | refine jV (aN rfl rfl oM) ?_) | refine ar rfl rfl rfl ?_ | refine ac rfl rfl ?_ | refine ad rfl rfl ?_)
   all_goals refine jZ (vs:=[_,_]) rfl ⟨rfl,rfl,trivial⟩ rfl ⟨Gh.le.refl _,rfl,?_⟩
   all_goals exact .inr ⟨_,_,b',rfl,rfl,h3⟩
  ·rw [if_neg (by simp;omega)]
   refine jB [(0,_),(1,_),(2,_)] Tryz.func63 Tryz.ntmps63 fun B hok hB hW=>?_
   repeat' (first | refine jM ?_ | (refine jo ?_;first | refine jV (aj rfl rfl aS rfl rfl) ?_ | refine aC rfl ?_ | refine jV (af rfl) ?_) | refine ar rfl rfl rfl ?_ | (refine ac rfl (by first | rfl | (refine decide_eq_true ?_;(omega))) ?_))
   all_goals refine jZ (vs:=[_,_]) rfl ⟨rfl,rfl,trivial⟩ rfl ⟨Gh.le.refl _,rfl,?_⟩
   all_goals exact .inl ⟨rfl,_,rfl⟩
 | enm k b tgb t d h0 h1 h2 h3 =>
  have hst:=hX (v:=.nd 69 [] d.tag []) (n:=n) h0.1
  have hno : aE (ah vs) k (.nd 69 [] d.tag []) n = none:=by
   rw [hst]
   cases ck t.fields n with
   | none=>rfl
   | some f=>dsimp only;rw [if_pos h0.2]
  rw [hno]
  obtain ⟨r,rfl⟩:=dn h0.1
  have hk0 : bt (64 :: r) (Int.toNat 0) = 64:=bj 64 r
  have hkl2 : (64 :: r).length = r.length + 1:=rfl
  refine jB [(0,_),(1,_),(2,_)] Tryz.func63 Tryz.ntmps63 fun B hok hB hW=>?_
  repeat' (first | refine jM ?_ | (refine jo ?_;first | refine jV (aj rfl rfl aS rfl rfl) ?_ | refine aC rfl ?_) | refine ar rfl rfl rfl ?_ | refine ad rfl rfl ?_)
  all_goals refine jZ (vs:=[_,_]) rfl ⟨rfl,rfl,trivial⟩ rfl ⟨Gh.le.refl _,rfl,?_⟩
  all_goals exact .inl ⟨rfl,_,rfl⟩
 | uni k b tgb kb b' cc t d w hcc h0 h1 h2 h3 h4 hk =>
  have hst:=hX (v:=.nd 85 [] d.tag [w]) (n:=n) h0.1
  have hTW:=hw.ty _ (br h0.1)
  have hso:=h0.2
  obtain ⟨r,rfl⟩:=dn h0.1
  have hk0 : bt (64 :: r) (Int.toNat 0) = 64:=bj 64 r
  have hkl2 : (64 :: r).length = r.length + 1:=rfl
  by_cases hdn : d.tag = n
  ·have hyes : aE (ah vs) (64 :: r) (.nd 85 [] d.tag [w]) n = some (d.kind,w):=by
    rw [hst,← hdn,gx hTW h1]
    dsimp only
    rw [if_neg oM,if_neg oM,if_pos (show V.tag (.nd 85 [] d.tag [w]) = d.tag from rfl)];rfl
   rw [hyes]
   refine jB [(0,_),(1,_),(2,_)] Tryz.func63 Tryz.ntmps63 fun B hok hB hW=>?_
   repeat' (first | refine jM ?_ | (refine jo ?_;first | refine jV (aj rfl rfl aS rfl rfl) ?_ | refine aM rfl ?_ | refine aC rfl ?_) | refine aF rfl rfl rfl ?_ | refine ar rfl rfl rfl ?_ | refine ac rfl rfl ?_ | refine ad rfl rfl ?_)
   (refine am (ao (id:=6) _ (fun _ h=>h) al ?_);refine jT 9 [0,1,2,6,7,8,12] (aa 16 4551) ?_;(refine jG (aa 16 4559) 3 rfl (aj rfl rfl aS rfl rfl) ?_);(refine jG (aa 16 4575) 4 rfl (aN rfl rfl oM) ?_);(refine jG (aa 16 4607) 5 rfl (aj rfl rfl aS rfl rfl) ?_);refine jT 5 [14] (aa 16 20991) ?_;(refine jG (aa 16 21503) 9 rfl (aj rfl rfl aS rfl rfl) ?_);(refine jG (aa 16 22527) 10 rfl (aN rfl rfl oM) ?_);(refine jG (aa 16 24575) 11 rfl (aj rfl rfl aS rfl rfl) ?_);refine jT 0 [13,15] (aa 16 65535) ?_;refine jQ ?_)
   all_goals repeat' (refine jR ?_)
   all_goals refine jZ (vs:=[_,_]) rfl ⟨rfl,rfl,trivial⟩ rfl ⟨Gh.le.refl _,rfl,?_⟩
   all_goals (try rw [decide_eq_true hdn])
   all_goals exact .inr ⟨_,_,b',rfl,rfl,hk⟩
  ·have hno : aE (ah vs) (64 :: r) (.nd 85 [] d.tag [w]) n = none:=by
    rw [hst]
    cases ck t.fields n with
    | none=>rfl
    | some f =>
     dsimp only
     rw [if_neg oM,if_neg oM,if_neg (show ¬ V.tag (.nd 85 [] d.tag [w]) = n from hdn)]
   rw [hno]
   refine jB [(0,_),(1,_),(2,_)] Tryz.func63 Tryz.ntmps63 fun B hok hB hW=>?_
   repeat' (first | refine jM ?_ | (refine jo ?_;first | refine jV (aj rfl rfl aS rfl rfl) ?_ | refine aM rfl ?_ | refine aC rfl ?_) | refine aF rfl rfl rfl ?_ | refine ar rfl rfl rfl ?_ | refine ac rfl rfl ?_ | refine ad rfl rfl ?_)
   (refine am (ao (id:=6) _ (fun _ h=>h) al ?_);refine jT 9 [0,1,2,6,7,8,12] (aa 16 4551) ?_;(refine jG (aa 16 4559) 3 rfl (aj rfl rfl aS rfl rfl) ?_);(refine jG (aa 16 4575) 4 rfl (aN rfl rfl oM) ?_);(refine jG (aa 16 4607) 5 rfl (aj rfl rfl aS rfl rfl) ?_);refine jT 5 [14] (aa 16 20991) ?_;(refine jG (aa 16 21503) 9 rfl (aj rfl rfl aS rfl rfl) ?_);(refine jG (aa 16 22527) 10 rfl (aN rfl rfl oM) ?_);(refine jG (aa 16 24575) 11 rfl (aj rfl rfl aS rfl rfl) ?_);refine jT 0 [13,15] (aa 16 65535) ?_;refine jQ ?_)
   all_goals repeat' (refine jR ?_)
   all_goals refine jZ (vs:=[_,_]) rfl ⟨rfl,rfl,trivial⟩ rfl ⟨Gh.le.refl _,rfl,?_⟩
   all_goals (try rw [decide_eq_false hdn])
   all_goals exact .inl ⟨rfl,_,rfl⟩
 | recd k b t fs bs a a2 c c2 h0 h1 h2 h3 h4 h5 hk =>
  have hst:=hX (v:=.nd 82 [] 0 (fs.map aw)) (n:=n) h0.1
  have hTW:=hw.ty _ (br h0.1)
  have hso:=h0.2
  have hkk:=cV (dh hki)
  obtain ⟨r,rfl⟩:=dn h0.1
  have hk0 : bt (64 :: r) (Int.toNat 0) = 64:=bj 64 r
  have hkl2 : (64 :: r).length = r.length + 1:=rfl
  have hvl : vs.length ≤ 8:=by have:=hw.len;unfold ah at this;simpa using this
  have href:=ff vs (64 :: r)
  have cx_rf:=i8 (k:=64 :: r) h oM hkk.1 oM
  rcases hrv : fc vs (64 :: r) with _ | x
  ·rw [hrv,h0.1] at href;cases href
  rw [hrv] at href cx_rf
  have htx : x.2 = t:=by rw [h0.1] at href;exact Option.some.inj href
  subst htx
  have hxm:=gq hrv
  have hfl:=hTW.len
  have cx_rec:=p9 (n:=n) hu (h.fl x hxm) oM cx_rf hso
  cases hg : ck x.2.fields n with
  | none =>
   rw [hg] at hst cx_rec
   have hno : aE (ah vs) (64 :: r) (.nd 82 [] 0 (fs.map aw)) n = none:=hst
   rw [show (fs.map fun p=>V.nd 61 [] p.1.tag [p.2]) = fs.map aw from rfl,hno]
   refine jB [(0,_),(1,_),(2,_)] Tryz.func63 Tryz.ntmps63 fun B hok hB hW=>?_
   repeat' (first | refine jM ?_ | (refine jo ?_;first | refine jV (aj rfl rfl aS rfl rfl) ?_ | refine aM rfl ?_ | refine aC rfl ?_ | refine jL fun _=>?_ | refine jC rfl rfl rfl ?_ | refine ae rfl rfl rfl cx_rec rfl ?_) | refine aF rfl rfl rfl ?_ | refine ar rfl rfl rfl ?_ | refine ac rfl rfl ?_ | refine ad rfl rfl ?_)
   all_goals refine jZ (vs:=[_,_]) rfl ⟨rfl,rfl,trivial⟩ rfl ⟨Gh.le.refl _,rfl,?_⟩
   all_goals exact .inl ⟨rfl,_,rfl⟩
  | some f =>
   rw [hg] at hst cx_rec
   simp only [Option.getD_some,Option.isSome_some] at cx_rec
   have hfm:=List.mem_of_find?_eq_some hg
   have hft : f.tag = n:=by have:=List.find?_some hg;simpa using this
   have hyes : aE (ah vs) (64 :: r) (.nd 82 [] 0 (fs.map aw)) n = some (f.kind,dP (ah vs) (.nd 82 [] 0 (fs.map aw)) f):=by
    rw [hst];dsimp only;rw [if_neg oM,if_pos hso]
   rw [show (fs.map fun p=>V.nd 61 [] p.1.tag [p.2]) = fs.map aw from rfl,hyes]
   have hfs9 : fs.length ≤ 100000:=by
    have h7:=di (fs.map aw)
    rw [bA] at htt
    have e1 : (fs.map aw).length = fs.length:=by simp
    have e2 : (fs.map fun p=>V.nd 61 [] p.1.tag [p.2]) = fs.map aw:=rfl
    rw [e2] at htt
    omega
   have htn : ∀ i,i < fs.length → ab (fs.map fun p : Fld × V=>p.1.tag) i = (ab fs i).1.tag:=fun i hi=>by rw [aA (by simpa using hi),aA hi];simp
   have htl : (fs.map fun p : Fld × V=>p.1.tag).length = fs.length:=by simp
   by_cases hex : ∃ j,j < fs.length ∧ (ab fs j).1.tag = n
   ·obtain ⟨j,hj,hjn,hjf⟩:=yf hex
    have hget : dP (ah vs) (.nd 82 [] 0 (fs.map aw)) f = (ab fs j).2:=by
     unfold dP
     rw [V.kids,oK hj (by rw [hjn,hft]) (fun i hi=>by rw [hft];exact hjf i hi)];rfl
    have hkd : (ab fs j).1 = f:=gh hTW (h5 j hj) hfm (by rw [hjn,hft])
    rw [hget]
    have cx_at:=acP (tg:=fs.map fun p : Fld × V=>p.1.tag) (n:=n) (by rw [h4,htl]) oM (by rw [htl];exact h1) (by rw [htl];exact h2) (by rw [htl];exact h3) (by rw [htl];exact hj) (by rw [htn j hj];exact hjn) (fun i hi=>by rw [htn i oM];exact hjf i hi)
    have hrj:=hk j hj
    rw [hkd] at hrj
    refine jB [(0,_),(1,_),(2,_)] Tryz.func63 Tryz.ntmps63 fun B hok hB hW=>?_
    repeat' (first | refine jM ?_ | (refine jo ?_;first | refine jV (aj rfl rfl aS rfl rfl) ?_ | refine aM rfl ?_ | refine aC rfl ?_ | refine jL fun _=>?_ | refine jC rfl rfl rfl ?_ | refine ae rfl rfl rfl cx_rec rfl ?_ | refine ae rfl rfl rfl cx_at rfl ?_) | refine aF rfl rfl rfl ?_ | refine ar rfl rfl rfl ?_ | refine ac rfl rfl ?_ | refine ad rfl rfl ?_)
    all_goals refine jZ (vs:=[_,_]) rfl ⟨rfl,rfl,trivial⟩ rfl ⟨Gh.le.refl _,rfl,?_⟩
    all_goals exact .inr ⟨_,_,ab bs j,rfl,rfl,hrj⟩
   ·have hjno : ∀ i,i < fs.length → (ab fs i).1.tag ≠ n:=fun i hi e=>hex ⟨i,hi,e⟩
    have hget : dP (ah vs) (.nd 82 [] 0 (fs.map aw)) f = dZ (ah vs) f:=by
     unfold dP
     rw [V.kids,oJ fun i hi=>by rw [hft];exact hjno i hi];rfl
    rw [hget]
    obtain ⟨g1,g2,g3⟩:=fh hw (br h0.1) oM hfm
    obtain ⟨g4,g5⟩:=iI g2
    have hdk : aB (ah vs) f.kind = true:=dT hw (br h0.1) oM hfm
    have cx_at:=acQ (tg:=fs.map fun p : Fld × V=>p.1.tag) (n:=n) oM (by rw [htl];exact h1) (by rw [htl];exact h2) (fun i hi=>by rw [htn i oM];exact hjno i oM)
    have cx_sta:=my (f:=f) h hw hdk
    have cx_rd:=gr (u:=.slice ua vs.length uc) (vs:=vs) hw 12 oM G f.kind (bT (ah vs) f) h hdk oM
    rw [g4] at cx_rd
    refine jB [(0,_),(1,_),(2,_)] Tryz.func63 Tryz.ntmps63 fun B hok hB hW=>?_
    repeat' (first | refine jM ?_ | (refine jo ?_;first | refine jV (aj rfl rfl aS rfl rfl) ?_ | refine aM rfl ?_ | refine aC rfl ?_ | refine jL fun _=>?_ | refine jC rfl rfl rfl ?_ | refine ae rfl rfl rfl cx_rec rfl ?_ | refine ae rfl rfl rfl cx_at rfl ?_) | refine aF rfl rfl rfl ?_ | refine ar rfl rfl rfl ?_ | refine ac rfl rfl ?_ | refine ad rfl rfl ?_)
    (refine am (ao (id:=14) _ (fun _ h=>h) al ?_);refine jT 12 [0,2,5] (aa 15 37) ?_;(refine jG (aa 15 39) 1 rfl (ax rfl rfl) ?_);(refine jG (aa 15 47) 3 rfl (bP rfl rfl rfl rfl) ?_);(refine jG (aa 15 111) 6 rfl (aX rfl rfl rfl) ?_);refine jA 4 rfl ?_;(refine ae rfl rfl rfl cx_sta rfl ?_);refine jS (aa 15 127) ?_;refine jA 7 rfl ?_;(refine an rfl rfl rfl cx_rd rfl ?_;rintro _ G hle ⟨q1,r1,ok1,rfl,hyes,hno⟩;skip);refine jS (aa 15 255) ?_;refine jT 0 [8,9,10,11,12,13,14] (aa 15 32767) ?_;refine jQ ?_)
    all_goals
     cases ok1 with
     | false=>cases hno rfl
     | true =>
      obtain ⟨w,wb,rfl,hf,hrep⟩:=hyes rfl
      simp only [Option.some.injEq,Prod.mk.injEq] at hf
      obtain ⟨rfl,rfl⟩:=hf
      repeat' (first | refine jR ?_ | (refine jo ?_;refine aM rfl ?_) | refine aF rfl rfl rfl ?_)
      all_goals refine jZ (vs:=[_,_]) rfl ⟨rfl,rfl,trivial⟩ rfl ⟨hle,rfl,?_⟩
      all_goals exact .inr ⟨_,_,wb,rfl,rfl,hrep⟩
theorem cJ {s k w : adA} {u : V} (hg : cB s k w = some u) : ∃ ts,aV s = some ts ∧ aB ts k = true ∧ ce ts k w = some u ∧ u.tot ≤ 40000 ∧ u.wf:=by
 obtain ⟨ts,hs,hki,hvo⟩ : ∃ ts,aV s = some ts ∧ aB ts k = true ∧ ce ts k w = some u:=by
  unfold cB at hg
  cases hs : aV s with
  | none=>rw [hs] at hg;cases hg
  | some ts =>
   rw [hs] at hg
   dsimp only at hg
   by_cases hk : aB ts k = true
   ·rw [if_pos hk] at hg;exact ⟨ts,rfl,hk,hg⟩
   ·rw [if_neg hk] at hg;cases hg
 refine ⟨ts,hs,hki,hvo,?_,(xu hvo).1⟩
 unfold ce at hvo
 split at hvo
 ·split at hvo
  ·rename_i v hv
   obtain rfl:=Option.some.inj hvo
   have:=gt _ _ _ _ hv
   dsimp only at this;omega
  ·cases hvo
 ·cases hvo
theorem px {ts : List Ty} (hw : SchW ts) {t : Ty} (ht : t ∈ ts) (hs : t.sort ≠ 69) {d : Fld} (hd : d ∈ t.fields) : (dZ ts d).tot ≤ 40000:=by
 obtain ⟨g4,g5⟩:=iI (fh hw ht hs hd).2.1
 have:=gt _ _ _ _ g4
 dsimp only at this
 simp only [List.length_nil] at this
 omega
theorem jf {ts : List Ty} (hw : SchW ts) {k : adA} {v : V} (h : OfK ts k v) (hk : aB ts k = true) {n : Int} (hn : 0 ≤ n) {k' : adA} {v' : V} (e : aE ts k v n = some (k',v')) {N : Nat} (hv : v.tot ≤ N) (hN : 40000 ≤ N) : v'.tot ≤ N:=by
 obtain ⟨c,r,rfl⟩:=d7 hk
 unfold aE at e
 dsimp only at e
 split at e
 ·rename_i hc
  split at e
  ·rename_i hlt
   simp only [Option.some.injEq,Prod.mk.injEq] at e
   obtain ⟨rfl,rfl⟩:=e
   have h1:=gB (ks:=v.kids) (i:=n.toNat) oM
   obtain ⟨w,x,t,ks⟩:=v
   rw [bA] at hv
   rw [V.kids] at h1 ⊢
   omega
  ·cases e
 ·split at e
  ·cases e
  ·rename_i t hr
   have ht:=br hr
   split at e
   ·cases e
   ·rename_i f hf
    have hfm:=List.mem_of_find?_eq_some hf
    split at e
    ·cases e
    ·rename_i h69
     split at e
     ·rename_i h82
      simp only [Option.some.injEq,Prod.mk.injEq] at e
      obtain ⟨rfl,rfl⟩:=e
      rcases bL h hr with ⟨_,fs,rfl,g3,g4,_,_⟩ | ⟨h1,_⟩ | ⟨h1,_⟩
      ·unfold dP
       rw [V.kids]
       cases hto : cq f (fs.map aw) with
       | none =>
        have:=px hw ht h69 hfm
        show (dZ ts f).tot ≤ N
        omega
       | some u =>
        obtain ⟨_,p,hp,_,rfl⟩:=gU (hw.ty t ht) hfm (fun p hp=>⟨g3 p hp,g4 p hp⟩) hto
        have h2:=oI (List.mem_map_of_mem (f:=aw) hp)
        rw [bA] at hv
        simp only [aw,bA,V.tots] at h2
        show p.2.tot ≤ N
        omega
      ·omega
      ·omega
     ·rename_i h82
      split at e
      ·simp only [Option.some.injEq,Prod.mk.injEq] at e
       obtain ⟨rfl,rfl⟩:=e
       rcases bL h hr with ⟨h1,_⟩ | ⟨h1,_⟩ | ⟨_,_,d,u,rfl,g4,g5⟩
       ·omega
       ·omega
       ·simp only [bA,V.tots] at hv
        show u.tot ≤ N
        omega
      ·cases e
theorem lj {ts : List Ty} (hw : SchW ts) : ∀ {p : List Int} {k : adA} {v : V} {k' : adA} {v' : V},OfK ts k v → aB ts k = true → (∀ n ∈ p,0 ≤ n) → bi ts k v p = some (k',v') → ∀ {N : Nat},v.tot ≤ N → 40000 ≤ N → v'.tot ≤ N
 | [],k,v,k',v',h,hk,_,e,N,hv,hN=>by
  simp only [bi,Option.some.injEq,Prod.mk.injEq] at e
  obtain ⟨rfl,rfl⟩:=e
  exact hv
 | n :: p,k,v,k',v',h,hk,hp,e,N,hv,hN=>by
  unfold bi at e
  cases hs : aE ts k v n with
  | none=>rw [hs] at e;cases e
  | some x =>
   rw [hs] at e
   obtain ⟨k1,v1⟩:=x
   obtain ⟨h1,h2⟩:=cL hw h hk (hp n (by simp)) hs
   exact lj hw h1 h2 (fun m hm=>hp m (by simp [hm])) e (jf hw h hk (hp n (by simp)) hs hv hN) hN
theorem nv {ts : List Ty} {p : List Int} {i : Nat} (hi : i < p.length) {k : adA} {v : V} : bi ts k v (p.drop i) = match aE ts k v (ab p i) with
  | none=>none
  | some (k',v')=>bi ts k' v' (p.drop (i + 1)):=by
 rw [List.drop_eq_getElem_cons hi,aA hi,bi]
 all_goals (cases aE ts k v p[i] <;> rfl)
theorem ss {ts : List Ty} {v : V} {k : adA} {b : Nat} (h : RepR G ts v k b) : ∃ x y z,b9 G b 0 [S k,x,y,z]:=by
 cases h with
 | leaf w x k tx b h1 h2=>exact ⟨_,_,_,h1⟩
 | lst k b ks bs a c h1 h2 h3 hk=>exact ⟨_,_,_,h1⟩
 | non k b h1=>exact ⟨_,_,_,h1⟩
 | opt k b kb b' cc w h0 h1 h2 h3=>exact ⟨_,_,_,h1⟩
 | recd k b t fs bs a a2 c c2 h0 h1 h2 h3 h4 h5 hk=>exact ⟨_,_,_,h1⟩
 | enm k b tgb t d h0 h1 h2 h3=>exact ⟨_,_,_,h2⟩
 | uni k b tgb kb b' cc t d w hcc h0 h1 h2 h3 h4 hk=>exact ⟨_,_,_,h2⟩
theorem uY {u : Value} {vs : List cy} (h : SchR G u vs) (hw : SchW (ah vs)) {p : List Int} {pv : Value} (hp : aU G pv 1 p.length (ak cH p)) (hpn : ∀ n ∈ p,0 ≤ n ∧ n ≤ 999999) (hpl : p.length ≤ 1000) {k : adA} {v : V} {b : Nat} (hr : RepR G (ah vs) v k b) (ho : OfK (ah vs) k v) (hki : aB (ah vs) k = true) (htt : v.tot ≤ 1000000) :
  bB adz 48 [u,Pt b 0,pv] G (fZ (ah vs) (bi (ah vs) k v p)):=by
 have hu:=h.sl.one
 obtain ⟨pa,pc,rfl⟩:=hp.sl
 refine jB [(0,_),(1,_),(2,_)] Tryz.func48 Tryz.ntmps48 fun B hok hB hW=>?_
 repeat' (refine jR ?_)
 refine aT (ι:=adA × V × Nat × Nat × Gh) (fun j=>((RepR j.2.2.2.2 (ah vs) j.2.1 j.1 j.2.2.1 ∧ OfK (ah vs) j.1 j.2.1) ∧ (aB (ah vs) j.1 = true ∧ j.2.1.tot ≤ 1000000)) ∧ (Gh.le G j.2.2.2.2 ∧ j.2.2.2.1 ≤ p.length) ∧ bi (ah vs) k v p = bi (ah vs) j.1 j.2.1 (p.drop j.2.2.2.1)) (fun j=>[(0,u),(1,Pt j.2.2.1 0),(2,.slice pa p.length pc),(8,I j.2.2.2.1)]) (fun j=>j.2.2.2.2) (fun j=>[]) (fun j=>p.length - j.2.2.2.1) (k,v,b,0,G) ?_ tU rfl a7 (fun j Hj=>?_)
 ·exact ⟨⟨⟨hr,ho⟩,hki,htt⟩,⟨Gh.le.refl _,Nat.zero_le _⟩,rfl⟩
 obtain ⟨k0,v0,b0,i,Gq⟩:=j
 dsimp only at Hj ⊢
 obtain ⟨⟨⟨hr0,ho0⟩,hk0,ht0⟩,⟨hgq,hi0⟩,he⟩:=Hj
 by_cases hi : i < p.length
 ·obtain ⟨xb,xo,xc,e,hs1⟩:=(hp.mono hgq).expl oM
  simp only [Value.slice.injEq] at e
  obtain ⟨rfl,-,rfl⟩:=e
  have hni:=hpn _ (bc hi)
  have hti : ab p i = ab p i:=rfl
  have hstp:=nX (h.mono hgq) hw hr0 ho0 hk0 hni ht0
  rw [nv hi] at he
  cases hsv : aE (ah vs) k0 v0 (ab p i) with
  | none =>
   have cx_stn:=fZ.no hstp hsv
   rw [hsv] at he
   repeat' (first | refine jR ?_ | (refine jo ?_;first | refine jV (af rfl) ?_ | refine jV (ag rfl rfl oM) ?_ | (refine jV (bW rfl rfl aS ?_ aS rfl) ?_;focus omega) | (refine an rfl rfl rfl cx_stn rfl ?_;rintro _ G hle ⟨q1,rfl⟩;skip)) | (refine ac rfl (by first | rfl | (refine decide_eq_true ?_;(omega))) ?_))
   all_goals refine jZ (vs:=[_,_]) rfl ⟨rfl,rfl,trivial⟩ rfl ⟨hgq.trans hle,rfl,?_⟩
   all_goals exact .inl ⟨he,_,rfl⟩
  | some y =>
   obtain ⟨k1,v1⟩:=y
   have cx_sty:=fZ.yes hstp hsv
   rw [hsv] at he
   obtain ⟨g1,g2⟩:=cL hw ho0 hk0 hni.1 hsv
   have g3:=jf hw ho0 hk0 hni.1 hsv ht0 oM
   repeat' (first | refine jM ?_ | (refine jo ?_;first | refine jV (af rfl) ?_ | refine jV (ag rfl rfl oM) ?_ | (refine jV (bW rfl rfl aS ?_ aS rfl) ?_;focus omega) | (refine an rfl rfl rfl cx_sty rfl ?_;rintro _ G hle ⟨b1,rfl,hrep1⟩;skip)) | refine ac rfl (ay oM) ?_ | refine ad rfl rfl ?_)
   exact bh (k1,v1,b1,i + 1,G) ⟨⟨⟨hrep1,g1⟩,g2,g3⟩,⟨hgq.trans hle,by dsimp only;omega⟩,he⟩ (by dsimp only;omega) tU rfl a7
 ·have hd : p.drop i = []:=List.drop_eq_nil_of_le oM
  rw [hd] at he
  repeat' (first | refine jR ?_ | (refine jo ?_;refine jV (af rfl) ?_) | refine ad rfl (aG oM) ?_)
  all_goals refine jZ (vs:=[_,_]) rfl ⟨rfl,rfl,trivial⟩ rfl ⟨hgq,rfl,?_⟩
  all_goals exact .inr ⟨_,_,b0,he,rfl,hr0⟩
theorem j8 {s k w : adA} {v : V} {ts : List Ty} (h : s.length ≤ 1048576 ∧ k.length ≤ 1048576 ∧ w.length ≤ 1048576) (hs : aV s = some ts) (hki : aB ts k = true) (hvo : ce ts k w = some v) :
  bB adz 36 [S s,S k,S w] G (fun r G'=>∃ a c vs b,r = Tu [.slice a vs.length c,Pt b 0,Bo true] ∧ SchR G' (.slice a vs.length c) vs ∧ ah vs = ts ∧ RepR G' ts v k b):=by
 have hw:=cY hs
 have hk : dq s k = true:=by unfold dq;rw [hs];exact hki
 obtain ⟨h12,hl⟩:=iI hvo
 have cx_lka : ∀ G,bB adz 60 [S s,S k] G (fun v G'=>∃ a c vs,v = Tu [.slice a vs.length c,Bo true] ∧ SchR G' (.slice a vs.length c) vs ∧ ah vs = ts):=fun G=>by
  refine (g9 (G:=G) (s:=s) (k:=k) oM oM).mono ?_
  rintro v G' L' ⟨h1,h2,u,vs,rfl,h4,_,h6⟩
  obtain ⟨_,⟨rfl,h0⟩ | ⟨b,o,cap,rfl,_,_⟩⟩:=h4.sl
  ·exact ⟨h1,h2,none,0,vs,by rw [hk,h0],by rw [h0];exact h4,h6 ts hs hki⟩
  ·exact ⟨h1,h2,_,cap,vs,by rw [hk],h4,h6 ts hs hki⟩
 refine jB [(0,_),(1,_),(2,_)] Tryz.func36 Tryz.ntmps36 fun B hok hB hW=>?_
 repeat' (first | refine jR ?_ | (refine jo ?_;first | refine aC rfl ?_ | refine jV (ax rfl rfl) ?_ | (refine an rfl rfl rfl (cx_lka _) rfl ?_;rintro _ G hle ⟨av1,cv1,vs1,rfl,hR1,hT1⟩;skip)) | refine ar rfl rfl rfl ?_ | refine ad rfl (aG oM) ?_)
 subst hT1
 have cx_rd : bB adz 50 [Ag [.slice av1 vs1.length cv1],S w,S k,I (12 : Nat)] G (fun r G'=>∃ b,r = Tu [Pt b 0,S [],Bo true] ∧ RepR G' (ah vs1) v k b):=by
  refine (gr (u:=.slice av1 vs1.length cv1) (vs:=vs1) hw 12 oM G k w hR1 hki oM).mono ?_
  rintro r G' L' ⟨h1,h2,q,rest,ok,rfl,h3,h4⟩
  cases ok with
  | false=>rw [h12] at h4;cases h4 rfl
  | true =>
   obtain ⟨v',b,rfl,h5,h6⟩:=h3 rfl
   rw [h12] at h5
   simp only [Option.some.injEq,Prod.mk.injEq] at h5
   obtain ⟨rfl,rfl⟩:=h5
   exact ⟨h1,h2,b,rfl,h6⟩
 refine jo ?_
 refine an rfl rfl rfl cx_rd rfl ?_
 rintro _ G2 hle2 ⟨b,rfl,hrep⟩
 repeat' (first | refine jR ?_ | (refine jo ?_;refine aM rfl ?_) | refine aF rfl rfl rfl ?_)
 refine jZ (vs:=[_,_,_]) rfl ⟨rfl,rfl,rfl,trivial⟩ rfl ⟨(Gh.le.trans hle hle2),rfl,?_⟩
 exact ⟨_,_,_,b,rfl,hR1.mono hle2,rfl,hrep⟩
def cU (s k w p : adA) : Option (adA × adA):=match aV s,cB s k w,cG p with
 | some ts,some u,some q=>(bi ts k u q).map fun x=>(x.1,x.2.out)
 | _,_,_=>none
theorem sI {s k : adA} {o : Option (List Int)} : (match aV s,(none : Option V),o with
 | some ts,some u,some q=>(bi ts k u q).map fun x=>(x.1,x.2.out)
 | _,_,_=>none) = none:=by cases aV s <;> rfl
def yM (o : Option (adA × adA)) : Value:=Tu [S ((o.map (·.1)).getD []),S ((o.map (·.2)).getD []),Bo o.isSome]
theorem iJ {s : adA} (h : s.length ≤ 1048576) (hp : cG s = none) : ∀ G,bB adz 38 [S s] G (fun v _=>∃ a c n,v = Tu [.slice a n c,Bo false] ∧ True):=fun G=>by
 refine (tD (G:=G) h).mono ?_
 rintro v G' L' ⟨h1,h2,a,c,n,rfl,_⟩
 exact ⟨h1,h2,a,c,n,by rw [hp];rfl,trivial⟩
theorem hO {s : adA} {p : List Int} (h : s.length ≤ 1048576) (hp : cG s = some p) : ∀ G,bB adz 38 [S s] G (fun v G'=>∃ a c n,v = Tu [.slice a n c,Bo true] ∧ n = p.length ∧ aU G' (.slice a n c) 1 p.length (ak cH p)):=fun G=>by
 refine (tD (G:=G) h).mono ?_
 rintro v G' L' ⟨h1,h2,a,c,n,rfl,h3⟩
 exact ⟨h1,h2,a,c,n,by rw [hp];rfl,h3 p hp⟩
theorem kN {s : adA} {p : List Int} (h : cG s = some p) : p.length ≤ 8 ∧ ∀ n ∈ p,0 ≤ n ∧ n ≤ 999999:=by
 unfold cG at h
 split at h
 ·simp only [Option.some.injEq] at h;subst h;simp
 ·split at h
  ·rename_i q hq
   split at h
   ·rename_i h8
    simp only [Option.some.injEq] at h;subst h
    exact ⟨h8,(k7 hq).2⟩
   ·cases h
  ·cases h
theorem v5 {s k w p : adA} (h1 : s.length ≤ 1048576 ∧ k.length ≤ 1048576 ∧ w.length ≤ 1048576 ∧ p.length ≤ 1048576) : a9 adz 28 [S s,S k,S w,S p] G (· = yM (cU s k w p)):=by
 unfold cU
 cases hg : cB s k w with
 | none =>
  rw [sI]
  have cx_la0:=fun G=>iS (G:=G) (s:=s) (k:=k) (w:=w) oM hg
  cases hpo : cG p with
  | none =>
   have cx_sp:=iJ h1.2.2.2 hpo
   refine jB (Post:=fun v G' L'=>G' = G ∧ L' = [] ∧ _) [(0,_),(1,_),(2,_),(3,_)] Tryz.func28 Tryz.ntmps28 fun B hok hB hW=>?_
   repeat' (first | refine jR ?_ | (refine jo ?_;first | refine aM rfl ?_ | (refine an rfl rfl rfl (cx_la0 _) rfl ?_;rintro _ G hle ⟨ua,qa,rfl⟩;skip) | (refine an rfl rfl rfl (cx_sp _) rfl ?_;rintro _ G hle ⟨sa,sc,sn,rfl,hsp⟩;skip)) | refine aF rfl rfl rfl ?_ | refine ac rfl rfl ?_)
   all_goals refine Nx.base hok hB ?_
   all_goals refine jY (vs:=[_,_,_]) ?_
   all_goals rfl
  | some q =>
   have cx_sp:=hO h1.2.2.2 hpo
   refine jB (Post:=fun v G' L'=>G' = G ∧ L' = [] ∧ _) [(0,_),(1,_),(2,_),(3,_)] Tryz.func28 Tryz.ntmps28 fun B hok hB hW=>?_
   repeat' (first | refine jR ?_ | (refine jo ?_;first | refine aM rfl ?_ | (refine an rfl rfl rfl (cx_la0 _) rfl ?_;rintro _ G hle ⟨ua,qa,rfl⟩;skip) | (refine an rfl rfl rfl (cx_sp _) rfl ?_;rintro _ G hle ⟨sa,sc,sn,rfl,hsp⟩;skip)) | refine aF rfl rfl rfl ?_ | refine ac rfl rfl ?_)
   all_goals refine Nx.base hok hB ?_
   all_goals refine jY (vs:=[_,_,_]) ?_
   all_goals rfl
 | some u =>
  obtain ⟨ts,hs,hki,hvo,hto,hwf⟩:=cJ hg
  have cx_l4x:=j8 (G:=G) (s:=s) (k:=k) (w:=w) oM hs hki hvo
  rw [hs]
  cases hpo : cG p with
  | none =>
   have cx_sp:=iJ h1.2.2.2 hpo
   refine jB (Post:=fun v G' L'=>G' = G ∧ L' = [] ∧ _) [(0,_),(1,_),(2,_),(3,_)] Tryz.func28 Tryz.ntmps28 fun B hok hB hW=>?_
   repeat' (first | refine jR ?_ | (refine jo ?_;first | refine aC rfl ?_ | (refine an rfl rfl rfl cx_l4x rfl ?_;rintro _ G hle ⟨av1,cv1,vs1,b1,rfl,hR1,hT1,hrep⟩;skip) | (refine an rfl rfl rfl (cx_sp _) rfl ?_;rintro _ G hle ⟨sa,sc,sn,rfl,hsp⟩;skip)) | refine ar rfl rfl rfl ?_ | refine ac rfl rfl ?_)
   all_goals refine Nx.base hok hB ?_
   all_goals refine jY (vs:=[_,_,_]) ?_
   all_goals rfl
  | some q =>
   have cx_sp:=hO h1.2.2.2 hpo
   obtain ⟨hq8,hqn⟩:=kN hpo
   have hof:=cQ hvo
   have hw:=cY hs
   dsimp only
   refine jB (Post:=fun v G' L'=>G' = G ∧ L' = [] ∧ _) [(0,_),(1,_),(2,_),(3,_)] Tryz.func28 Tryz.ntmps28 fun B hok hB hW=>?_
   repeat' (first | refine jR ?_ | (refine jo ?_;first | refine aC rfl ?_ | (refine an rfl rfl rfl cx_l4x rfl ?_;rintro _ G hle ⟨av1,cv1,vs1,b1,rfl,hR1,hT1,hrep⟩;(try have hrep:=RepR.mono hle hrep);(try have hR1:=SchR.mono hR1 hle)) | (refine an rfl rfl rfl (cx_sp _) rfl ?_;rintro _ G hle ⟨sa,sc,sn,rfl,hsp⟩;(try have hrep:=RepR.mono hle hrep);(try have hR1:=SchR.mono hR1 hle))) | refine ar rfl rfl rfl ?_ | refine ad rfl rfl ?_)
   obtain ⟨rfl,hsp⟩:=hsp
   subst hT1
   have hwk:=uY hR1 hw hsp hqn oM hrep hof hki oM
   cases hfo : bi (ah vs1) k u q with
   | none =>
    have cx_wan:=fZ.no hwk hfo
    repeat' (first | refine jR ?_ | (refine jo ?_;(refine an rfl rfl rfl cx_wan rfl ?_;rintro _ G hle ⟨q1,rfl⟩;(try have hrep:=RepR.mono hle hrep);(try have hR1:=SchR.mono hR1 hle))) | refine ac rfl rfl ?_)
    all_goals refine Nx.base hok hB ?_
    all_goals refine jY (vs:=[_,_,_]) ?_
    all_goals rfl
   | some y =>
    obtain ⟨k1,v1⟩:=y
    have cx_way:=fZ.yes hwk hfo
    have g3:=lj hw hof hki (fun n hn=>(hqn n hn).1) hfo (N:=1000000) oM oM
    repeat' (first | refine jR ?_ | (refine jo ?_;(refine an rfl rfl rfl cx_way rfl ?_;rintro _ G hle ⟨b1,rfl,hrep1⟩;(try have hrep:=RepR.mono hle hrep);(try have hR1:=SchR.mono hR1 hle))) | refine ad rfl rfl ?_)
    have cx_out:=fP hw hrep1 oM
    obtain ⟨q1,q2,q3,hsg1⟩:=ss hrep1
    repeat' (first | refine jR ?_ | (refine am (ao (id:=8) _ (fun _ h=>h) al ?_);refine jT 5 [0,1,2,4] (aa 9 23) ?_;(refine jG (aa 9 31) 3 rfl (aj rfl rfl aS rfl rfl) ?_);refine jA 5 rfl ?_;(refine ae rfl rfl rfl cx_out rfl ?_);refine jS (aa 9 63) ?_;refine jT 0 [6,7,8] (aa 9 511) ?_;refine jQ ?_))
    all_goals refine Nx.base hok hB ?_
    all_goals refine jY (vs:=[_,_,_]) ?_
    all_goals rfl
theorem uD {α : Type} [Inhabited α] {tg : α → Int} {node : α} {tag : Int} {l : List α} {i : Nat} (hi : i < l.length) {d : Bool} : da tg node tag (l.drop i) d = (if tag < tg (ab l i) ∧ d = false then [node] else []) ++ ((if tg (ab l i) = tag then [] else [ab l i]) ++ da tg node tag (l.drop (i + 1)) (d || decide (tag < tg (ab l i)))):=by
 rw [List.drop_eq_getElem_cons hi,aA hi,da]
theorem sE {α : Type} {tg : α → Int} {node : α} {tag : Int} {y : α} : ∀ {l : List α} {d : Bool},y ∈ da tg node tag l d → y = node ∨ y ∈ l
 | [],d,h=>by
  unfold da at h
  split at h
  ·simp at h
  ·exact .inl (by simpa using h)
 | z :: r,d,h=>by
  rw [da] at h
  simp only [List.mem_append] at h
  rcases h with h | h | h
  ·split at h
   ·exact .inl (by simpa using h)
   ·simp at h
  ·split at h
   ·simp at h
   ·exact .inr (by simp at h;simp [h])
  ·exact (sE h).imp id fun h=>by simp [h]
theorem rh {α : Type} {tg : α → Int} {node : α} {tag : Int} {y : α} : ∀ {l : List α},y ∈ da tg node tag l true → y ∈ l
 | [],h=>by simp [da] at h
 | z :: r,h=>by
  rw [da,if_neg (by simp),Bool.true_or,List.nil_append] at h
  rcases List.mem_append.1 h with h | h
  ·split at h
   ·simp at h
   ·simp at h;simp [h]
  ·simp [rh h]
def dE (p : (Fld × V) × Nat) : Int:=p.1.1.tag
def rv (p : (Fld × V) × Nat) : V:=aw p.1
theorem uO {ps : List ((Fld × V) × Nat)} : ps.map rv = (ps.map (·.1)).map aw:=by rw [List.map_map];rfl
theorem xI {ts : List Ty} {k : adA} {t : Ty} {b : Nat} {vs : List V} (hr : RepR G ts (.nd 82 [] 0 vs) k b) (hrf : a8 ts k = some t) : t.sort = 82 ∧ ∃ (ps : List ((Fld × V) × Nat)) (a a2 : Option Addr) (c c2 : Nat),vs = ps.map rv ∧ b9 G b 0 [S k,S [82],.slice a ps.length c,.slice a2 ps.length c2] ∧ aU G (.slice a ps.length c) 1 ps.length (ak cH (ps.map dE)) ∧ aU G (.slice a2 ps.length c2) 1 ps.length (ak dw (ps.map (·.2))) ∧ ∀ p ∈ ps,p.1.1 ∈ t.fields ∧ RepR G ts p.1.2 p.1.1.kind p.2:=by
 cases hr with
 | leaf w x k tx b h1 h2=>rcases h2 with ⟨h,_⟩ | ⟨h,_⟩ | ⟨h,_⟩ <;> omega
 | recd k b t' fs bs a a2 c c2 h0 h1 h2 h3 h4 h5 hk =>
  obtain rfl : t' = t:=by rw [hrf] at h0;exact (Option.some.inj h0.1).symm
  have e1 : (fs.zip bs).map (·.1) = fs:=List.map_fst_zip oM
  have e2 : (fs.zip bs).map (·.2) = bs:=List.map_snd_zip oM
  have el : (fs.zip bs).length = fs.length:=by simp [h4]
  have e3 : (fs.zip bs).map dE = fs.map fun p=>p.1.tag:=by
   rw [show dE = (fun p : Fld × V=>p.1.tag) ∘ Prod.fst from rfl,← List.map_map,e1]
  refine ⟨h0.2,fs.zip bs,a,a2,c,c2,by rw [uO,e1],by rw [el];exact h1,by rw [el,e3];exact h2,by rw [el,e2];exact h3,fun p hp=>?_⟩
  obtain ⟨i,hi,e⟩:=List.getElem_of_mem hp
  rw [List.getElem_zip] at e
  subst e
  have hi' : i < fs.length:=by rw [el] at hi;exact hi
  have g1:=hk i hi'
  have g2:=h5 i hi'
  rw [aA hi',aA oM] at g1
  rw [aA hi'] at g2
  exact ⟨g2,g1⟩
theorem qv {ts : List Ty} {k : adA} {t : Ty} {b : Nat} {ps : List ((Fld × V) × Nat)} {a a2 : Option Addr} {c c2 : Nat} (hrf : a8 ts k = some t) (hso : t.sort = 82) (h1 : b9 G b 0 [S k,S [82],.slice a ps.length c,.slice a2 ps.length c2]) (h2 : aU G (.slice a ps.length c) 1 ps.length (ak cH (ps.map dE))) (h3 : aU G (.slice a2 ps.length c2) 1 ps.length (ak dw (ps.map (·.2)))) (hm : ∀ p ∈ ps,p.1.1 ∈ t.fields ∧ RepR G ts p.1.2 p.1.1.kind p.2) : RepR G ts (.nd 82 [] 0 (ps.map rv)) k b:=by
 have el : (ps.map (·.1)).length = ps.length:=by simp
 have hn1 : ∀ i,i < ps.length → ab (ps.map (·.1)) i = (ab ps i).1:=fun i hi=>by rw [aA (by simpa using hi),aA hi];simp
 have hn2 : ∀ i,i < ps.length → ab (ps.map (·.2)) i = (ab ps i).2:=fun i hi=>by rw [aA (by simpa using hi),aA hi];simp
 have e3 : (ps.map (·.1)).map (fun p : Fld × V=>p.1.tag) = ps.map dE:=by rw [List.map_map];rfl
 rw [uO]
 refine RepR.recd k b t (ps.map (·.1)) (ps.map (·.2)) a a2 c c2 ⟨hrf,hso⟩ (by rw [el];exact h1) (by rw [el,e3];exact h2) (by rw [el];exact h3) (by simp) (fun i hi=>?_) (fun i hi=>?_)
 ·rw [el] at hi
  rw [hn1 i hi];exact (hm _ (bc hi)).1
 ·rw [el] at hi
  rw [hn1 i hi,hn2 i hi];exact (hm _ (bc hi)).2
abbrev rW : TypeId:=3
abbrev rU : TypeId:=56
section
variable {ts : List Ty} {k : adA} {t : Ty} {b : Nat} {ps : List ((Fld × V) × Nat)} {a a2 : Option Addr} {c c2 : Nat}
theorem aaa {node : (Fld × V) × Nat} {tag : Int} (hrf : a8 ts k = some t) (hso : t.sort = 82) (h1 : b9 G b 0 [S k,S [82],.slice a ps.length c,.slice a2 ps.length c2]) (h2 : aU G (.slice a ps.length c) 1 ps.length (ak cH (ps.map dE))) (h3 : aU G (.slice a2 ps.length c2) 1 ps.length (ak dw (ps.map (·.2)))) (hm : ∀ p ∈ ps,p.1.1 ∈ t.fields ∧ RepR G ts p.1.2 p.1.1.kind p.2) (h9 : ps.length ≤ 100000) :
  bB adz 88 [Pt b 0,I tag,.pointer none] G (fun r G'=>∃ b',r = Pt b' 0 ∧ RepR G' ts (.nd 82 [] 0 ((da dE node tag ps true).map rv)) k b'):=by
 have htl : (ps.map dE).length = ps.length:=by simp
 have hbl : (ps.map (·.2)).length = ps.length:=by simp
 refine jB [(0,_),(1,_),(2,_)] Tryz.func88 Tryz.ntmps88 fun B hok hB hW=>?_
 repeat' (first | refine jR ?_ | (refine jo ?_;refine jV (db rfl rfl) ?_) | (refine am (ao (id:=1) _ (fun _ h=>h) al ?_);refine jT 5 [0,1,2,4,5,6] (aa 11 119) ?_;(refine jG (aa 11 127) 3 rfl (aj rfl rfl aS rfl rfl) ?_);(refine jG (aa 11 255) 7 rfl (aj rfl rfl aS rfl rfl) ?_);(refine jG (aa 11 511) 8 rfl (ax rfl rfl) ?_);refine jA 9 rfl ?_;(refine jO fun _=>?_);refine jS (aa 11 1023) ?_;refine jT 0 [10] (aa 11 2047) ?_;refine jQ ?_))
 rename_i x
 refine Nx.addNil rW 1 (Nx.addNil rU 1 ?_)
 refine aT (ι:=List ((Fld × V) × Nat) × Option Addr × Nat × Option Addr × Nat × Nat) (fun q=>(q.2.2.2.2.2 ≤ ps.length ∧ q.1.length ≤ q.2.2.2.2.2) ∧ da dE node tag ps true = q.1 ++ da dE node tag (ps.drop q.2.2.2.2.2) true) (fun q=>[(0,Pt b 0),(1,I tag),(7,Pt x 0),(8,Bo true),(9,I q.2.2.2.2.2)]) (fun _=>G) (fun q=>[.acc (.slice q.2.2.2.1 q.1.length q.2.2.2.2.1) rU 1 q.1.length (ak dw (q.1.map (·.2))),.acc (.slice q.2.1 q.1.length q.2.2.1) rW 1 q.1.length (ak cH (q.1.map dE)),.blk x (.cells (List.toArray [S k,S [82],.slice q.2.1 q.1.length q.2.2.1,.slice q.2.2.2.1 q.1.length q.2.2.2.2.1]) n7 (0,0))]) (fun q=>ps.length - q.2.2.2.2.2) ([],none,0,none,0,0) ?_ tU rfl a7 (fun q Hq=>?_)
 ·exact ⟨⟨Nat.zero_le _,Nat.zero_le _⟩,rfl⟩
 obtain ⟨gs,a3,c3,a4,c4,i⟩:=q
 dsimp only at Hq ⊢
 obtain ⟨⟨hi0,hgl⟩,hinv⟩:=Hq
 by_cases hi : i < ps.length
 ·obtain ⟨xb,xo,xc,e,hs1⟩:=h2.expl oM
  simp only [Value.slice.injEq] at e
  obtain ⟨rfl,-,rfl⟩:=e
  obtain ⟨zb,zo,zc,e,hs2⟩:=h3.expl oM
  simp only [Value.slice.injEq] at e
  obtain ⟨rfl,-,rfl⟩:=e
  have hti : ab (ps.map dE) i = dE (ab ps i):=by rw [aA oM,aA hi];simp
  have hxi : ab (ps.map (·.2)) i = (ab ps i).2:=by rw [aA oM,aA hi];simp
  rw [uD hi,if_neg (by simp),List.nil_append,Bool.true_or] at hinv
  by_cases hne : dE (ab ps i) = tag
  ·rw [if_pos hne,List.nil_append] at hinv
   repeat' (first | refine jM ?_ | (refine jo ?_;first | refine jV (aj rfl rfl aS rfl rfl) ?_ | (refine jV (bW rfl rfl aS ?_ aS rfl) ?_;focus omega) | refine jV (af rfl) ?_ | refine jV (ag rfl rfl oM) ?_ | refine aC rfl ?_) | refine ar rfl rfl rfl ?_ | refine ac rfl (ay oM) ?_ | (refine ad rfl (by first | rfl | (refine decide_eq_false ?_;(omega))) ?_))
   exact bh (gs,a3,c3,a4,c4,i + 1) ⟨⟨by dsimp only;omega,by dsimp only;omega⟩,hinv⟩ (by dsimp only;omega) tU rfl a7
  ·rw [if_neg hne,← List.append_assoc] at hinv
   have hl1 : (gs ++ [ab ps i]).length = gs.length + 1:=by simp
   have hr1 : ak cH (gs.map dE) ++ [I (dE (ab ps i))] = ak cH ((gs ++ [ab ps i]).map dE):=by rw [List.map_append];exact (bR cH _ (dE (ab ps i))).symm
   have hr2 : ak dw (gs.map (·.2)) ++ [Pt (ab ps i).2 0] = ak dw ((gs ++ [ab ps i]).map (·.2)):=by rw [List.map_append];exact (bR dw _ (ab ps i).2).symm
   repeat' (first | refine jR ?_ | (refine jo ?_;first | refine jV (aj rfl rfl aS rfl rfl) ?_ | (refine jV (bW rfl rfl aS ?_ aS rfl) ?_;focus omega) | refine jV (af rfl) ?_ | refine jV (ag rfl rfl oM) ?_ | refine aC rfl ?_) | refine ar rfl rfl rfl ?_ | (refine ac rfl (by refine decide_eq_true ?_;first | assumption | omega) ?_) | refine ad rfl rfl ?_)
   (refine am (ao (id:=11) [] (fun _ h=>absurd h (by simp)) al ?_);refine jW 9 [0,1,2,3,5,6,7,9] (aa 17 751) ?_;(refine jG (aa 17 1007) 8 rfl (aj rfl rfl aS rfl rfl) ?_);((refine jG (aa 17 2031) 10 rfl (ag rfl rfl ?_) ?_;focus omega));((refine jG (aa 17 4079) 11 rfl (bW rfl rfl aS ?_ aS rfl) ?_;focus omega));refine b8 [4,12] kR dC ⟨?_,?_,trivial⟩;(focus (refine aO rfl rfl ?_;(refine aD rfl ?_);refine jK (aa 17 4095) ?_;refine jA 12 rfl ?_;(refine jF fun _=>?_);refine jK (aa 17 8191) ?_;refine jA 13 rfl ?_;((refine bD rfl rfl rfl rfl rfl rfl rfl rfl rfl ?_ fun _ _=>?_;focus omega));refine jK (aa 17 16383) ?_;refine jW 1 [14,15] (aa 17 65535) ?_;refine jA 16 rfl ?_;(refine jD rfl rfl rfl ?_);refine jK (aa 17 131071) ?_;refine jQ ?_));rotate_left 1;(focus (refine aO rfl rfl ?_;(refine jF fun _=>?_);refine jK (aa 17 8175) ?_;refine jA 4 rfl ?_;(refine aD rfl ?_);refine jK (aa 17 8191) ?_;refine jA 13 rfl ?_;((refine bD rfl rfl rfl rfl rfl rfl rfl rfl rfl ?_ fun _ _=>?_;focus omega));refine jK (aa 17 16383) ?_;refine jW 1 [14,15] (aa 17 65535) ?_;refine jA 16 rfl ?_;(refine jD rfl rfl rfl ?_);refine jK (aa 17 131071) ?_;refine jQ ?_));rotate_left 1)
   all_goals repeat' (refine jR ?_)
   all_goals (refine am (ao (id:=12) [] (fun _ h=>absurd h (by simp)) al ?_);refine jW 9 [0,1,2,3,5,6,7,9] (aa 17 751) ?_;(refine jG (aa 17 1007) 8 rfl (aj rfl rfl aS rfl rfl) ?_);((refine jG (aa 17 2031) 10 rfl (ag rfl rfl ?_) ?_;focus omega));((refine jG (aa 17 4079) 11 rfl (bW rfl rfl aS ?_ aS rfl) ?_;focus omega));refine b8 [4,12] kR dC ⟨?_,?_,trivial⟩;(focus (refine aO rfl rfl ?_;(refine aD rfl ?_);refine jK (aa 17 4095) ?_;refine jA 12 rfl ?_;(refine jF fun _=>?_);refine jK (aa 17 8191) ?_;refine jA 13 rfl ?_;((refine bD rfl rfl rfl rfl rfl rfl rfl rfl rfl ?_ fun _ _=>?_;focus omega));refine jK (aa 17 16383) ?_;refine jW 1 [14,15] (aa 17 65535) ?_;refine jA 16 rfl ?_;(refine jD rfl rfl rfl ?_);refine jK (aa 17 131071) ?_;refine jQ ?_));rotate_left 1;(focus (refine aO rfl rfl ?_;(refine jF fun _=>?_);refine jK (aa 17 8175) ?_;refine jA 4 rfl ?_;(refine aD rfl ?_);refine jK (aa 17 8191) ?_;refine jA 13 rfl ?_;((refine bD rfl rfl rfl rfl rfl rfl rfl rfl rfl ?_ fun _ _=>?_;focus omega));refine jK (aa 17 16383) ?_;refine jW 1 [14,15] (aa 17 65535) ?_;refine jA 16 rfl ?_;(refine jD rfl rfl rfl ?_);refine jK (aa 17 131071) ?_;refine jQ ?_));rotate_left 1)
   all_goals repeat' (refine jM ?_)
   all_goals
    rename_i _ y1 yc1 _ y2 yc2
    rw [hr1,hr2]
    exact bh (gs ++ [ab ps i],some ⟨y1,0,none⟩,yc1,some ⟨y2,0,none⟩,yc2,i + 1) ⟨⟨by dsimp only;omega,by dsimp only;omega⟩,hinv⟩ (by dsimp only;omega) tU rfl (by rw [hl1];repeat (first | exact List.Sublist.refl _ | apply List.Sublist.cons_cons | apply List.Sublist.cons))
 ·rw [List.drop_eq_nil_of_le oM,show da dE node tag [] true = [] from rfl,List.append_nil] at hinv
  repeat' (first | refine jR ?_ | (refine jo ?_;first | refine jV (aj rfl rfl aS rfl rfl) ?_ | refine jV (af rfl) ?_) | (refine ad rfl (by first | rfl | (refine decide_eq_false ?_;(omega))) ?_))
  refine Nx.sealS (v:=.slice a3 gs.length c3) fun G2 hG2 hs1=>?_
  refine Nx.sealS (v:=.slice a4 gs.length c4) fun G3 hG3 hs2=>?_
  refine Nx.sealC (b:=x) fun G4 hG4 hsg=>?_
  refine jZ (vs:=[_]) rfl ⟨rfl,trivial⟩ rfl ⟨((hG2.trans hG3).trans hG4),rfl,?_⟩
  rw [hinv]
  exact ⟨x,rfl,qv hrf hso hsg ((hs1.mono hG3).mono hG4) (hs2.mono hG4) fun p hp=>by
   rw [← hinv] at hp
   have hp:=rh hp
   exact ⟨(hm p hp).1,((hm p hp).2).mono ((hG2.trans hG3).trans hG4)⟩⟩
theorem z9 {f : Fld} {z : V} {zb : Nat} (hrf : a8 ts k = some t) (hso : t.sort = 82) (h1 : b9 G b 0 [S k,S [82],.slice a ps.length c,.slice a2 ps.length c2]) (h2 : aU G (.slice a ps.length c) 1 ps.length (ak cH (ps.map dE))) (h3 : aU G (.slice a2 ps.length c2) 1 ps.length (ak dw (ps.map (·.2)))) (hm : ∀ p ∈ ps,p.1.1 ∈ t.fields ∧ RepR G ts p.1.2 p.1.1.kind p.2) (h9 : ps.length ≤ 100000) (hf : f ∈ t.fields) (hz : RepR G ts z f.kind zb) :
  bB adz 88 [Pt b 0,I f.tag,Pt zb 0] G (fun r G'=>∃ b',r = Pt b' 0 ∧ RepR G' ts (.nd 82 [] 0 ((da dE ((f,z),zb) f.tag ps false).map rv)) k b'):=by
 have htl : (ps.map dE).length = ps.length:=by simp
 have hbl : (ps.map (·.2)).length = ps.length:=by simp
 have hnd : dE ((f,z),zb) = f.tag:=rfl
 have hap1 : ∀ (gs : List ((Fld × V) × Nat)) (p : (Fld × V) × Nat),ak cH (gs.map dE) ++ [I (dE p)] = ak cH ((gs ++ [p]).map dE):=fun gs p=>by rw [List.map_append];exact (bR cH _ (dE p)).symm
 have hap2 : ∀ (gs : List ((Fld × V) × Nat)) (p : (Fld × V) × Nat),ak dw (gs.map (·.2)) ++ [Pt p.2 0] = ak dw ((gs ++ [p]).map (·.2)):=fun gs p=>by rw [List.map_append];exact (bR dw _ p.2).symm
 have hmem : ∀ {G' : Gh} {p : (Fld × V) × Nat},Gh.le G G' → p ∈ da dE ((f,z),zb) f.tag ps false → p.1.1 ∈ t.fields ∧ RepR G' ts p.1.2 p.1.1.kind p.2:=fun hle hp=>by
  rcases sE hp with rfl | hp
  ·exact ⟨hf,hz.mono hle⟩
  ·exact ⟨(hm _ hp).1,((hm _ hp).2).mono hle⟩
 refine jB [(0,_),(1,_),(2,_)] Tryz.func88 Tryz.ntmps88 fun B hok hB hW=>?_
 repeat' (first | refine jR ?_ | (refine jo ?_;refine jV (db rfl rfl) ?_) | (refine am (ao (id:=1) _ (fun _ h=>h) al ?_);refine jT 5 [0,1,2,4,5,6] (aa 11 119) ?_;(refine jG (aa 11 127) 3 rfl (aj rfl rfl aS rfl rfl) ?_);(refine jG (aa 11 255) 7 rfl (aj rfl rfl aS rfl rfl) ?_);(refine jG (aa 11 511) 8 rfl (ax rfl rfl) ?_);refine jA 9 rfl ?_;(refine jO fun _=>?_);refine jS (aa 11 1023) ?_;refine jT 0 [10] (aa 11 2047) ?_;refine jQ ?_))
 rename_i x
 refine Nx.addNil rW 1 (Nx.addNil rU 1 ?_)
 refine aT (ι:=List ((Fld × V) × Nat) × Option Addr × Nat × Option Addr × Nat × Bool × Nat) (fun q=>(q.2.2.2.2.2.2 ≤ ps.length ∧ q.1.length ≤ 2 * q.2.2.2.2.2.2 + 1) ∧ da dE ((f,z),zb) f.tag ps false = q.1 ++ da dE ((f,z),zb) f.tag (ps.drop q.2.2.2.2.2.2) q.2.2.2.2.2.1) (fun q=>[(0,Pt b 0),(1,I f.tag),(2,Pt zb 0),(7,Pt x 0),(8,Bo q.2.2.2.2.2.1),(9,I q.2.2.2.2.2.2)]) (fun _=>G) (fun q=>[.acc (.slice q.2.2.2.1 q.1.length q.2.2.2.2.1) rU 1 q.1.length (ak dw (q.1.map (·.2))),.acc (.slice q.2.1 q.1.length q.2.2.1) rW 1 q.1.length (ak cH (q.1.map dE)),.blk x (.cells (List.toArray [S k,S [82],.slice q.2.1 q.1.length q.2.2.1,.slice q.2.2.2.1 q.1.length q.2.2.2.2.1]) n7 (0,0))]) (fun q=>ps.length - q.2.2.2.2.2.2) ([],none,0,none,0,false,0) ?_ tU rfl a7 (fun q Hq=>?_)
 ·exact ⟨⟨Nat.zero_le _,Nat.zero_le _⟩,rfl⟩
 obtain ⟨gs,a3,c3,a4,c4,d,i⟩:=q
 dsimp only at Hq ⊢
 obtain ⟨⟨hi0,hgl⟩,hinv⟩:=Hq
 by_cases hi : i < ps.length
 ·obtain ⟨xb,xo,xc,e,hs1⟩:=h2.expl oM
  simp only [Value.slice.injEq] at e
  obtain ⟨rfl,-,rfl⟩:=e
  obtain ⟨zc,zo,zd,e,hs2⟩:=h3.expl oM
  simp only [Value.slice.injEq] at e
  obtain ⟨rfl,-,rfl⟩:=e
  have hti : ab (ps.map dE) i = dE (ab ps i):=by rw [aA oM,aA hi];simp
  have hxi : ab (ps.map (·.2)) i = (ab ps i).2:=by rw [aA oM,aA hi];simp
  rw [uD hi] at hinv
  have hl1 : (gs ++ [ab ps i]).length = gs.length + 1:=by simp
  have hl2 : (gs ++ [((f,z),zb)] ++ [ab ps i]).length = gs.length + 1 + 1:=by simp
  cases d with
  | true =>
   rw [if_neg (by simp),List.nil_append,Bool.true_or] at hinv
   by_cases hne : dE (ab ps i) = f.tag
   ·rw [if_pos hne,List.nil_append] at hinv
    repeat' (first | refine jM ?_ | (refine jo ?_;first | refine jV (aj rfl rfl aS rfl rfl) ?_ | (refine jV (bW rfl rfl aS ?_ aS rfl) ?_;focus omega) | refine jV (af rfl) ?_ | refine jV (ag rfl rfl oM) ?_ | refine aC rfl ?_) | refine ar rfl rfl rfl ?_ | refine ac rfl (ay oM) ?_ | (refine ad rfl (by first | rfl | (refine decide_eq_false ?_;(omega))) ?_))
    exact bh (gs,a3,c3,a4,c4,true,i + 1) ⟨⟨by dsimp only;omega,by dsimp only;omega⟩,hinv⟩ (by dsimp only;omega) tU rfl a7
   ·rw [if_neg hne,← List.append_assoc] at hinv
    repeat' (first | refine jR ?_ | (refine jo ?_;first | refine jV (aj rfl rfl aS rfl rfl) ?_ | (refine jV (bW rfl rfl aS ?_ aS rfl) ?_;focus omega) | refine jV (af rfl) ?_ | refine jV (ag rfl rfl oM) ?_ | refine aC rfl ?_) | refine ar rfl rfl rfl ?_ | (refine ac rfl (by refine decide_eq_true ?_;first | assumption | omega) ?_) | refine ad rfl rfl ?_)
    (refine am (ao (id:=11) [] (fun _ h=>absurd h (by simp)) al ?_);refine jW 9 [0,1,2,3,5,6,7,9] (aa 17 751) ?_;(refine jG (aa 17 1007) 8 rfl (aj rfl rfl aS rfl rfl) ?_);((refine jG (aa 17 2031) 10 rfl (ag rfl rfl ?_) ?_;focus omega));((refine jG (aa 17 4079) 11 rfl (bW rfl rfl aS ?_ aS rfl) ?_;focus omega));refine b8 [4,12] kR dC ⟨?_,?_,trivial⟩;(focus (refine aO rfl rfl ?_;(refine aD rfl ?_);refine jK (aa 17 4095) ?_;refine jA 12 rfl ?_;(refine jF fun _=>?_);refine jK (aa 17 8191) ?_;refine jA 13 rfl ?_;((refine bD rfl rfl rfl rfl rfl rfl rfl rfl rfl ?_ fun _ _=>?_;focus omega));refine jK (aa 17 16383) ?_;refine jW 1 [14,15] (aa 17 65535) ?_;refine jA 16 rfl ?_;(refine jD rfl rfl rfl ?_);refine jK (aa 17 131071) ?_;refine jQ ?_));rotate_left 1;(focus (refine aO rfl rfl ?_;(refine jF fun _=>?_);refine jK (aa 17 8175) ?_;refine jA 4 rfl ?_;(refine aD rfl ?_);refine jK (aa 17 8191) ?_;refine jA 13 rfl ?_;((refine bD rfl rfl rfl rfl rfl rfl rfl rfl rfl ?_ fun _ _=>?_;focus omega));refine jK (aa 17 16383) ?_;refine jW 1 [14,15] (aa 17 65535) ?_;refine jA 16 rfl ?_;(refine jD rfl rfl rfl ?_);refine jK (aa 17 131071) ?_;refine jQ ?_));rotate_left 1)
    all_goals repeat' (refine jR ?_)
    all_goals (refine am (ao (id:=12) [] (fun _ h=>absurd h (by simp)) al ?_);refine jW 9 [0,1,2,3,5,6,7,9] (aa 17 751) ?_;(refine jG (aa 17 1007) 8 rfl (aj rfl rfl aS rfl rfl) ?_);((refine jG (aa 17 2031) 10 rfl (ag rfl rfl ?_) ?_;focus omega));((refine jG (aa 17 4079) 11 rfl (bW rfl rfl aS ?_ aS rfl) ?_;focus omega));refine b8 [4,12] kR dC ⟨?_,?_,trivial⟩;(focus (refine aO rfl rfl ?_;(refine aD rfl ?_);refine jK (aa 17 4095) ?_;refine jA 12 rfl ?_;(refine jF fun _=>?_);refine jK (aa 17 8191) ?_;refine jA 13 rfl ?_;((refine bD rfl rfl rfl rfl rfl rfl rfl rfl rfl ?_ fun _ _=>?_;focus omega));refine jK (aa 17 16383) ?_;refine jW 1 [14,15] (aa 17 65535) ?_;refine jA 16 rfl ?_;(refine jD rfl rfl rfl ?_);refine jK (aa 17 131071) ?_;refine jQ ?_));rotate_left 1;(focus (refine aO rfl rfl ?_;(refine jF fun _=>?_);refine jK (aa 17 8175) ?_;refine jA 4 rfl ?_;(refine aD rfl ?_);refine jK (aa 17 8191) ?_;refine jA 13 rfl ?_;((refine bD rfl rfl rfl rfl rfl rfl rfl rfl rfl ?_ fun _ _=>?_;focus omega));refine jK (aa 17 16383) ?_;refine jW 1 [14,15] (aa 17 65535) ?_;refine jA 16 rfl ?_;(refine jD rfl rfl rfl ?_);refine jK (aa 17 131071) ?_;refine jQ ?_));rotate_left 1)
    all_goals repeat' (refine jM ?_)
    all_goals
     rename_i _ y1 yc1 _ y2 yc2
     rw [hap1,hap2]
     exact bh (gs ++ [ab ps i],some ⟨y1,0,none⟩,yc1,some ⟨y2,0,none⟩,yc2,true,i + 1) ⟨⟨by dsimp only;omega,by dsimp only;omega⟩,hinv⟩ (by dsimp only;omega) tU rfl (by rw [hl1];repeat (first | exact List.Sublist.refl _ | apply List.Sublist.cons_cons | apply List.Sublist.cons))
  | false =>
   rw [Bool.false_or] at hinv
   by_cases hgt : f.tag < dE (ab ps i)
   ·rw [if_pos ⟨hgt,rfl⟩,decide_eq_true hgt,if_neg oM,← List.append_assoc,← List.append_assoc] at hinv
    have hne : ¬ dE (ab ps i) = f.tag:=oM
    repeat' (first | refine jR ?_ | (refine jo ?_;first | refine aD rfl ?_ | refine jV (aj rfl rfl aS rfl rfl) ?_ | (refine jV (bW rfl rfl aS ?_ aS rfl) ?_;focus omega) | refine jV (af rfl) ?_ | refine jV (ag rfl rfl oM) ?_ | refine aM rfl ?_ | refine jF fun _=>?_ | refine bD rfl rfl rfl rfl rfl rfl rfl rfl rfl oM fun _ _=>?_ | refine jD rfl rfl rfl ?_) | refine aF rfl rfl rfl ?_ | (refine ac rfl (by refine decide_eq_true ?_;first | assumption | omega) ?_))
    (refine am (ao (id:=11) [] (fun _ h=>absurd h (by simp)) al ?_);refine jW 9 [0,1,2,3,5,6,7,9] (aa 17 751) ?_;(refine jG (aa 17 1007) 8 rfl (aj rfl rfl aS rfl rfl) ?_);((refine jG (aa 17 2031) 10 rfl (ag rfl rfl ?_) ?_;focus omega));((refine jG (aa 17 4079) 11 rfl (bW rfl rfl aS ?_ aS rfl) ?_;focus omega));refine b8 [4,12] kR dC ⟨?_,?_,trivial⟩;(focus (refine aO rfl rfl ?_;(refine aD rfl ?_);refine jK (aa 17 4095) ?_;refine jA 12 rfl ?_;(refine jF fun _=>?_);refine jK (aa 17 8191) ?_;refine jA 13 rfl ?_;((refine bD rfl rfl rfl rfl rfl rfl rfl rfl rfl ?_ fun _ _=>?_;focus omega));refine jK (aa 17 16383) ?_;refine jW 1 [14,15] (aa 17 65535) ?_;refine jA 16 rfl ?_;(refine jD rfl rfl rfl ?_);refine jK (aa 17 131071) ?_;refine jQ ?_));rotate_left 1;(focus (refine aO rfl rfl ?_;(refine jF fun _=>?_);refine jK (aa 17 8175) ?_;refine jA 4 rfl ?_;(refine aD rfl ?_);refine jK (aa 17 8191) ?_;refine jA 13 rfl ?_;((refine bD rfl rfl rfl rfl rfl rfl rfl rfl rfl ?_ fun _ _=>?_;focus omega));refine jK (aa 17 16383) ?_;refine jW 1 [14,15] (aa 17 65535) ?_;refine jA 16 rfl ?_;(refine jD rfl rfl rfl ?_);refine jK (aa 17 131071) ?_;refine jQ ?_));rotate_left 1)
    all_goals repeat' (refine jR ?_)
    all_goals (refine am (ao (id:=12) [] (fun _ h=>absurd h (by simp)) al ?_);refine jW 9 [0,1,2,3,5,6,7,9] (aa 17 751) ?_;(refine jG (aa 17 1007) 8 rfl (aj rfl rfl aS rfl rfl) ?_);((refine jG (aa 17 2031) 10 rfl (ag rfl rfl ?_) ?_;focus omega));((refine jG (aa 17 4079) 11 rfl (bW rfl rfl aS ?_ aS rfl) ?_;focus omega));refine b8 [4,12] kR dC ⟨?_,?_,trivial⟩;(focus (refine aO rfl rfl ?_;(refine aD rfl ?_);refine jK (aa 17 4095) ?_;refine jA 12 rfl ?_;(refine jF fun _=>?_);refine jK (aa 17 8191) ?_;refine jA 13 rfl ?_;((refine bD rfl rfl rfl rfl rfl rfl rfl rfl rfl ?_ fun _ _=>?_;focus omega));refine jK (aa 17 16383) ?_;refine jW 1 [14,15] (aa 17 65535) ?_;refine jA 16 rfl ?_;(refine jD rfl rfl rfl ?_);refine jK (aa 17 131071) ?_;refine jQ ?_));rotate_left 1;(focus (refine aO rfl rfl ?_;(refine jF fun _=>?_);refine jK (aa 17 8175) ?_;refine jA 4 rfl ?_;(refine aD rfl ?_);refine jK (aa 17 8191) ?_;refine jA 13 rfl ?_;((refine bD rfl rfl rfl rfl rfl rfl rfl rfl rfl ?_ fun _ _=>?_;focus omega));refine jK (aa 17 16383) ?_;refine jW 1 [14,15] (aa 17 65535) ?_;refine jA 16 rfl ?_;(refine jD rfl rfl rfl ?_);refine jK (aa 17 131071) ?_;refine jQ ?_));rotate_left 1)
    all_goals repeat' (refine jM ?_)
    all_goals
     rename_i _ y1 yc1 _ y2 yc2 _ y3 yc3 _ y4 yc4
     rw [show ak cH (gs.map dE) ++ [I f.tag] = ak cH ((gs ++ [((f,z),zb)]).map dE) from hap1 gs ((f,z),zb),show ak dw (gs.map (·.2)) ++ [Pt zb 0] = ak dw ((gs ++ [((f,z),zb)]).map (·.2)) from hap2 gs ((f,z),zb),hap1,hap2]
     exact bh (gs ++ [((f,z),zb)] ++ [ab ps i],some ⟨y3,0,none⟩,yc3,some ⟨y4,0,none⟩,yc4,true,i + 1) ⟨⟨by dsimp only;omega,by dsimp only;omega⟩,hinv⟩ (by dsimp only;omega) tU rfl (by rw [hl2];repeat (first | exact List.Sublist.refl _ | apply List.Sublist.cons_cons | apply List.Sublist.cons))
   ·rw [if_neg (by simp [hgt]),decide_eq_false hgt,List.nil_append] at hinv
    by_cases hne : dE (ab ps i) = f.tag
    ·rw [if_pos hne,List.nil_append] at hinv
     repeat' (first | refine jM ?_ | (refine jo ?_;first | refine jV (aj rfl rfl aS rfl rfl) ?_ | (refine jV (bW rfl rfl aS ?_ aS rfl) ?_;focus omega) | refine jV (af rfl) ?_ | refine jV (ag rfl rfl oM) ?_ | refine aM rfl ?_) | refine aF rfl rfl rfl ?_ | refine ac rfl (ay oM) ?_ | (refine ad rfl (by refine decide_eq_false ?_;first | assumption | omega) ?_))
     exact bh (gs,a3,c3,a4,c4,false,i + 1) ⟨⟨by dsimp only;omega,by dsimp only;omega⟩,hinv⟩ (by dsimp only;omega) tU rfl a7
    ·rw [if_neg hne,← List.append_assoc] at hinv
     repeat' (first | refine jR ?_ | (refine jo ?_;first | refine jV (aj rfl rfl aS rfl rfl) ?_ | (refine jV (bW rfl rfl aS ?_ aS rfl) ?_;focus omega) | refine jV (af rfl) ?_ | refine jV (ag rfl rfl oM) ?_ | refine aM rfl ?_) | refine aF rfl rfl rfl ?_ | (refine ac rfl (by refine decide_eq_true ?_;first | assumption | omega) ?_) | refine ad rfl (aG ‹_›) ?_)
     (refine am (ao (id:=11) [] (fun _ h=>absurd h (by simp)) al ?_);refine jW 9 [0,1,2,3,5,6,7,9] (aa 17 751) ?_;(refine jG (aa 17 1007) 8 rfl (aj rfl rfl aS rfl rfl) ?_);((refine jG (aa 17 2031) 10 rfl (ag rfl rfl ?_) ?_;focus omega));((refine jG (aa 17 4079) 11 rfl (bW rfl rfl aS ?_ aS rfl) ?_;focus omega));refine b8 [4,12] kR dC ⟨?_,?_,trivial⟩;(focus (refine aO rfl rfl ?_;(refine aD rfl ?_);refine jK (aa 17 4095) ?_;refine jA 12 rfl ?_;(refine jF fun _=>?_);refine jK (aa 17 8191) ?_;refine jA 13 rfl ?_;((refine bD rfl rfl rfl rfl rfl rfl rfl rfl rfl ?_ fun _ _=>?_;focus omega));refine jK (aa 17 16383) ?_;refine jW 1 [14,15] (aa 17 65535) ?_;refine jA 16 rfl ?_;(refine jD rfl rfl rfl ?_);refine jK (aa 17 131071) ?_;refine jQ ?_));rotate_left 1;(focus (refine aO rfl rfl ?_;(refine jF fun _=>?_);refine jK (aa 17 8175) ?_;refine jA 4 rfl ?_;(refine aD rfl ?_);refine jK (aa 17 8191) ?_;refine jA 13 rfl ?_;((refine bD rfl rfl rfl rfl rfl rfl rfl rfl rfl ?_ fun _ _=>?_;focus omega));refine jK (aa 17 16383) ?_;refine jW 1 [14,15] (aa 17 65535) ?_;refine jA 16 rfl ?_;(refine jD rfl rfl rfl ?_);refine jK (aa 17 131071) ?_;refine jQ ?_));rotate_left 1)
     all_goals repeat' (refine jR ?_)
     all_goals (refine am (ao (id:=12) [] (fun _ h=>absurd h (by simp)) al ?_);refine jW 9 [0,1,2,3,5,6,7,9] (aa 17 751) ?_;(refine jG (aa 17 1007) 8 rfl (aj rfl rfl aS rfl rfl) ?_);((refine jG (aa 17 2031) 10 rfl (ag rfl rfl ?_) ?_;focus omega));((refine jG (aa 17 4079) 11 rfl (bW rfl rfl aS ?_ aS rfl) ?_;focus omega));refine b8 [4,12] kR dC ⟨?_,?_,trivial⟩;(focus (refine aO rfl rfl ?_;(refine aD rfl ?_);refine jK (aa 17 4095) ?_;refine jA 12 rfl ?_;(refine jF fun _=>?_);refine jK (aa 17 8191) ?_;refine jA 13 rfl ?_;((refine bD rfl rfl rfl rfl rfl rfl rfl rfl rfl ?_ fun _ _=>?_;focus omega));refine jK (aa 17 16383) ?_;refine jW 1 [14,15] (aa 17 65535) ?_;refine jA 16 rfl ?_;(refine jD rfl rfl rfl ?_);refine jK (aa 17 131071) ?_;refine jQ ?_));rotate_left 1;(focus (refine aO rfl rfl ?_;(refine jF fun _=>?_);refine jK (aa 17 8175) ?_;refine jA 4 rfl ?_;(refine aD rfl ?_);refine jK (aa 17 8191) ?_;refine jA 13 rfl ?_;((refine bD rfl rfl rfl rfl rfl rfl rfl rfl rfl ?_ fun _ _=>?_;focus omega));refine jK (aa 17 16383) ?_;refine jW 1 [14,15] (aa 17 65535) ?_;refine jA 16 rfl ?_;(refine jD rfl rfl rfl ?_);refine jK (aa 17 131071) ?_;refine jQ ?_));rotate_left 1)
     all_goals repeat' (refine jM ?_)
     all_goals
      rename_i _ y1 yc1 _ y2 yc2
      rw [hap1,hap2]
      exact bh (gs ++ [ab ps i],some ⟨y1,0,none⟩,yc1,some ⟨y2,0,none⟩,yc2,false,i + 1) ⟨⟨by dsimp only;omega,by dsimp only;omega⟩,hinv⟩ (by dsimp only;omega) tU rfl (by rw [hl1];repeat (first | exact List.Sublist.refl _ | apply List.Sublist.cons_cons | apply List.Sublist.cons))
 ·rw [List.drop_eq_nil_of_le oM] at hinv
  cases d with
  | true =>
   rw [show da dE ((f,z),zb) f.tag [] true = [] from rfl,List.append_nil] at hinv
   repeat' (first | refine jR ?_ | (refine jo ?_;first | refine jV (aj rfl rfl aS rfl rfl) ?_ | refine jV (af rfl) ?_) | (refine ad rfl (by first | rfl | (refine decide_eq_false ?_;(omega))) ?_))
   refine Nx.sealS (v:=.slice a3 gs.length c3) fun G2 hG2 hs1=>?_
   refine Nx.sealS (v:=.slice a4 gs.length c4) fun G3 hG3 hs2=>?_
   refine Nx.sealC (b:=x) fun G4 hG4 hsg=>?_
   refine jZ (vs:=[_]) rfl ⟨rfl,trivial⟩ rfl ⟨((hG2.trans hG3).trans hG4),rfl,?_⟩
   exact ⟨x,rfl,by rw [hinv];exact qv hrf hso hsg ((hs1.mono hG3).mono hG4) (hs2.mono hG4) fun p hp=>hmem ((hG2.trans hG3).trans hG4) (by rw [hinv];exact hp)⟩
  | false =>
   rw [show da dE ((f,z),zb) f.tag [] false = [((f,z),zb)] from rfl] at hinv
   have hl1 : (gs ++ [((f,z),zb)]).length = gs.length + 1:=by simp
   repeat' (first | refine jR ?_ | (refine jo ?_;first | refine aD rfl ?_ | refine jV (aj rfl rfl aS rfl rfl) ?_ | refine jV (af rfl) ?_ | refine jF fun _=>?_ | refine bD rfl rfl rfl rfl rfl rfl rfl rfl rfl oM fun _ _=>?_ | refine jD rfl rfl rfl ?_) | refine ac rfl rfl ?_ | refine ad rfl (aG oM) ?_)
   rename_i _ y1 yc1 _ y2 yc2
   rw [show ak cH (gs.map dE) ++ [I f.tag] = ak cH ((gs ++ [((f,z),zb)]).map dE) from hap1 gs ((f,z),zb),show ak dw (gs.map (·.2)) ++ [Pt zb 0] = ak dw ((gs ++ [((f,z),zb)]).map (·.2)) from hap2 gs ((f,z),zb),← hl1]
   refine Nx.sealS (v:=.slice (some ⟨y1,0,none⟩) (gs ++ [((f,z),zb)]).length yc1) fun G2 hG2 hs1=>?_
   refine Nx.sealS (v:=.slice (some ⟨y2,0,none⟩) (gs ++ [((f,z),zb)]).length yc2) fun G3 hG3 hs2=>?_
   refine Nx.sealC (b:=x) fun G4 hG4 hsg=>?_
   refine jZ (vs:=[_]) rfl ⟨rfl,trivial⟩ rfl ⟨((hG2.trans hG3).trans hG4),rfl,?_⟩
   exact ⟨x,rfl,by rw [hinv];exact qv hrf hso hsg ((hs1.mono hG3).mono hG4) (hs2.mono hG4) fun p hp=>hmem ((hG2.trans hG3).trans hG4) (by rw [hinv];exact hp)⟩
end
variable {ts : List Ty}
theorem rz {fs : List Fld} {n : Int} {d : Fld} (h : ck fs n = some d) : d.tag = n ∧ d ∈ fs:=⟨by have:=List.find?_some h;simpa using this,List.mem_of_find?_eq_some h⟩
theorem r8 : ∀ {ks : List V} {i : Nat} {y : V},i < ks.length → V.tots (ks.set i y) + (ab ks i).tot = V.tots ks + y.tot
 | [],i,y,h=>by simp at h
 | v :: ks,0,y,_=>by rw [List.set_cons_zero,V.tots,V.tots,show ab (v :: ks) 0 = v from rfl];omega
 | v :: ks,i + 1,y,h=>by
  have:=r8 (ks:=ks) (i:=i) (y:=y) (by simpa using h)
  rw [List.set_cons_succ,V.tots,V.tots,show ab (v :: ks) (i + 1) = ab ks i from rfl];omega
theorem sP {f : Fld} {y : V} : V.tots (nf ts f y) ≤ 20 + y.tot:=by
 unfold nf
 split
 ·simp [V.tots]
 ·simp [V.tots,bA]
theorem sy {f : Fld} {y : V} : ∀ {vs : List V},V.tots (dG ts f y vs) ≤ V.tots vs + 20 + y.tot
 | []=>by rw [eU];have:=sP (ts:=ts) (f:=f) (y:=y);simp only [V.tots];omega
 | v :: vs=>by
  have h1:=sP (ts:=ts) (f:=f) (y:=y)
  have h2:=sy (f:=f) (y:=y) (vs:=vs)
  rw [dH]
  split
  ·rw [V.tots,V.tots];omega
  ·rw [dY]
   split
   ·rw [V.tots];omega
   ·rw [V.tots];omega
theorem xU (v : V) : (ab v.kids 0).tot ≤ v.tot:=by
 obtain ⟨w,x,t,ks⟩:=v
 rw [bA,V.kids]
 cases ks with
 | nil =>
  have : (ab ([] : List V) 0).tot = 20:=by show V.tot (.nd 0 [] 0 []) = 20;rw [bA];simp [V.tots]
  omega
 | cons u ks=>rw [V.tots,show ab (u :: ks) 0 = u from rfl];omega
theorem rf {f : Fld} {y u : V} : ∀ {vs : List V},nL vs → cq f vs = some u → V.tots (dG ts f y vs) + u.tot ≤ V.tots vs + 20 + y.tot
 | [],_,h=>by cases h
 | v :: vs,hs,h=>by
  replace hs:=List.pairwise_cons.1 hs
  have h1:=sP (ts:=ts) (f:=f) (y:=y)
  rw [cq] at h
  rw [dH]
  by_cases he : v.tag = f.tag
  ·rw [if_pos he] at h
   simp only [Option.some.injEq] at h
   have h3:=xU v
   rw [h] at h3
   rw [if_neg oM,if_pos he,dY,V.tots];omega
  ·rw [if_neg he] at h
   by_cases hl : v.tag < f.tag
   ·have h2:=rf (y:=y) hs.2 h
    rw [if_pos hl,V.tots,V.tots];omega
   ·rw [lP fun z hz=>by have:=hs.1 z hz;omega] at h
    cases h
theorem xC (hw : SchW ts) {k : adA} {v : V} (h : OfK ts k v) (hk : aB ts k = true) {n : Int} (hn : 0 ≤ n) {k1 : adA} {v1 : V} (e : aE ts k v n = some (k1,v1)) (y : V) :
  (cN ts k v n y).tot + v1.tot ≤ v.tot + 40 + y.tot ∨ (v1.tot ≤ 40000 ∧ (cN ts k v n y).tot ≤ v.tot + 40 + y.tot):=by
 obtain ⟨c,r,rfl⟩:=d7 hk
 unfold aE at e
 dsimp only at e
 split at e
 ·rename_i hc
  split at e
  ·rename_i hlt
   simp only [Option.some.injEq,Prod.mk.injEq] at e
   obtain ⟨rfl,rfl⟩:=e
   rcases dg h oM with ⟨g1,_⟩ | ⟨g1,_⟩ | ⟨g1,_⟩ | ⟨g1,ks,g2,g3,rfl⟩ | ⟨g1,rfl | ⟨u,g3,rfl⟩⟩
   ·omega
   ·omega
   ·omega
   ·rw [V.kids] at hlt ⊢
    have hs:=r8 (ks:=ks) (i:=n.toNat) (y:=y) oM
    unfold cN
    rw [V.what,if_neg dC,if_pos rfl,V.kids,bA,bA]
    left;omega
   ·simp [V.kids] at hlt;omega
   ·simp [V.kids] at hlt
    obtain rfl : n = 0:=oM
    unfold cN
    rw [V.what,if_neg dC,if_neg dC,V.kids,bA,bA]
    left
    simp only [V.tots]
    show 20 + _ + (y.tot + 0) + u.tot ≤ _
    omega
  ·cases e
 ·split at e
  ·cases e
  ·rename_i t hr
   have ht:=br hr
   split at e
   ·cases e
   ·rename_i f hf
    have hfm:=List.mem_of_find?_eq_some hf
    split at e
    ·cases e
    ·rename_i h69
     split at e
     ·rename_i h82
      simp only [Option.some.injEq,Prod.mk.injEq] at e
      obtain ⟨rfl,rfl⟩:=e
      rcases bL h hr with ⟨_,fs,rfl,g3,g4,g5,g6⟩ | ⟨g1,_⟩ | ⟨g1,_⟩
      ·have e1 : cN ts (c :: r) (.nd 82 [] 0 (fs.map aw)) n y = .nd 82 [] 0 (dG ts f y (fs.map aw)):=by
        unfold cN;rw [V.what,if_pos rfl,hr]
        dsimp only
        rw [hf];rfl
       rw [e1,bA,bA]
       unfold dP
       rw [V.kids]
       cases hto : cq f (fs.map aw) with
       | none =>
        have h1:=sy (ts:=ts) (f:=f) (y:=y) (vs:=fs.map aw)
        have h2:=px hw ht h69 hfm
        right
        refine ⟨h2,?_⟩
        omega
       | some u =>
        have h1:=rf (ts:=ts) (y:=y) (pA g6) hto
        left
        show _ + u.tot ≤ _
        omega
      ·omega
      ·omega
     ·rename_i h82
      split at e
      ·simp only [Option.some.injEq,Prod.mk.injEq] at e
       obtain ⟨rfl,rfl⟩:=e
       rcases bL h hr with ⟨h1,_⟩ | ⟨h1,_⟩ | ⟨_,_,d,u,rfl,g4,g5⟩
       ·omega
       ·omega
       ·unfold cN
        rw [V.what,if_neg dC,if_neg dC,V.kids,bA,bA]
        left
        simp only [V.tots]
        show 20 + _ + (y.tot + 0) + u.tot ≤ _
        omega
      ·cases e
theorem gP (hw : SchW ts) : ∀ {p : List Int} {k : adA} {v y : V} {k' : adA} {v' : V},OfK ts k v → aB ts k = true → (∀ n ∈ p,0 ≤ n) → bi ts k v p = some (k',v') → (bH ts k v p y).tot ≤ v.tot + 40040 * p.length + y.tot
 | [],k,v,y,k',v',h,hk,_,e=>by rw [bH];omega
 | n :: p,k,v,y,k',v',h,hk,hp,e=>by
  unfold bi at e
  cases hs : aE ts k v n with
  | none=>rw [hs] at e;cases e
  | some x =>
   rw [hs] at e
   obtain ⟨k1,v1⟩:=x
   have hn:=hp n (by simp)
   obtain ⟨h1,h2⟩:=cL hw h hk hn hs
   have ih:=gP hw (y:=y) h1 h2 (fun m hm=>hp m (by simp [hm])) e
   rw [dA hs,List.length_cons]
   rcases xC hw h hk hn hs (bH ts k1 v1 p y) with g | ⟨g1,g2⟩
   ·omega
   ·omega
end Go.E
