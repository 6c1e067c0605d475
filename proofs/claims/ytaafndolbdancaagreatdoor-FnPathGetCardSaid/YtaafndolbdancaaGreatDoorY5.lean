/- Contracts and plain laws that the statement rests on, part 5. Conditions: as each says. -/
import Derived.Test.YtaafndolbdancaaGreatDoorY4
set_option linter.unusedVariables false
set_option linter.unusedSimpArgs false
namespace Go.E
set_option maxRecDepth 20000
set_option maxHeartbeats 2000000
open Go.Proofs
variable {G : Gh}
theorem valOf_of {ts : List Ty} {k s : List UInt8} {u : V} {t : List UInt8} {N : Nat} (hN : 12 ≤ N) (hl : s.length ≤ 400) (h : rd ts N k s = some (u, t)) : valOf ts k s = if t = [] ∧ V.deep u ≤ 12 then some u else none := by
 unfold valOf
 rw [if_pos hl]
 cases h12 : rd ts 12 k s with
 | none =>
  dsimp only
  rw [if_neg]
  rintro ⟨_, hd⟩
  have := rd_at _ 12 k s _ h hd
  rw [h12] at this; cases this
 | some x =>
  have h1 := rd_le (m := N) hN h12
  rw [h] at h1
  have hd := rd_deep_le _ _ _ _ h12
  obtain rfl := Option.some.inj h1
  dsimp only at hd ⊢
  cases t with
  | nil => dsimp only; rw [if_pos ⟨rfl, hd⟩]
  | cons c t => dsimp only; rw [if_neg (fun h => by cases h.1)]
theorem valOf_no {ts : List Ty} {k s : List UInt8} {N : Nat} (hN : 12 ≤ N) (hl : s.length ≤ 400) (h : rd ts N k s = none) : valOf ts k s = none := by
 unfold valOf
 rw [if_pos hl]
 cases h12 : rd ts 12 k s with
 | none => rfl
 | some x => rw [rd_le (m := N) hN h12] at h; cases h
theorem c_readI {b : Nat} {qs : List TyP} {k s : List UInt8} (hS : ScI G b qs) (hw : SchW (tyq qs)) (hk : kindIn (tyq qs) k = true) (hs : s.length ≤ 10000000) :
  FnS Tryz.prog 40 [Pt b 0, Ag (kdF k), S s] G (fun v G' => (valOf (tyq qs) k s = none ∧ v = Tu [zP, Bo false]) ∨ ∃ u c, valOf (tyq qs) k s = some u ∧ v = Tu [Ag (vcF c), Bo true] ∧ V.rep G' u c) := by
 unfold kdF
 by_cases hl : s.length ≤ 400
 case neg =>
  have hno : valOf (tyq qs) k s = none := by unfold valOf; rw [if_neg hl]
  refine jB [(0, _), (1, _), (2, _)] Tryz.func40 Tryz.ntmps40 fun B hok hB hW => ?_
  repeat' (first | (refine jR ?_) | (refine jo ?_; first | refine jO fun _ => ?_ | refine jL fun _ => ?_ | refine jV (g_bld rfl rfl) ?_ | refine jC rfl rfl rfl ?_) | (refine k_tt rfl (dTt oM) ?_))
  all_goals refine jZ (vs := [_, _]) rfl ⟨rc_A rfl rfl rfl rfl, rfl, trivial⟩ rfl ⟨Gh.le.refl _, rfl, ?_⟩
  all_goals exact .inl ⟨hno, rfl⟩
 obtain ⟨N, hN⟩ : ∃ N, s.length + 12 ≤ N := ⟨_, Nat.le_refl _⟩
 have hN2 : 12 ≤ N := oM
 have hV := valC_all (sc := b) hw N
 have cy_vl : ∀ {r : Nat}, FnM Tryz.prog 83 [Pt r 0, Ag (kdF k)] G [scO r b s false] (ValP (rd (tyq qs) N k) r b s false) := fun {r} => hV G r k s false hS hk oM oM
 refine jB [(0, _), (1, _), (2, _)] Tryz.func40 Tryz.ntmps40 fun B hok hB hW => ?_
 repeat' (first | (refine jR ?_) | (refine jo ?_; first | refine jO fun _ => ?_ | refine jL fun _ => ?_ | refine jV (g_bld rfl rfl) ?_ | refine jAm rfl ?_) | (refine k_ff rfl (dFf oM) ?_))
 refine jo ?_
 rename_i r
 refine c_m1s rfl rfl rfl (cy_vl (r := r)) rfl ?_
 rintro _ G1 _ hle ⟨u1, c1, t1, b1, rfl, hrep, rfl, hP⟩
 dsimp only [zA, fA]
 obtain ⟨hPl, hP0, hP1⟩ := hP
 cases b1 with
 | true =>
  have hno : valOf (tyq qs) k s = none := valOf_no hN2 hl (by rcases (hP1 rfl).1 with h | h; cases h; exact h)
  repeat' (first | (refine jR ?_) | (refine jo ?_; first | refine jL fun _ => ?_ | refine jV (g_bld rfl rfl) ?_ | refine jC rfl rfl rfl ?_ | refine jAl rfl ?_ | (refine jAt rfl ?_)) | (refine k_gt rfl rfl rfl ?_) | (refine k_tt rfl rfl ?_))
  all_goals refine jZ (vs := [_, _]) rfl ⟨rc_A rfl rfl rfl rfl, rfl, trivial⟩ rfl ⟨hle, rfl, ?_⟩
  all_goals exact .inl ⟨hno, rfl⟩
 | false =>
  have hrd := (hP0 rfl).2
  have hof := valOf_of hN2 hl hrd
  have htt := rd_tot _ _ _ _ hrd
  dsimp only at htt
  by_cases ht : t1 = []
  case neg =>
   have hno : valOf (tyq qs) k s = none := by rw [hof, if_neg (fun h => ht h.1)]
   repeat' (first | (refine jR ?_) | (refine jo ?_; first | refine jL fun _ => ?_ | refine jV (g_bld rfl rfl) ?_ | refine jC rfl rfl rfl ?_ | refine jAl rfl ?_ | (refine jAt rfl ?_) | (refine jAf rfl ?_)) | (refine k_gt rfl rfl (dTt ‹_›) ?_) | (refine k_gf rfl rfl rfl ?_) | (refine k_tt rfl rfl ?_))
   all_goals refine jZ (vs := [_, _]) rfl ⟨rc_A rfl rfl rfl rfl, rfl, trivial⟩ rfl ⟨hle, rfl, ?_⟩
   all_goals exact .inl ⟨hno, rfl⟩
  have hnn : ¬ t1 ≠ [] := fun h => h ht
  have cx_dp := c_deep (G := G1) u1.tot (Nat.le_refl _) oM hrep
  have hdt := deep_tot u1
  by_cases hd : V.deep u1 ≤ 12
  ·have hyes : valOf (tyq qs) k s = some u1 := by rw [hof, if_pos ⟨ht, hd⟩]
   repeat' (first | (refine jR ?_) | (refine jo ?_; first | refine jL fun _ => ?_ | refine jC rfl rfl rfl ?_ | refine jAl rfl ?_ | refine jAm rfl ?_ | (refine jAf rfl ?_) | (refine c_rt rfl rfl rfl cx_dp rfl ?_)) | (refine k_gf rfl rfl (by first | rfl | (refine decide_eq_false ?_; (assumption))) ?_) | (refine k_ff rfl (dFf oM) ?_))
   all_goals refine jZ (vs := [_, _]) rfl ⟨rc_A rfl rfl rfl rfl, rfl, trivial⟩ rfl ⟨hle, rfl, ?_⟩
   all_goals exact .inr ⟨u1, c1, hyes, rfl, hrep⟩
  ·have hno : valOf (tyq qs) k s = none := by rw [hof, if_neg (fun h => hd h.2)]
   repeat' (first | (refine jR ?_) | (refine jo ?_; first | refine jL fun _ => ?_ | refine jV (g_bld rfl rfl) ?_ | refine jC rfl rfl rfl ?_ | refine jAl rfl ?_ | refine jAm rfl ?_ | (refine jAf rfl ?_) | (refine c_rt rfl rfl rfl cx_dp rfl ?_)) | (refine k_gf rfl rfl (by first | rfl | (refine decide_eq_false ?_; (assumption))) ?_) | (refine k_tt rfl (dTt oM) ?_))
   all_goals refine jZ (vs := [_, _]) rfl ⟨rc_A rfl rfl rfl rfl, rfl, trivial⟩ rfl ⟨hle, rfl, ?_⟩
   all_goals exact .inl ⟨hno, rfl⟩
theorem kindS_some2 {s k : List UInt8} (h : kindS s k = true) : ∃ ts, schemaOf s = some ts ∧ kindIn ts k = true ∧ SchW ts := by
 unfold kindS at h
 cases h1 : schemaOf s with
 | none => rw [h1] at h; cases h
 | some ts => rw [h1] at h; exact ⟨ts, rfl, h, schemaOf_w h1⟩
def givenV (s k v : List UInt8) : Option V := match schemaOf s with
 | some ts => if kindIn ts k = true then valOf ts k v else none
 | none => none
theorem c_given0 {s k w : List UInt8} (h : s.length ≤ 1048576 ∧ k.length ≤ 1048576 ∧ w.length ≤ 1048576) (hno : givenV s k w = none) : FnS Tryz.prog 29 [S s, S k, S w] G (fun v _ => ∃ p a b c, v = Tu [p, Ag [S a, S b, S c], zP, Bo false]) := by
 by_cases hk : kindS s k = true
 case neg =>
  have cx_bo1 : ∀ G, FnS Tryz.prog 23 [S s, S k] G (fun v _ => ∃ p a b c, v = Tu [p, Ag [S a, S b, S c], Bo false]) := fun G => by
   refine (c_both (G := G) (s := s) (k := k) oM oM).mono ?_
   rintro v G' L' ⟨h1, h2, ⟨_, p, a, b, c, rfl⟩ | ⟨b, qs, rfl, h4, h5, _⟩⟩
   ·exact ⟨h1, h2, p, a, b, c, rfl⟩
   ·exact absurd (by unfold kindS; rw [h4]; exact h5) hk
  refine jB [(0, _), (1, _), (2, _)] Tryz.func29 Tryz.ntmps29 fun B hok hB hW => ?_
  repeat' (first | (refine jR ?_) | (refine jo ?_; first | refine jL fun _ => ?_ | refine jC rfl rfl rfl ?_ | refine jV (g_bld rfl rfl) ?_ | (refine c_fns rfl rfl rfl (cx_bo1 _) rfl ?_; rintro _ G hle ⟨p1, a1, b1, c1, rfl⟩; skip)) | (refine k_tt rfl rfl ?_))
  all_goals refine jZ (vs := [_, _, _, _]) rfl ⟨rfl, rc_A rfl rfl rfl rfl, rc_A rfl rfl rfl rfl, rfl, trivial⟩ rfl ⟨hle, rfl, ?_⟩
  all_goals exact ⟨_, _, _, _, rfl⟩
 obtain ⟨ts, hs, hki, hw⟩ := kindS_some2 hk
 have hvo : valOf ts k w = none := by unfold givenV at hno; rw [hs] at hno; dsimp only at hno; rwa [if_pos hki] at hno
 have cx_boa : ∀ G, FnS Tryz.prog 23 [S s, S k] G (fun v G' => ∃ b qs, v = Tu [Pt b 0, Ag [S (sg k), S (bs k), S (nm k)], Bo true] ∧ tyq qs = ts ∧ ScI G' b qs) := fun G => by
  refine (c_both (G := G) (s := s) (k := k) oM oM).mono ?_
  rintro v G' L' ⟨h1, h2, ⟨h4, _⟩ | ⟨b, qs, rfl, h4, h5, h6⟩⟩
  ·rw [h4] at hk; cases hk
  ·rw [hs] at h4; exact ⟨h1, h2, b, qs, rfl, (Option.some.inj h4).symm, h6⟩
 have cx_ri0 : ∀ G b qs, tyq qs = ts → ScI G b qs → FnS Tryz.prog 40 [Pt b 0, Ag [S (sg k), S (bs k), S (nm k)], S w] G (fun v _ => v = Tu [zP, Bo false]) := fun G b qs hq hS => by
  subst hq
  refine (c_readI (G := G) (b := b) (s := w) hS hw hki oM).mono ?_
  rintro v G' L' ⟨h1, h2, ⟨_, rfl⟩ | ⟨u, c, h4, _⟩⟩
  ·exact ⟨h1, h2, rfl⟩
  ·rw [hvo] at h4; cases h4
 refine jB [(0, _), (1, _), (2, _)] Tryz.func29 Tryz.ntmps29 fun B hok hB hW => ?_
 repeat' (first | (refine jR ?_) | (refine jo ?_; first | refine jL fun _ => ?_ | refine jC rfl rfl rfl ?_ | refine jAm rfl ?_ | (refine c_fns rfl rfl rfl (cx_boa _) rfl ?_; rintro _ G hle ⟨ba, qa, rfl, hT1, hR1⟩; skip) | (refine c_fns rfl rfl rfl ((cx_ri0 _ _ _) (by (repeat (assumption)); done) (by (repeat (assumption)); done)) rfl ?_; rintro _ G hle rfl; skip)) | (refine k_ff rfl rfl ?_) | (refine k_any (s_anyD (id := 5) (tt := 7) rfl mixed ?_); refine jW 5 [0, 3, 4] (bts 8 25) ?_; (refine jG (bts 8 27) 1 rfl (g_ldA rfl rfl rfl rfl) ?_); (refine jG (bts 8 31) 2 rfl (g_ldA rfl rfl rfl rfl) ?_); refine jA 5 rfl ?_; (refine jC rfl rfl rfl ?_); refine jK (bts 8 63) ?_; refine jA 6 rfl ?_; (refine jC rfl rfl rfl ?_); refine jK (bts 8 127) ?_; refine jW 0 [7] (bts 8 255) ?_; refine jQ ?_))
 all_goals refine jZ (vs := [_, _, _, _]) rfl ⟨rfl, rc_A rfl rfl rfl rfl, rc_A rfl rfl rfl rfl, rfl, trivial⟩ rfl ⟨(Gh.le.trans aS hle), rfl, ?_⟩
 all_goals exact ⟨_, _, _, _, rfl⟩
theorem c_given1 {s k w : List UInt8} {u : V} {ts : List Ty} (h : s.length ≤ 1048576 ∧ k.length ≤ 1048576 ∧ w.length ≤ 1048576) (hs : schemaOf s = some ts) (hki : kindIn ts k = true) (hvo : valOf ts k w = some u) :
  FnS Tryz.prog 29 [S s, S k, S w] G (fun v G' => ∃ b qs cv, v = Tu [Pt b 0, Ag [S (sg k), S (bs k), S (nm k)], Ag (vcF cv), Bo true] ∧ tyq qs = ts ∧ ScI G' b qs ∧ V.rep G' u cv) := by
 have hw := schemaOf_w hs
 have hk : kindS s k = true := by unfold kindS; rw [hs]; exact hki
 have cx_boa : ∀ G, FnS Tryz.prog 23 [S s, S k] G (fun v G' => ∃ b qs, v = Tu [Pt b 0, Ag [S (sg k), S (bs k), S (nm k)], Bo true] ∧ tyq qs = ts ∧ ScI G' b qs) := fun G => by
  refine (c_both (G := G) (s := s) (k := k) oM oM).mono ?_
  rintro v G' L' ⟨h1, h2, ⟨h4, _⟩ | ⟨b, qs, rfl, h4, h5, h6⟩⟩
  ·rw [h4] at hk; cases hk
  ·rw [hs] at h4; exact ⟨h1, h2, b, qs, rfl, (Option.some.inj h4).symm, h6⟩
 have cx_ri1 : ∀ G b qs, tyq qs = ts → ScI G b qs → FnS Tryz.prog 40 [Pt b 0, Ag [S (sg k), S (bs k), S (nm k)], S w] G (fun v G' => ∃ cv, v = Tu [Ag (vcF cv), Bo true] ∧ V.rep G' u cv) := fun G b qs hq hS => by
  subst hq
  refine (c_readI (G := G) (b := b) (s := w) hS hw hki oM).mono ?_
  rintro v G' L' ⟨h1, h2, ⟨h4, _⟩ | ⟨u', c, h4, rfl, h5⟩⟩
  ·rw [hvo] at h4; cases h4
  ·rw [hvo] at h4; obtain rfl := Option.some.inj h4; exact ⟨h1, h2, c, rfl, h5⟩
 refine jB [(0, _), (1, _), (2, _)] Tryz.func29 Tryz.ntmps29 fun B hok hB hW => ?_
 repeat' (first | (refine jR ?_) | (refine jo ?_; first | refine jL fun _ => ?_ | refine jC rfl rfl rfl ?_ | refine jAm rfl ?_ | (refine c_fns rfl rfl rfl (cx_boa _) rfl ?_; rintro _ G hle ⟨ba, qa, rfl, hT1, hR1⟩; skip) | (refine c_fns rfl rfl rfl ((cx_ri1 _ _ _) (by (repeat (assumption)); done) (by (repeat (assumption)); done)) rfl ?_; rintro _ G hle ⟨cv, rfl, hrv⟩; skip)) | (refine k_ff rfl rfl ?_))
 rename_i x7 x8 Ga hla x11 x13
 dsimp only [vcF, VC.sl]
 (refine k_any (s_any (id := 5) [.blk x13 (.cells (List.toArray [U8 (cv.what : Nat), S cv.text, I cv.tag, .slice cv.a cv.n cv.c]) tVal (0, 0)), .blk x11 (.cells (List.toArray [S (sg k), S (bs k), S (nm k)]) tKnd (0, 0))] (by intro y hy; simp only [List.mem_cons, List.not_mem_nil, or_false] at hy ⊢; rcases hy with hy | hy <;> simp [hy]) mixed ?_); refine jW 5 [0, 3, 4] (bts 8 25) ?_; (refine jG (bts 8 27) 1 rfl (g_ldA rfl rfl rfl rfl) ?_); (refine jG (bts 8 31) 2 rfl (g_ldA rfl rfl rfl rfl) ?_); refine jA 5 rfl ?_; (refine jC rfl rfl rfl ?_); refine jK (bts 8 63) ?_; refine jA 6 rfl ?_; (refine jC rfl rfl rfl ?_); refine jK (bts 8 127) ?_; refine jW 0 [7] (bts 8 255) ?_; refine jQ ?_)
 all_goals repeat' (refine jR ?_)
 all_goals refine jZ (vs := [_, _, _, _]) rfl ⟨rfl, rc_A rfl rfl rfl rfl, rc_A rfl rfl rfl rfl, rfl, trivial⟩ rfl ⟨(Gh.le.trans aS hle), rfl, ?_⟩
 all_goals exact ⟨ba, qa, cv, rfl, hT1, hR1.mono hle, hrv⟩
def ptR (b : Nat) : List Value := [Pt b 0]
instance : RowF ptR 1 := ⟨fun _ => rfl⟩
def inR (n : Int) : List Value := [I n]
instance : RowF inR 1 := ⟨fun _ => rfl⟩
abbrev tSt2 : TypeId := 9
abbrev tLv : TypeId := 76
inductive RepR (G : Gh) (ts : List Ty) : V → List UInt8 → Nat → Prop
 | leaf (w : Nat) (x k tx : List UInt8) (b : Nat) : Seg G b 0 [S k, S tx, nilS, nilS] → ((w = 110 ∧ k = [110] ∧ tx = x ∧ ∀ c ∈ x, isDg c = true) ∨ (w = 116 ∧ k = [116] ∧ tx = 39 :: (x ++ [39])) ∨ (w = 102 ∧ k = [102] ∧ tx = x ∧ (x = [121, 101, 115] ∨ x = [110, 111]))) → RepR G ts (.nd w x 0 []) k b
 | lst (k : List UInt8) (b : Nat) (ks : List V) (bs : List Nat) (a : Option Addr) (c : Nat) : Seg G b 0 [S (91 :: k), S [], nilS, .slice a ks.length c] → SlV G (.slice a ks.length c) 1 ks.length (rows ptR bs) → bs.length = ks.length → (∀ i, i < ks.length → RepR G ts (nth ks i) k (nth bs i)) → RepR G ts (.nd 91 [] 0 ks) (91 :: k) b
 | non (k : List UInt8) (b : Nat) : Seg G b 0 [S (63 :: k), S [], nilS, nilS] → RepR G ts (.nd 63 [] 0 []) (63 :: k) b
 | opt (k : List UInt8) (b kb b' cc : Nat) (v : V) : 1 ≤ cc → Seg G b 0 [S (63 :: k), S [], nilS, .slice (some ⟨kb, 0, none⟩) 1 cc] → Seg G kb 0 [Pt b' 0] → RepR G ts v k b' → RepR G ts (.nd 63 [] 0 [v]) (63 :: k) b
 | recd (k : List UInt8) (b : Nat) (t : Ty) (fs : List (Fld × V)) (bs : List Nat) (a a2 : Option Addr) (c c2 : Nat) : refT ts k = some t ∧ t.sort = 82 → Seg G b 0 [S k, S [82], .slice a fs.length c, .slice a2 fs.length c2] → SlV G (.slice a fs.length c) 1 fs.length (rows inR (fs.map fun p => p.1.tag)) → SlV G (.slice a2 fs.length c2) 1 fs.length (rows ptR bs) → bs.length = fs.length → (∀ i, i < fs.length → (nth fs i).1 ∈ t.fields) → (∀ i, i < fs.length → RepR G ts (nth fs i).2 (nth fs i).1.kind (nth bs i)) → RepR G ts (.nd 82 [] 0 (fs.map fun p => .nd 61 [] p.1.tag [p.2])) k b
 | enm (k : List UInt8) (b tb : Nat) (t : Ty) (d : Fld) {tc : Nat} : refT ts k = some t ∧ t.sort = 69 → d ∈ t.fields → Seg G b 0 [S k, S [69], .slice (some ⟨tb, 0, none⟩) 1 (tc + 1), nilS] → Seg G tb 0 [I d.tag] → RepR G ts (.nd 69 [] d.tag []) k b
 | uni (k : List UInt8) (b tb kb b' cc : Nat) (t : Ty) (d : Fld) (v : V) {tc : Nat} : 1 ≤ cc → refT ts k = some t ∧ t.sort = 85 → d ∈ t.fields → Seg G b 0 [S k, S [85], .slice (some ⟨tb, 0, none⟩) 1 (tc + 1), .slice (some ⟨kb, 0, none⟩) 1 cc] → Seg G tb 0 [I d.tag] → Seg G kb 0 [Pt b' 0] → RepR G ts v d.kind b' → RepR G ts (.nd 85 [] d.tag [v]) k b
theorem RepR.mono {G G' : Gh} {ts : List Ty} (hl : Gh.le G G') {v : V} {k : List UInt8} {b : Nat} (h : RepR G ts v k b) : RepR G' ts v k b := by
 induction h with
 | leaf w x k tx b h1 h2 => exact .leaf w x k tx b (h1.mono hl) h2
 | lst k b ks bs a c h1 h2 h3 _ ih => exact .lst k b ks bs a c (h1.mono hl) (h2.mono hl) h3 ih
 | non k b h1 => exact .non k b (h1.mono hl)
 | opt k b kb b' cc v h0 h1 h2 _ ih => exact .opt k b kb b' cc v h0 (h1.mono hl) (h2.mono hl) ih
 | recd k b t fs bs a a2 c c2 h0 h1 h2 h3 h4 h5 _ ih => exact .recd k b t fs bs a a2 c c2 h0 (h1.mono hl) (h2.mono hl) (h3.mono hl) h4 h5 ih
 | enm k b tb t d h0 h1 h2 h3 => exact .enm k b tb t d h0 h1 (h2.mono hl) (h3.mono hl)
 | uni k b tb kb b' cc t d v hcc h0 h1 h2 h3 h4 _ ih => exact .uni k b tb kb b' cc t d v hcc h0 h1 (h2.mono hl) (h3.mono hl) (h4.mono hl) ih
def ReadP (ts : List Ty) (f : Option (V × List UInt8)) (k : List UInt8) (v : Value) (G' : Gh) : Prop :=
 ∃ q rest ok, v = Tu [.pointer q, S rest, Bo ok] ∧ (ok = true → ∃ w b, q = some ⟨b, 0, none⟩ ∧ f = some (w, rest) ∧ RepR G' ts w k b) ∧ (ok = false → f = none)
theorem c_digits {s : List UInt8} (hs : s.length ≤ 100000000) : PuG Tryz.prog 127 [S s] G (· = I ((s.takeWhile isDg).length : Nat)) := by
 refine jE [(0, _)] Tryz.func127 Tryz.ntmps127 fun B hB => ?_
 repeat' (refine jR ?_)
 refine k_loop (ι := Nat) (fun i => i ≤ s.length ∧ i + ((s.drop i).takeWhile isDg).length = (s.takeWhile isDg).length) (fun i => [(0, S s), (3, I i)]) (fun _ => G) (fun i => []) (fun i => s.length - i) 0 ?_ tU rfl sRr (fun i Hi => ?_)
 ·exact ⟨Nat.zero_le _, by simp⟩
 obtain ⟨hi0, hi1⟩ := Hi
 by_cases hi : i < s.length
 ·obtain ⟨c, hc1, hc2⟩ := drop_bt hi
  have hc3 : bt s ((i : Int).toNat) = c.toNat := hc2
  rw [hc1, List.takeWhile_cons] at hi1
  by_cases hd : isDg c = true
  ·rw [if_pos hd] at hi1
   have hd2 := hd
   unfold isDg at hd2
   rw [decide_eq_true_eq] at hd2
   simp only [List.length_cons] at hi1
   repeat' (first | refine jM ?_ | (refine jo ?_; (refine jAt rfl ?_)) | (refine k_gt rfl rfl (dTt oM) ?_) | (refine k_tt rfl (dTt oM) ?_))
   exact k_rd (i + 1) ⟨oM, oM⟩ oM tU rfl sRr
  ·rw [if_neg hd] at hi1
   have hd2 : ¬ (48 ≤ c.toNat ∧ c.toNat ≤ 57) := fun h => hd (by unfold isDg; rw [decide_eq_true_eq]; exact h)
   simp only [List.length_nil] at hi1
   repeat' (first | refine jM ?_ | (refine jo ?_; first | (refine jAt rfl ?_) | (refine jAf rfl ?_)) | (refine k_gt rfl rfl (dTt oM) ?_) | refine k_g rfl rfl (fun _ => ?_) (fun _ => ?_) | (refine k_ff rfl (by first | rfl | (refine decide_eq_false ?_; (omega))) ?_))
   all_goals refine jY (vs := [_]) ?_
   all_goals (rw [oneOf_one, ← hi1]; rfl)
 ·have : i = s.length := oM
  rw [this, List.drop_length] at hi1
  simp only [List.takeWhile_nil, List.length_nil] at hi1
  repeat' (first | (refine jR ?_) | (refine jo ?_; (refine jAf rfl ?_)) | (refine k_gf rfl rfl (by first | rfl | (refine decide_eq_false ?_; (omega))) ?_) | (refine k_ff rfl rfl ?_))
  all_goals refine jY (vs := [_]) ?_
  all_goals (rw [oneOf_one, ← hi1, this]; rfl)
theorem take_while (q : UInt8 → Bool) (s : List UInt8) : s.take ((((s.takeWhile q).length : Nat) : Int)).toNat = s.takeWhile q ∧ s.drop ((((s.takeWhile q).length : Nat) : Int)).toNat = s.dropWhile q := by
 have h := List.takeWhile_append_dropWhile (p := q) (l := s)
 have e : ((((s.takeWhile q).length : Nat) : Int)).toNat = (s.takeWhile q).length := oM
 rw [e]
 constructor
 ·have h2 : (s.takeWhile q ++ s.dropWhile q).take (s.takeWhile q).length = s.takeWhile q := List.take_left
  rwa [h] at h2
 ·have h2 : (s.takeWhile q ++ s.dropWhile q).drop (s.takeWhile q).length = s.dropWhile q := List.drop_left
  rwa [h] at h2
theorem c_plainN {u : Value} {ts : List Ty} {s : List UInt8} (hu : u.oneCell' = true) (hs : s.length ≤ 100000000) : FnS Tryz.prog 92 [Ag [u], S s, S [110]] G (ReadP ts ((rdNum 999999 s).map fun x => (.nd 110 (decI x.1) 0 [], x.2)) [110]) := by
 have cx_dg := c_digits (G := G) hs
 obtain ⟨e1, e2⟩ := take_while isDg s
 have hwl := while_len isDg s
 have hlen : (s.take ((((s.takeWhile isDg).length : Nat) : Int)).toNat).length ≤ 100000000 := by rw [e1]; omega
 refine jB [(0, _), (1, _), (2, _)] Tryz.func92 Tryz.ntmps92 fun B hok hB hW => ?_
 repeat' (first | refine jM ?_ | (refine jo ?_; first | refine jO fun _ => ?_ | (refine c_rt rfl rfl rfl cx_dg rfl ?_) | (refine c_pu rfl rfl rfl (c_l3Num oM) rfl ?_; rintro _ ⟨n, rfl, hnum⟩)) | (refine k_tt rfl rfl ?_) | (refine k_any (s_any (id := 6) _ (fun _ h => h) mixed ?_); refine jW 5 [0, 1, 2, 3, 6, 7, 8, 9] (bts 13 975) ?_; (refine jG (bts 13 991) 4 rfl (g_bld rfl rfl) ?_); refine jA 5 rfl ?_; (refine jO fun _ => ?_); refine jS (bts 13 1023) ?_; refine jT 0 [10, 11, 12] (bts 13 8191) ?_; refine jQ ?_))
 rename_i x3 x4
 refine Nx.sealC (b := x4) fun G2 hG2 hsy => ?_
 refine jZ (vs := [_, _, _]) rfl ⟨rfl, rfl, rfl, trivial⟩ rfl ⟨hG2, rfl, ?_⟩
 rw [oneOf_three]
 rw [e1] at hnum hsy
 rw [e1, e2]
 refine ⟨_, _, _, rfl, fun h => ?_, fun h => ?_⟩
 ·cases hm : numOf (s.takeWhile isDg) 999999 with
  | none => rw [hm] at h; cases h
  | some m =>
   have hmd := (numOf_le hm).2.1
   refine ⟨.nd 110 (decI m) 0 [], x4, rfl, by unfold rdNum; rw [hm]; rfl, .leaf 110 _ _ _ _ hsy (.inl ⟨rfl, rfl, hmd, fun c hc => List.all_eq_true.1 (List.all_takeWhile (l := s) (p := isDg)) c (by rw [hmd]; exact hc)⟩)⟩
 ·cases hm : numOf (s.takeWhile isDg) 999999 with
  | none => unfold rdNum; rw [hm]; rfl
  | some m => rw [hm] at h; cases h
theorem quote_take {c : UInt8} {r : List UInt8} {i : Nat} (hc : i ≤ r.length) (hn : ∀ j, j < i → bt r j ≠ 39) (hi : i = r.length ∨ bt r i = 39 ∧ i < r.length) :
  (rdQuote (c :: r) = if isTx ((c :: r).take (min (i + 2) (r.length + 1))) = true then some (.nd 116 (r.take i) 0 [], r.drop (i + 1)) else none) ∧ (isTx ((c :: r).take (min (i + 2) (r.length + 1))) = true → (c :: r).take (min (i + 2) (r.length + 1)) = 39 :: (r.take i ++ [39])) := by
 unfold rdQuote
 dsimp only
 rcases hi with hi | ⟨h39, hlt⟩
 ·have hcut : cut1 39 r = (r, [], false) := cut1_no fun j hj => hn j oM
  have htk : (c :: r).take (min (i + 2) (r.length + 1)) = c :: r := List.take_of_length_le (by simp; omega)
  have hno : isTx (c :: r) = false := by
   unfold isTx
   refine decide_eq_false fun h => ?_
   obtain ⟨⟨h2, _⟩, _, h3, _⟩ := h
   simp only [List.length_cons] at h2
   rw [show (c :: r).length - 1 = (r.length - 1) + 1 by simp; omega, bt_succ] at h3
   exact hn (r.length - 1) oM h3
  rw [hcut, htk, hno]
  exact ⟨by simp, fun h => (by cases h)⟩
 ·have hcut := cut1_at (k := 39) hlt hn h39
  have htk : (c :: r).take (min (i + 2) (r.length + 1)) = c :: (r.take i ++ [39]) := by
   rw [show min (i + 2) (r.length + 1) = (i + 1) + 1 by omega, List.take_succ_cons, take_nth hlt]
   congr 1; congr 1; congr 1
   rw [nth_eq hlt]
   have : bt r i = (r[i]).toNat := by simp [bt, List.getD, List.getElem?_eq_getElem hlt]
   exact UInt8.toNat_inj.1 (by rw [← this, h39]; rfl)
  rw [hcut, htk]
  dsimp only
  by_cases h : c.toNat = 39
  ·rw [if_pos h, show c = 39 from UInt8.toNat_inj.1 h]
   exact ⟨rfl, fun _ => rfl⟩
  ·have hno : ¬ isTx (c :: (r.take i ++ [39])) = true := fun ht => by
    unfold isTx at ht
    rw [decide_eq_true_eq] at ht
    exact h (by have := ht.2.1; rwa [bt_zero] at this)
   rw [if_neg h, if_neg hno]
   exact ⟨rfl, fun h2 => absurd h2 hno⟩
theorem c_plainT {u : Value} {ts : List Ty} {s : List UInt8} (hu : u.oneCell' = true) (hs : s.length ≤ 100000000) (hne : s ≠ []) : FnS Tryz.prog 92 [Ag [u], S s, S [116]] G (ReadP ts (rdQuote s) [116]) := by
 match s, hne with
 | c :: r, _ =>
 simp only [List.length_cons] at hs
 have hcl : (c :: r).length = r.length + 1 := rfl
 refine jB [(0, _), (1, _), (2, _)] Tryz.func92 Tryz.ntmps92 fun B hok hB hW => ?_
 repeat' (first | (refine jR ?_) | (refine jo ?_; (refine jO fun _ => ?_)) | (refine k_tt rfl rfl ?_) | (refine k_ff rfl rfl ?_))
 rename_i x3
 refine k_loop (ι := Nat) (fun i => i ≤ r.length ∧ ∀ j, j < i → bt r j ≠ 39) (fun i => [(1, S (c :: r)), (2, S [116]), (9, I (i + 1 : Nat))]) (fun _ => G) (fun i => []) (fun i => r.length - i) 0 ?_ tU rfl (by repeat (exact List.nil_sublist _)) (fun i Hi => ?_)
 ·exact ⟨Nat.zero_le _, fun j hj => absurd hj oM⟩
 obtain ⟨hi0, hi1⟩ := Hi
 have hb : bt (c :: r) ((i + 1 : Nat) : Int).toNat = bt r i := bt_succ c r i
 by_cases hi : i < r.length
 ·by_cases h39 : bt r i = 39
  ·have h39' : bt (c :: r) ((i + 1 : Nat) : Int).toNat = 39 := by rw [hb]; exact h39
   have hq := quote_take (c := c) hi0 hi1 (.inr ⟨h39, hi⟩)
   have e3 : (min (((i + 1 : Nat) : Int) + 1) ((((c :: r).length : Nat) : Int))).toNat = min (i + 2) (r.length + 1) := oM
   have cx_tx := c_l3Text (G := G) (s := (c :: r).take (min (((i + 1 : Nat) : Int) + 1) ((((c :: r).length : Nat) : Int))).toNat) (by rw [List.length_take]; omega)
   repeat' (first | refine jM ?_ | (refine jo ?_; first | (refine jAt rfl ?_) | refine jV (g_min rfl rfl) ?_) | (refine k_gt rfl rfl (dTt oM) ?_) | (refine k_ff rfl (dFf oM) ?_) | (refine k_any (s_any (id := 12) _ (fun _ h => h) mixed ?_); refine jW 6 [0, 1, 2, 3, 6, 7, 8, 9, 10, 11] (bts 16 4047) ?_; (refine jG (bts 16 4063) 4 rfl (g_bld rfl rfl) ?_); refine x_all [5, 12] kR dC ⟨?_, ?_, trivial⟩; (focus (refine x_opg rfl rfl ?_; (refine jO fun _ => ?_); refine jS (bts 16 4095) ?_; refine jA 12 rfl ?_; ((refine c_rt rfl rfl rfl (c_l3Text ?_) rfl ?_; (focus ((simp; omega); done)))); refine jS (bts 16 8191) ?_; refine jW 0 [13, 14, 15] (bts 16 65535) ?_; refine jQ ?_)); rotate_left 1; (focus (refine x_opg rfl rfl ?_; ((refine c_rt rfl rfl rfl (c_l3Text ?_) rfl ?_; (focus ((simp; omega); done)))); refine jS (bts 16 8159) ?_; refine jA 5 rfl ?_; (refine jO fun _ => ?_); refine jS (bts 16 8191) ?_; refine jW 0 [13, 14, 15] (bts 16 65535) ?_; refine jQ ?_)); rotate_left 1))
   all_goals
    rename_i x4
    refine Nx.sealC (b := x4) fun G2 hG2 hsy => ?_
    refine jZ (vs := [_, _, _]) rfl ⟨rfl, rfl, rfl, trivial⟩ rfl ⟨hG2, rfl, ?_⟩
    rw [oneOf_three]
    rw [e3] at hsy
    rw [e3]
    refine ⟨_, _, _, rfl, fun h => ?_, fun h => ?_⟩
    ·have htk := hq.2 h
     rw [htk] at hsy
     have hdr : (c :: r).drop (min (i + 2) (r.length + 1)) = r.drop (i + 1) := by
      rcases Nat.lt_or_ge i r.length with h2 | h2
      ·rw [show min (i + 2) (r.length + 1) = (i + 1) + 1 by omega]; rfl
      ·rw [List.drop_eq_nil_of_le (by simp; omega), List.drop_eq_nil_of_le oM]
     exact ⟨_, x4, rfl, by rw [hq.1, if_pos h, hdr], .leaf 116 _ _ _ _ hsy (.inr (.inl ⟨rfl, rfl, rfl⟩))⟩
    ·rw [hq.1, if_neg (by rw [h]; decide)]
  ·have h39' : ¬ bt (c :: r) ((i + 1 : Nat) : Int).toNat = 39 := by rw [hb]; exact h39
   repeat' (first | refine jM ?_ | (refine jo ?_; (refine jAt rfl ?_)) | (refine k_gt rfl rfl (dTt oM) ?_) | (refine k_tt rfl (dTt oM) ?_))
   refine Nx.re (d := 9) (v' := I (i + 1 + 1 : Nat)) rfl (congrArg (Value.int .i64) oM) ?_
   exact k_rd (i + 1) ⟨oM, fun j hj => (by
    rcases Nat.lt_or_ge j i with h | h
    ·exact hi1 j h
    ·have : j = i := oM
     subst this; exact h39)⟩ oM tU rfl sRr
 ·have hq := quote_take (c := c) hi0 hi1 (.inl oM)
  have e3 : (min (((i + 1 : Nat) : Int) + 1) ((((c :: r).length : Nat) : Int))).toNat = min (i + 2) (r.length + 1) := oM
  have cx_tx := c_l3Text (G := G) (s := (c :: r).take (min (((i + 1 : Nat) : Int) + 1) ((((c :: r).length : Nat) : Int))).toNat) (by rw [List.length_take]; omega)
  repeat' (first | refine jM ?_ | (refine jo ?_; first | (refine jAf rfl ?_) | refine jV (g_min rfl rfl) ?_) | (refine k_gf rfl rfl (dFf oM) ?_) | (refine k_ff rfl rfl ?_) | (refine k_any (s_any (id := 12) _ (fun _ h => h) mixed ?_); refine jW 6 [0, 1, 2, 3, 6, 7, 8, 9, 10, 11] (bts 16 4047) ?_; (refine jG (bts 16 4063) 4 rfl (g_bld rfl rfl) ?_); refine x_all [5, 12] kR dC ⟨?_, ?_, trivial⟩; (focus (refine x_opg rfl rfl ?_; (refine jO fun _ => ?_); refine jS (bts 16 4095) ?_; refine jA 12 rfl ?_; ((refine c_rt rfl rfl rfl (c_l3Text ?_) rfl ?_; (focus ((simp; omega); done)))); refine jS (bts 16 8191) ?_; refine jW 0 [13, 14, 15] (bts 16 65535) ?_; refine jQ ?_)); rotate_left 1; (focus (refine x_opg rfl rfl ?_; ((refine c_rt rfl rfl rfl (c_l3Text ?_) rfl ?_; (focus ((simp; omega); done)))); refine jS (bts 16 8159) ?_; refine jA 5 rfl ?_; (refine jO fun _ => ?_); refine jS (bts 16 8191) ?_; refine jW 0 [13, 14, 15] (bts 16 65535) ?_; refine jQ ?_)); rotate_left 1))
  all_goals
   rename_i x4
   refine Nx.sealC (b := x4) fun G2 hG2 hsy => ?_
   refine jZ (vs := [_, _, _]) rfl ⟨rfl, rfl, rfl, trivial⟩ rfl ⟨hG2, rfl, ?_⟩
   rw [oneOf_three]
   rw [e3] at hsy
   rw [e3]
   refine ⟨_, _, _, rfl, fun h => ?_, fun h => ?_⟩
   ·have htk := hq.2 h
    rw [htk] at hsy
    have hdr : (c :: r).drop (min (i + 2) (r.length + 1)) = r.drop (i + 1) := by
     rcases Nat.lt_or_ge i r.length with h2 | h2
     ·rw [show min (i + 2) (r.length + 1) = (i + 1) + 1 by omega]; rfl
     ·rw [List.drop_eq_nil_of_le (by simp; omega), List.drop_eq_nil_of_le oM]
    exact ⟨_, x4, rfl, by rw [hq.1, if_pos h, hdr], .leaf 116 _ _ _ _ hsy (.inr (.inl ⟨rfl, rfl, rfl⟩))⟩
   ·rw [hq.1, if_neg (by rw [h]; decide)]
theorem c_plainF {u : Value} {ts : List Ty} {s : List UInt8} (hu : u.oneCell' = true) (hs : s.length ≤ 100000000) : FnS Tryz.prog 92 [Ag [u], S s, S [102]] G (ReadP ts (rdFlag s) [102]) := by
 have hpf : ∀ l : List UInt8, l.isPrefixOf s = true ↔ l.length ≤ s.length ∧ s.take l.length = l := fun l => by
  rw [List.isPrefixOf_iff_prefix]
  constructor
  ·rintro ⟨t, rfl⟩; simp
  ·rintro ⟨h1, h2⟩; exact ⟨s.drop l.length, by rw [show l ++ s.drop l.length = s.take l.length ++ s.drop l.length from by rw [h2]]; exact List.take_append_drop _ _⟩
 refine jB [(0, _), (1, _), (2, _)] Tryz.func92 Tryz.ntmps92 fun B hok hB hW => ?_
 repeat' (first | (refine jR ?_) | (refine jo ?_; first | refine jO fun _ => ?_ | refine jF fun _ => ?_ | refine jV (g_lenL rfl) ?_) | (refine k_ff rfl rfl ?_))
 rename_i x3 x4
 refine k_loop (ι := Nat) (fun i => i ≤ 2 ∧ (1 ≤ i → ([121, 101, 115] : List UInt8).isPrefixOf s = false) ∧ (2 ≤ i → ([110, 111] : List UInt8).isPrefixOf s = false)) (fun i => [(1, S s), (2, S [102]), (68, .slice (some ⟨x4, 0, none⟩) 2 2), (69, I (2 : Nat)), (70, I i)]) (fun _ => G) (fun i => [.blk x4 (.cells (List.toArray [S [121, 101, 115], S [110, 111]]) tSt2 (0, 0))]) (fun i => 2 - i) 0 ?_ tU rfl sB (fun i Hi => ?_)
 ·exact ⟨Nat.zero_le _, fun h => absurd h oM, fun h => absurd h oM⟩
 obtain ⟨hi0, hi1, hi2⟩ := Hi
 have h3 : i = 0 ∨ i = 1 ∨ i = 2 := oM
 rcases h3 with rfl | rfl | rfl
 ·cases hp : ([121, 101, 115] : List UInt8).isPrefixOf s with
  | true =>
   obtain ⟨h1, h2⟩ := (hpf _).1 hp
   have h1' : (((([121, 101, 115] : List UInt8).length : Nat) : Int)) ≤ s.length := oM
   have h2' : s.take (((([121, 101, 115] : List UInt8).length : Nat) : Int)).toNat = [121, 101, 115] := h2
   repeat' (first | refine jM ?_ | (refine jo ?_; first | (refine jAt rfl ?_) | (refine jV (g_iaddrN rfl rfl oM) ?_) | refine jAl rfl ?_) | (refine k_gt rfl rfl (dTt ‹_›) ?_) | (refine k_tt rfl (by first | rfl | (refine decide_eq_true ?_; (assumption))) ?_) | (refine k_any (s_any (id := 17) _ (fun _ h => h) mixed ?_); refine jW 5 [0, 1, 4, 5, 6, 7] (bts 11 243) ?_; (refine jG (bts 11 247) 2 rfl (g_bld rfl rfl) ?_); refine jA 3 rfl ?_; (refine jO fun _ => ?_); refine jS (bts 11 255) ?_; refine jT 0 [8, 9, 10] (bts 11 2047) ?_; refine jQ ?_))
   all_goals
    rename_i y
    refine Nx.sealC (b := y) fun G2 hG2 hsy => ?_
    refine jZ (vs := [_, _, _]) rfl ⟨rfl, rfl, rfl, trivial⟩ rfl ⟨hG2, rfl, ?_⟩
    rw [oneOf_three]
    exact ⟨_, _, _, rfl, fun _ => ⟨.nd 102 [121, 101, 115] 0 [], y, rfl, by unfold rdFlag; rw [hp, if_pos rfl]; rfl, .leaf 102 _ _ _ _ hsy (.inr (.inr ⟨rfl, rfl, rfl, .inl rfl⟩))⟩, fun h => (by cases h)⟩
  | false =>
   have hn : ¬ ((([121, 101, 115] : List UInt8).length : Nat) ≤ s.length ∧ s.take ([121, 101, 115] : List UInt8).length = [121, 101, 115]) := fun h => by rw [(hpf _).2 h] at hp; cases hp
   have hn' : ¬ ((((([121, 101, 115] : List UInt8).length : Nat) : Int)) ≤ s.length ∧ s.take (((([121, 101, 115] : List UInt8).length : Nat) : Int)).toNat = [121, 101, 115]) := fun h => hn ⟨oM, h.2⟩
   by_cases h1' : (((([121, 101, 115] : List UInt8).length : Nat) : Int)) ≤ s.length
   ·have h2' : ¬ s.take (((([121, 101, 115] : List UInt8).length : Nat) : Int)).toNat = [121, 101, 115] := fun h => hn' ⟨h1', h⟩
    repeat' (first | refine jM ?_ | (refine jo ?_; first | (refine jAt rfl ?_) | (refine jV (g_iaddrN rfl rfl oM) ?_) | refine jAl rfl ?_) | (refine k_gt rfl rfl (dTt ‹_›) ?_) | (refine k_tt rfl rfl ?_) | (refine k_ff rfl (dFf ‹_›) ?_))
    exact k_rd 1 ⟨oM, fun _ => rfl, fun h => absurd h oM⟩ oM tU rfl sRr
   ·repeat' (first | refine jM ?_ | (refine jo ?_; first | (refine jAf rfl ?_) | (refine jV (g_iaddrN rfl rfl oM) ?_) | refine jAl rfl ?_) | (refine k_gf rfl rfl (dFf ‹_›) ?_) | (refine k_tt rfl rfl ?_) | (refine k_ff rfl rfl ?_))
    exact k_rd 1 ⟨oM, fun _ => rfl, fun h => absurd h oM⟩ oM tU rfl sRr
 ·have hy := hi1 (Nat.le_refl _)
  cases hp : ([110, 111] : List UInt8).isPrefixOf s with
  | true =>
   obtain ⟨h1, h2⟩ := (hpf _).1 hp
   have h1' : (((([110, 111] : List UInt8).length : Nat) : Int)) ≤ s.length := oM
   have h2' : s.take (((([110, 111] : List UInt8).length : Nat) : Int)).toNat = [110, 111] := h2
   repeat' (first | refine jM ?_ | (refine jo ?_; first | (refine jAt rfl ?_) | (refine jV (g_iaddrN rfl rfl oM) ?_) | refine jAl rfl ?_) | (refine k_gt rfl rfl (dTt ‹_›) ?_) | (refine k_tt rfl (by first | rfl | (refine decide_eq_true ?_; (assumption))) ?_) | (refine k_any (s_any (id := 17) _ (fun _ h => h) mixed ?_); refine jW 5 [0, 1, 4, 5, 6, 7] (bts 11 243) ?_; (refine jG (bts 11 247) 2 rfl (g_bld rfl rfl) ?_); refine jA 3 rfl ?_; (refine jO fun _ => ?_); refine jS (bts 11 255) ?_; refine jT 0 [8, 9, 10] (bts 11 2047) ?_; refine jQ ?_))
   all_goals
    rename_i y
    refine Nx.sealC (b := y) fun G2 hG2 hsy => ?_
    refine jZ (vs := [_, _, _]) rfl ⟨rfl, rfl, rfl, trivial⟩ rfl ⟨hG2, rfl, ?_⟩
    rw [oneOf_three]
    exact ⟨_, _, _, rfl, fun _ => ⟨.nd 102 [110, 111] 0 [], y, rfl, by unfold rdFlag; rw [hy, if_neg dC, hp, if_pos rfl]; rfl, .leaf 102 _ _ _ _ hsy (.inr (.inr ⟨rfl, rfl, rfl, .inr rfl⟩))⟩, fun h => (by cases h)⟩
  | false =>
   have hn : ¬ ((([110, 111] : List UInt8).length : Nat) ≤ s.length ∧ s.take ([110, 111] : List UInt8).length = [110, 111]) := fun h => by rw [(hpf _).2 h] at hp; cases hp
   have hn' : ¬ ((((([110, 111] : List UInt8).length : Nat) : Int)) ≤ s.length ∧ s.take (((([110, 111] : List UInt8).length : Nat) : Int)).toNat = [110, 111]) := fun h => hn ⟨oM, h.2⟩
   by_cases h1' : (((([110, 111] : List UInt8).length : Nat) : Int)) ≤ s.length
   ·have h2' : ¬ s.take (((([110, 111] : List UInt8).length : Nat) : Int)).toNat = [110, 111] := fun h => hn' ⟨h1', h⟩
    repeat' (first | refine jM ?_ | (refine jo ?_; first | (refine jAt rfl ?_) | (refine jV (g_iaddrN rfl rfl oM) ?_) | refine jAl rfl ?_) | (refine k_gt rfl rfl (dTt ‹_›) ?_) | (refine k_tt rfl rfl ?_) | (refine k_ff rfl (dFf ‹_›) ?_))
    exact k_rd 2 ⟨oM, fun _ => hy, fun _ => rfl⟩ oM tU rfl sRr
   ·repeat' (first | refine jM ?_ | (refine jo ?_; first | (refine jAf rfl ?_) | (refine jV (g_iaddrN rfl rfl oM) ?_) | refine jAl rfl ?_) | (refine k_gf rfl rfl (dFf ‹_›) ?_) | (refine k_tt rfl rfl ?_) | (refine k_ff rfl rfl ?_))
    exact k_rd 2 ⟨oM, fun _ => hy, fun _ => rfl⟩ oM tU rfl sRr
 ·repeat' (first | (refine jR ?_) | (refine k_ff rfl rfl ?_))
  refine jZ (vs := [_, _, _]) rfl ⟨rfl, rfl, rfl, trivial⟩ rfl ⟨Gh.le.refl _, rfl, ?_⟩
  rw [oneOf_three]
  exact ⟨_, _, _, rfl, fun h => (by cases h), fun _ => by unfold rdFlag; rw [hi1 oM, if_neg dC, hi2 oM, if_neg dC]⟩
theorem c_tag {u : Value} {x : TyX} {s : List UInt8} (hs : s.length ≤ 100000000) (hu : u.oneCell' = true) (hf : SlV G (slX x) 4 x.2.fields.length (rows fldF x.2.fields)) (hl : x.2.fields.length ≤ 1000) :
  PuG Tryz.prog 126 [Ag [u], S s, Ag (tyF x)] G (fun v => ∃ n, v = Tu [Ag (fldF ((fldT x.2.fields n).getD zF)), S (s.dropWhile isDg), Bo ((numOf (s.takeWhile isDg) 200).isSome && (fldT x.2.fields n).isSome)] ∧ ∀ m, numOf (s.takeWhile isDg) 200 = some m → n = m) := by
 have cx_dg := c_digits (G := G) hs
 obtain ⟨e1, e2⟩ := take_while isDg s
 have hwl := while_len isDg s
 have hlen : (s.take ((((s.takeWhile isDg).length : Nat) : Int)).toNat).length ≤ 100000000 := by rw [e1]; omega
 simp only [tyF]
 refine jE [(0, _), (1, _), (2, _)] Tryz.func126 Tryz.ntmps126 fun B hB => ?_
 repeat' (first | refine jM ?_ | (refine jo ?_; first | refine jO fun _ => ?_ | refine jL fun _ => ?_ | refine jAm rfl ?_ | (refine c_rt rfl rfl rfl cx_dg rfl ?_) | (refine c_pu rfl rfl rfl (c_l3Num oM) rfl ?_; rintro _ ⟨n, rfl, hnum⟩)))
 rename_i n
 have cx_fld := c_fieldS (G := G) (tag := n) hf hl
 rw [e1] at hnum
 cases hm : (numOf (s.take ((((s.takeWhile isDg).length : Nat) : Int)).toNat) 200).isSome with
 | false =>
  repeat' (first | (refine jR ?_) | (refine jo ?_; first | refine jL fun _ => ?_ | refine jC rfl rfl rfl ?_ | (refine c_rt rfl rfl rfl cx_fld rfl ?_)) | (refine k_any (s_anyD (id := 4) (tt := 6) rfl mixed ?_); refine jW 6 [1, 2, 3, 4, 5] (bts 11 62) ?_; (try (refine Nx.re (d := 34) (v' := Bo false) rfl (congrArg Value.bool rfl) ?_)); refine jW 5 [6] (bts 11 126) ?_; (refine jG (bts 11 127) 0 rfl (g_ldA rfl rfl rfl rfl) ?_); ((refine jG (bts 11 255) 7 rfl (g_pickF rfl rfl ?_) ?_; (focus ((rfl); done)))); refine jA 8 rfl ?_; (refine jC rfl rfl rfl ?_); refine jK (bts 11 511) ?_; refine jW 0 [9, 10] (bts 11 2047) ?_; refine jQ ?_))
  all_goals refine jZ (vs := [_, _, _]) rfl ⟨rc_A rfl rfl rfl rfl, rfl, rfl, trivial⟩ rfl ⟨rfl, rfl, ?_⟩
  all_goals (rw [oneOf_three]; exact ⟨n, by rw [e1] at hm; rw [hm, e2]; rfl, hnum⟩)
 | true =>
  repeat' (first | (refine jR ?_) | (refine jo ?_; first | refine jL fun _ => ?_ | refine jC rfl rfl rfl ?_ | (refine c_rt rfl rfl rfl cx_fld rfl ?_)) | (refine k_any (s_anyD (id := 4) (tt := 6) rfl mixed ?_); refine jW 6 [1, 2, 3, 4, 5] (bts 11 62) ?_; (try (refine Nx.re (d := 34) (v' := Bo true) rfl (congrArg Value.bool rfl) ?_)); refine jW 5 [6] (bts 11 126) ?_; (refine jG (bts 11 127) 0 rfl (g_ldA rfl rfl rfl rfl) ?_); ((refine jG (bts 11 255) 7 rfl (g_pickT rfl rfl ?_) ?_; (focus ((rfl); done)))); refine jA 8 rfl ?_; (refine jC rfl rfl rfl ?_); refine jK (bts 11 511) ?_; refine jW 0 [9, 10] (bts 11 2047) ?_; refine jQ ?_))
  all_goals refine jZ (vs := [_, _, _]) rfl ⟨rc_A rfl rfl rfl rfl, rfl, rfl, trivial⟩ rfl ⟨rfl, rfl, ?_⟩
  all_goals (rw [oneOf_three]; exact ⟨n, by rw [e1] at hm; rw [hm, e2]; rfl, hnum⟩)
def OutB (v : V) : Prop := v.out.length + 1 ≤ 2 * v.tot
theorem outB_outs : ∀ {ks : List V}, (∀ v ∈ ks, OutB v) → lensT (V.outs ks) + ks.length ≤ 2 * V.tots ks
 | [], _ => by simp [V.outs, lensT]
 | v :: r, h => by
  have h1 := h v (.head _)
  have h2 := outB_outs fun u hu => h u (.tail _ hu)
  unfold OutB at h1
  simp only [V.outs, lensT, List.map_cons, List.sum_cons, V.tots, List.length_cons] at *
  omega
theorem outB_nd {w : Nat} {x : List UInt8} {t : Int} {ks : List V} (h : ∀ v ∈ ks, OutB v) (ht : t ≤ 999999) : OutB (.nd w x t ks) := by
 have h1 := outB_outs h
 have h2 := joinB_len 44 (V.outs ks)
 rw [outs_len] at h2
 have h4 := outW_len (w := w) (x := x) (e := ks.isEmpty) (j := joinB 44 (V.outs ks)) ht
 have h5 := tots_len ks
 unfold OutB
 rw [V.out, V.tot]
 omega
theorem mem_at {α : Type} [Inhabited α] {l : List α} {x : α} (h : x ∈ l) : ∃ i, i < l.length ∧ nth l i = x := by
 obtain ⟨i, hi, rfl⟩ := List.mem_iff_getElem.1 h
 exact ⟨i, hi, nth_eq hi⟩
theorem refT_W {ts : List Ty} (hw : SchW ts) {k : List UInt8} {t : Ty} (h : refT ts k = some t) {d : Fld} (hd : d ∈ t.fields) : d.tag ≤ 999999 ∧ 0 ≤ d.tag := by
 have := ((hw.ty t (refT_mem h)).fld d hd).tag
 omega
theorem refT_64 {ts : List Ty} {k : List UInt8} {t : Ty} (h : refT ts k = some t) : ∃ r, k = 64 :: r := by
 unfold refT at h
 cases k with
 | nil => cases h
 | cons c r =>
  unfold refN at h
  dsimp only at h
  by_cases h64 : c.toNat = 64
  ·exact ⟨r, by rw [show c = 64 from UInt8.toNat_inj.1 h64]⟩
  ·rw [if_neg h64] at h; cases h
theorem outR {ts : List Ty} (hw : SchW ts) {v : V} {k : List UInt8} {b : Nat} (h : RepR G ts v k b) : OutB v := by
 induction h with
 | leaf w x k tx b h1 h2 => exact outB_nd (by simp) dC
 | lst k b ks bs a c h1 h2 h3 _ ih =>
  exact outB_nd (fun v hv => by obtain ⟨i, hi, rfl⟩ := mem_at hv; exact ih i hi) dC
 | non k b h1 => exact outB_nd (by simp) dC
 | opt k b kb b' cc v h0 h1 h2 _ ih => exact outB_nd (fun u hu => by simp only [List.mem_singleton] at hu; subst hu; exact ih) dC
 | recd k b t fs bs a a2 c c2 h0 h1 h2 h3 h4 h5 _ ih =>
  refine outB_nd (fun v hv => ?_) dC
  obtain ⟨p, hp, rfl⟩ := List.mem_map.1 hv
  obtain ⟨i, hi, rfl⟩ := mem_at hp
  exact outB_nd (fun u hu => by simp only [List.mem_singleton] at hu; subst hu; exact ih i hi) (refT_W hw h0.1 (h5 i hi)).1
 | enm k b tgb t d h0 h1 h2 h3 => exact outB_nd (by simp) (refT_W hw h0.1 h1).1
 | uni k b tgb kb b' cc t d v hcc h0 h1 h2 h3 h4 _ ih => exact outB_nd (fun u hu => by simp only [List.mem_singleton] at hu; subst hu; exact ih) (refT_W hw h0.1 h1).1
theorem joinB_step {c : UInt8} {xs : List (List UInt8)} {i : Nat} (h : i < xs.length) : joinB c (xs.take (i + 1)) = if 0 < i then joinB c (xs.take i) ++ c :: nth xs i else nth xs i := by
 rw [take_nth h]
 by_cases hi : 0 < i
 ·rw [if_pos hi, joinB_snoc]
  rw [ne_eq, List.take_eq_nil_iff]
  rintro (h0 | h0)
  ·omega
  ·subst h0; simp at h
 ·have : i = 0 := oM
  subst this; rfl
theorem c_outS {ts : List Ty} (hw : SchW ts) {v : V} {k : List UInt8} {b : Nat} (h : RepR G ts v k b) : v.tot ≤ 1000000000000 → PuG Tryz.prog 22 [Pt b 0] G (· = S v.out) := by
 induction h with
 | leaf w x k tx b h1 h2 =>
  intro _
  rcases h2 with ⟨rfl, rfl, rfl, _⟩ | ⟨rfl, rfl, rfl⟩ | ⟨rfl, rfl, rfl, _⟩
  all_goals
   refine jE [(0, _)] Tryz.func22 Tryz.ntmps22 fun B hB => ?_
   repeat' (first | (refine jX ?_) | (refine jo ?_; (refine jV (g_ldS rfl rfl aS rfl rfl) ?_)) | (refine k_ff rfl rfl ?_))
   refine jY (vs := [_]) ?_
   rw [oneOf_one, V.out]; rfl
 | lst k b ks bs a c h1 h2 h3 hk ih =>
  intro ht
  rw [nd_tot] at ht
  have hb := outB_outs (ks := ks) fun v hv => by obtain ⟨i, hi, rfl⟩ := mem_at hv; exact outR hw (hk i hi)
  have hol := outs_len ks
  refine jE [(0, _)] Tryz.func22 Tryz.ntmps22 fun B hB => ?_
  repeat' (first | (refine jX ?_) | (refine jo ?_; (refine jV (g_ldS rfl rfl aS rfl rfl) ?_)) | (refine k_tt rfl rfl ?_))
  refine k_loop (ι := Nat) (fun i => i ≤ ks.length) (fun i => [(0, Pt b 0), (3, S (91 :: joinB 44 ((V.outs ks).take i))), (4, I i)]) (fun _ => G) (fun i => []) (fun i => ks.length - i) 0 ?_ tU rfl sRr (fun i Hi => ?_)
  ·exact Nat.zero_le _
  have hj1 := joinB_len 44 ((V.outs ks).take i)
  have hj2 := lensT_take (V.outs ks) i
  have hj3 : ((V.outs ks).take i).length ≤ ks.length := by rw [List.length_take]; omega
  by_cases hi : i < ks.length
  ·have hti := tot_nth hi
   have cx_out := ih i hi oM
   have hou := outs_get hi
   have hxi : nth bs i = nth bs i := rfl
   have hob := outR hw (hk i hi)
   unfold OutB at hob
   have hst := joinB_step (c := 44) (xs := V.outs ks) (i := i) oM
   rw [hou] at hst
   obtain ⟨kb, ko, kc, e, hs⟩ := h2.expl oM
   simp only [Value.slice.injEq] at e
   obtain ⟨rfl, -, rfl⟩ := e
   by_cases h0 : 0 < i
   ·rw [if_pos h0] at hst
    repeat' (first | (refine jX ?_) | (refine jo ?_; first | refine jV (g_ldS rfl rfl aS rfl rfl) ?_ | (refine jV (g_ldR1x rfl rfl aS ?_ aS rfl) ?_; (focus ((omega); done))) | refine jV (g_lenL rfl) ?_ | (refine jV (g_iaddrN rfl rfl oM) ?_) | (refine c_rt rfl rfl rfl cx_out rfl ?_)) | (refine k_tt rfl (dTt oM) ?_))
    refine Nx.re (d := 3) (v' := S (91 :: joinB 44 ((V.outs ks).take (i + 1)))) rfl (congrArg (fun l => S l) (by rw [hst]; simp)) ?_
    exact k_rd (i + 1) oM oM tU rfl sRr
   ·rw [if_neg h0] at hst
    have hi0 : i = 0 := oM
    subst hi0
    repeat' (first | (refine jX ?_) | (refine jo ?_; first | (refine jV (g_ldRFx rfl rfl aS ?_ aS rfl rfl) ?_; (focus ((omega); done))) | refine jV (g_ldS rfl rfl aS rfl rfl) ?_ | refine jV (g_lenL rfl) ?_ | (refine jV (g_iaddrN rfl rfl oM) ?_) | (refine c_rt rfl rfl rfl cx_out rfl ?_)) | (refine k_tt rfl (dTt oM) ?_) | (refine k_ff rfl rfl ?_))
    refine Nx.re (d := 3) (v' := S (91 :: joinB 44 ((V.outs ks).take (0 + 1)))) rfl (congrArg (fun l => S l) (by rw [hst]; rfl)) ?_
    exact k_rd (0 + 1) oM oM tU rfl sRr
  ·have hin : i = ks.length := oM
   subst hin
   repeat' (first | (refine jX ?_) | (refine jo ?_; first | refine jV (g_ldS rfl rfl aS rfl rfl) ?_ | refine jV (g_lenL rfl) ?_) | (refine k_ff rfl (dFf oM) ?_))
   refine jY (vs := [_]) ?_
   rw [oneOf_one, V.out, ← hol, List.take_length]; rfl
 | non k b h1 =>
  intro _
  refine jE [(0, _)] Tryz.func22 Tryz.ntmps22 fun B hB => ?_
  repeat' (first | (refine jX ?_) | (refine jo ?_; first | refine jV (g_ldS rfl rfl aS rfl rfl) ?_ | refine jV (g_lenL rfl) ?_) | (refine k_tt rfl rfl ?_) | (refine k_ff rfl rfl ?_))
  refine jY (vs := [_]) ?_
  rfl
 | opt k b kb b' cc v h0 h1 h2 h3 ih =>
  intro ht
  simp only [nd_tot, V.tots] at ht
  have cx_out := ih oM
  have hob := outR hw h3
  unfold OutB at hob
  refine jE [(0, _)] Tryz.func22 Tryz.ntmps22 fun B hB => ?_
  repeat' (first | (refine jX ?_) | (refine jo ?_; first | refine jV (g_ldS rfl rfl aS rfl rfl) ?_ | refine jV (g_lenL rfl) ?_ | (refine jV (g_iaddr rfl rfl oM) ?_) | (refine c_rt rfl rfl rfl cx_out rfl ?_)) | (refine k_tt rfl rfl ?_) | (refine k_ff rfl rfl ?_))
  refine jY (vs := [_]) ?_
  rw [oneOf_one, V.out]; rfl
 | recd k b t fs bs a a2 c c2 h0 h1 h2 h3 h4 h5 hk ih =>
  intro ht
  obtain ⟨r, rfl⟩ := refT_64 h0.1
  rw [nd_tot] at ht
  have hB1 : ∀ v ∈ fs.map (fun p : Fld × V => V.nd 61 [] p.1.tag [p.2]), OutB v := fun v hv => by
   obtain ⟨p, hp, rfl⟩ := List.mem_map.1 hv
   obtain ⟨i, hi, rfl⟩ := mem_at hp
   exact outB_nd (fun u hu => by simp only [List.mem_singleton] at hu; subst hu; exact outR hw (hk i hi)) (refT_W hw h0.1 (h5 i hi)).1
  have hb := outB_outs hB1
  have hml : (fs.map (fun p : Fld × V => V.nd 61 [] p.1.tag [p.2])).length = fs.length := by simp
  have hol := outs_len (fs.map (fun p : Fld × V => V.nd 61 [] p.1.tag [p.2]))
  have hnt : ∀ i, i < fs.length → nth (fs.map (fun p : Fld × V => V.nd 61 [] p.1.tag [p.2])) i = V.nd 61 [] (nth fs i).1.tag [(nth fs i).2] := fun i hi => by rw [nth_eq (by simpa using hi), nth_eq hi]; simp
  generalize hKS : fs.map (fun p : Fld × V => V.nd 61 [] p.1.tag [p.2]) = KS at *
  have cx_nmd : PuG Tryz.prog 51 [Pt b 0] G (· = S (V.out (.nd 82 [] 0 KS))) := by
   refine jE [(0, _)] Tryz.func51 Tryz.ntmps51 fun B hB => ?_
   repeat' (first | (refine jR ?_) | (refine jo ?_; (refine jV (g_ldS rfl rfl aS rfl rfl) ?_)) | (refine k_ff rfl rfl ?_))
   refine k_loop (ι := Nat) (fun i => i ≤ fs.length) (fun i => [(0, Pt b 0), (3, S (123 :: joinB 44 ((V.outs KS).take i))), (4, I i)]) (fun _ => G) (fun i => []) (fun i => fs.length - i) 0 ?_ tU rfl sRr (fun i Hi => ?_)
   ·exact Nat.zero_le _
   have hj1 := joinB_len 44 ((V.outs KS).take i)
   have hj2 := lensT_take (V.outs KS) i
   have hj3 : ((V.outs KS).take i).length ≤ fs.length := by rw [List.length_take]; omega
   by_cases hi : i < fs.length
   ·have hti := tot_nth (ks := KS) (i := i) oM
    rw [hnt i hi] at hti
    simp only [nd_tot, V.tots] at hti
    have cx_out := ih i hi oM
    have hou := outs_get (ks := KS) (i := i) oM
    rw [hnt i hi, out_fld] at hou
    have hxi : nth bs i = nth bs i := rfl
    have htg := refT_W hw h0.1 (h5 i hi)
    have hdl := decI_len6' htg.1
    have hob := outR hw (hk i hi)
    unfold OutB at hob
    have hst := joinB_step (c := 44) (xs := V.outs KS) (i := i) oM
    rw [hou] at hst
    have htn : nth (fs.map fun p : Fld × V => p.1.tag) i = (nth fs i).1.tag := by rw [nth_eq (by simpa using hi), nth_eq hi]; simp
    have htl : (fs.map fun p : Fld × V => p.1.tag).length = fs.length := by simp
    obtain ⟨tgb, to, tc, e, hs1⟩ := h2.expl oM
    simp only [Value.slice.injEq] at e
    obtain ⟨rfl, -, rfl⟩ := e
    obtain ⟨kb, ko, kc, e, hs2⟩ := h3.expl oM
    simp only [Value.slice.injEq] at e
    obtain ⟨rfl, -, rfl⟩ := e
    by_cases hp0 : 0 < i
    ·rw [if_pos hp0] at hst
     repeat' (first | (refine jX ?_) | (refine jo ?_; first | refine jV (g_ldS rfl rfl aS rfl rfl) ?_ | refine jV (g_lenL rfl) ?_) | (refine k_tt rfl (dTt oM) ?_) | (refine k_any (s_any (id := 12) _ (fun _ h => h) mixed ?_); refine jT 12 [0, 1, 2, 3, 5, 11, 12, 13, 15] (bts 21 47151) ?_; (refine jG (bts 21 47167) 4 rfl (g_ldS rfl rfl aS rfl rfl) ?_); (refine jG (bts 21 47231) 6 rfl (g_iaddrN rfl rfl oM) ?_); ((refine jG (bts 21 47359) 7 rfl (g_ldR1x rfl rfl aS ?_ aS rfl) ?_; (focus ((omega); done)))); (refine jG (bts 21 63743) 14 rfl (g_ldS rfl rfl aS rfl rfl) ?_); (refine jG (bts 21 129279) 16 rfl (g_iaddrN rfl rfl oM) ?_); ((refine jG (bts 21 260351) 17 rfl (g_ldR1x rfl rfl aS ?_ aS rfl) ?_; (focus ((omega); done)))); refine jA 8 rfl ?_; (refine c_rt rfl rfl rfl (c_l6Dec oM) rfl ?_); refine jS (bts 21 260607) ?_; refine jW 3 [9, 10] (bts 21 262143) ?_; refine jA 18 rfl ?_; (refine c_rt rfl rfl rfl cx_out rfl ?_); refine jS (bts 21 524287) ?_; refine jW 0 [19, 20] (bts 21 2097151) ?_; refine jQ ?_))
     all_goals
      refine Nx.re (d := 3) (v' := S (123 :: joinB 44 ((V.outs KS).take (i + 1)))) rfl (congrArg (fun l => S l) (by rw [hst]; simp)) ?_
      exact k_rd (i + 1) oM oM tU rfl sRr
    ·rw [if_neg hp0] at hst
     have hi0 : i = 0 := oM
     subst hi0
     repeat' (first | refine jM ?_ | (refine jo ?_; first | refine jV (g_ldS rfl rfl aS rfl rfl) ?_ | refine jV (g_lenL rfl) ?_) | (refine k_tt rfl (dTt oM) ?_) | (refine k_ff rfl rfl ?_) | (refine k_any (s_any (id := 12) _ (fun _ h => h) mixed ?_); refine jT 12 [0, 1, 2, 3, 5, 11, 12, 13, 15] (bts 21 47151) ?_; (refine jG (bts 21 47167) 4 rfl (g_ldS rfl rfl aS rfl rfl) ?_); (refine jG (bts 21 47231) 6 rfl (g_iaddrN rfl rfl oM) ?_); ((refine jG (bts 21 47359) 7 rfl (g_ldR1x rfl rfl aS ?_ aS rfl) ?_; (focus ((omega); done)))); (refine jG (bts 21 63743) 14 rfl (g_ldS rfl rfl aS rfl rfl) ?_); (refine jG (bts 21 129279) 16 rfl (g_iaddrN rfl rfl oM) ?_); ((refine jG (bts 21 260351) 17 rfl (g_ldRFx rfl rfl aS ?_ aS rfl rfl) ?_; (focus ((omega); done)))); refine jA 8 rfl ?_; (refine c_rt rfl rfl rfl (c_l6Dec oM) rfl ?_); refine jS (bts 21 260607) ?_; refine jW 3 [9, 10] (bts 21 262143) ?_; refine jA 18 rfl ?_; (refine c_rt rfl rfl rfl cx_out rfl ?_); refine jS (bts 21 524287) ?_; refine jW 0 [19, 20] (bts 21 2097151) ?_; refine jQ ?_))
     all_goals
      refine Nx.re (d := 3) (v' := S (123 :: joinB 44 ((V.outs KS).take (0 + 1)))) rfl (congrArg (fun l => S l) (by rw [hst]; simp [joinB])) ?_
      exact k_rd (0 + 1) oM oM tU rfl sRr
   ·have hin : i = fs.length := oM
    repeat' (first | (refine jX ?_) | (refine jo ?_; first | refine jV (g_ldS rfl rfl aS rfl rfl) ?_ | refine jV (g_lenL rfl) ?_) | (refine k_ff rfl (dFf oM) ?_))
    refine jY (vs := [_]) ?_
    rw [oneOf_one, V.out, hin, ← hml, ← hol, List.take_length]; rfl
  refine jE [(0, _)] Tryz.func22 Tryz.ntmps22 fun B hB => ?_
  repeat' (first | (refine jX ?_) | (refine jo ?_; first | refine jV (g_ldS rfl rfl aS rfl rfl) ?_ | (refine c_rt rfl rfl rfl cx_nmd rfl ?_)) | (refine k_tt rfl rfl ?_) | (refine k_ff rfl rfl ?_))
  refine jY (vs := [_]) ?_
  rfl
 | enm k b tgb t d h0 h1 h2 h3 =>
  intro _
  obtain ⟨r, rfl⟩ := refT_64 h0.1
  have htg := refT_W hw h0.1 h1
  have hdl := decI_len6' htg.1
  have cx_nmd : PuG Tryz.prog 51 [Pt b 0] G (· = S (V.out (.nd 69 [] d.tag []))) := by
   refine jE [(0, _)] Tryz.func51 Tryz.ntmps51 fun B hB => ?_
   repeat' (first | (refine jX ?_) | (refine jo ?_; first | refine jV (g_ldS rfl rfl aS rfl rfl) ?_ | (refine jV (g_iaddr rfl rfl oM) ?_) | (refine c_rt rfl rfl rfl (c_l6Dec oM) rfl ?_)) | (refine k_tt rfl rfl ?_) | (refine k_ff rfl rfl ?_))
   refine jY (vs := [_]) ?_
   rw [oneOf_one, V.out]; rfl
  refine jE [(0, _)] Tryz.func22 Tryz.ntmps22 fun B hB => ?_
  repeat' (first | (refine jX ?_) | (refine jo ?_; first | refine jV (g_ldS rfl rfl aS rfl rfl) ?_ | (refine c_rt rfl rfl rfl cx_nmd rfl ?_)) | (refine k_tt rfl rfl ?_) | (refine k_ff rfl rfl ?_))
  refine jY (vs := [_]) ?_
  rfl
 | uni k b tgb kb b' cc t d v hcc h0 h1 h2 h3 h4 hk ih =>
  intro ht
  obtain ⟨r, rfl⟩ := refT_64 h0.1
  have htg := refT_W hw h0.1 h1
  have hdl := decI_len6' htg.1
  simp only [nd_tot, V.tots] at ht
  have cx_out := ih oM
  have hob := outR hw hk
  unfold OutB at hob
  have cx_nmd : PuG Tryz.prog 51 [Pt b 0] G (· = S (V.out (.nd 85 [] d.tag [v]))) := by
   refine jE [(0, _)] Tryz.func51 Tryz.ntmps51 fun B hB => ?_
   repeat' (first | (refine jR ?_) | (refine jo ?_; (refine jV (g_ldS rfl rfl aS rfl rfl) ?_)) | (refine k_tt rfl rfl ?_) | (refine k_any (s_any (id := 3) _ (fun _ h => h) mixed ?_); refine jT 13 [0, 1, 2, 9, 10, 11] (bts 19 3591) ?_; (refine jG (bts 19 3599) 3 rfl (g_ldS rfl rfl aS rfl rfl) ?_); (refine jG (bts 19 3615) 4 rfl (g_iaddr rfl rfl oM) ?_); (refine jG (bts 19 3647) 5 rfl (g_ldS rfl rfl aS rfl rfl) ?_); (refine jG (bts 19 7743) 12 rfl (g_ldS rfl rfl aS rfl rfl) ?_); (refine jG (bts 19 15935) 13 rfl (g_iaddr rfl rfl oM) ?_); (refine jG (bts 19 32319) 14 rfl (g_ldS rfl rfl aS rfl rfl) ?_); refine jA 6 rfl ?_; (refine c_rt rfl rfl rfl (c_l6Dec oM) rfl ?_); refine jS (bts 19 32383) ?_; refine jW 4 [7, 8] (bts 19 32767) ?_; refine jA 15 rfl ?_; (refine c_rt rfl rfl rfl cx_out rfl ?_); refine jS (bts 19 65535) ?_; refine jW 0 [16, 17, 18] (bts 19 524287) ?_; refine jQ ?_))
   all_goals refine jY (vs := [_]) ?_
   all_goals (rw [oneOf_one, V.out]; simp [V.outs, outW, joinB])
  clear cx_out
  refine jE [(0, _)] Tryz.func22 Tryz.ntmps22 fun B hB => ?_
  repeat' (first | (refine jX ?_) | (refine jo ?_; first | refine jV (g_ldS rfl rfl aS rfl rfl) ?_ | (refine c_rt rfl rfl rfl cx_nmd rfl ?_)) | (refine k_tt rfl rfl ?_) | (refine k_ff rfl rfl ?_))
  refine jY (vs := [_]) ?_
  rfl
end Go.E
namespace Go.E
set_option maxRecDepth 20000
set_option maxHeartbeats 2000000
open Go.Proofs
variable {G : Gh}
abbrev tPtr : TypeId := 38
abbrev tRd : TypeId := 41
def ReadC (n : Nat) (u : Value) (vs : List TyX) : Prop := ∀ (G : Gh) (k s : List UInt8), SchR G u vs → kindIn (tys vs) k = true → s.length ≤ 2000000 →
 FnS Tryz.prog 50 [Ag [u], S s, S k, I (n : Nat)] G (ReadP (tys vs) (rd (tys vs) n k s) k)
theorem c_listS {n : Nat} {u : Value} {vs : List TyX} {k s : List UInt8} (hR : ReadC n u vs) (h : SchR G u vs) (hk : kindIn (tys vs) k = true) (hs : s.length ≤ 2000000) (hn : n ≤ 1000) :
  FnS Tryz.prog 90 [Ag [u], S s, S (91 :: k), I (n + 1 : Nat)] G (ReadP (tys vs) (rdList (rd (tys vs) n k) (91 :: s)) (91 :: k)) := by
 have edn : ((n + 1 : Nat) : Int) - 1 = (n : Nat) := oM
 by_cases h93 : ∃ s2, s = 93 :: s2
 ·obtain ⟨s2, rfl⟩ := h93
  refine jB [(0, _), (1, _), (2, _), (3, _)] Tryz.func90 Tryz.ntmps90 fun B hok hB hW => ?_
  repeat' (first | (refine jX ?_) | (refine jo ?_; first | refine jO fun _ => ?_ | refine jV (g_bld rfl rfl) ?_ | (refine jAt rfl ?_)) | (refine k_gt rfl rfl rfl ?_) | (refine k_tt rfl rfl ?_) | (refine k_any (s_any (id := 3) _ (fun _ h => h) mixed ?_); refine jW 0 [0, 1, 2, 3, 4, 5] (bts 6 63) ?_; refine jQ ?_))
  rename_i x4 x11
  refine Nx.sealC (b := x11) fun G2 hG2 hsy => ?_
  refine jZ (vs := [_, _, _]) rfl ⟨rfl, rfl, rfl, trivial⟩ rfl ⟨hG2, rfl, ?_⟩
  rw [oneOf_three]
  exact ⟨_, _, _, rfl, fun _ => ⟨.nd 91 [] 0 [], x11, rfl, rfl, .lst k x11 [] [] none 0 hsy ⟨rfl, .inl ⟨rfl, rfl⟩⟩ rfl (fun i hi => absurd hi (by simp))⟩, fun h => (by cases h)⟩
 have hRl : rdList (rd (tys vs) n k) (91 :: s) = (rdItems (rd (tys vs) n k) 20 s []).map fun x => (.nd 91 [] 0 x.1, x.2) := by
  unfold rdList
  dsimp only
  rw [if_pos (show (91 : UInt8).toNat = 91 from rfl)]
  cases s with
  | nil =>
   have : rd (tys vs) n k [] = none := by
    cases h : rd (tys vs) n k [] with
    | none => rfl
    | some x => have := rd_short h; simp at this
   simp [rdItems, this]
  | cons e r' =>
   dsimp only
   rw [if_neg]
   intro h; exact h93 ⟨r', by rw [show e = 93 from UInt8.toNat_inj.1 h]⟩
 have hs0 : s = [] ∨ s ≠ [] ∧ ¬ ((bt s (Int.toNat 0) : Nat) : Int) = 93 := by
  cases s with
  | nil => exact .inl rfl
  | cons e r' =>
   refine .inr ⟨by simp, fun h => h93 ⟨r', ?_⟩⟩
   have : bt (e :: r') (Int.toNat 0) = e.toNat := bt_zero e r'
   rw [show e = 93 from UInt8.toNat_inj.1 (show e.toNat = 93 by omega)]
 have hkl : k.length ≤ 1000 := by
  have := (kindOk_kOk (kindIn_ok hk)).2
  omega
 have hslen : s = [] ∨ 0 < s.length := by cases s <;> simp
 rcases hs0 with hs0 | ⟨hs0, hs1⟩
 all_goals
  have hslen2 : s ≠ [] → 0 < s.length := fun h => by rcases hslen with h' | h'; exact absurd h' h; exact h'
  try have hslen3 := hslen2 hs0
  refine jB [(0, _), (1, _), (2, _), (3, _)] Tryz.func90 Tryz.ntmps90 fun B hok hB hW => ?_
  repeat' (first | refine jM ?_ | (refine jo ?_; first | refine jO fun _ => ?_ | refine jV (g_bld rfl rfl) ?_ | (refine jAt rfl ?_) | (refine jAf rfl ?_)) | (refine k_gt rfl rfl (dTt ‹_›) ?_) | (refine k_gf rfl rfl ?_ ?_; (focus ((simp [*]; done); done))) | (refine k_ff rfl (by first | rfl | (refine decide_eq_false ?_; (assumption))) ?_))
  rename_i x4 x11
  refine Nx.addNil tPtr 1 ?_
  refine k_loop (ι := List V × List Nat × Option Addr × Nat × List UInt8 × Gh) (fun q => ((q.2.1.length = q.1.length ∧ ∀ i, i < q.1.length → RepR q.2.2.2.2.2 (tys vs) (nth q.1 i) k (nth q.2.1 i)) ∧ Gh.le G q.2.2.2.2.2) ∧ rdItems (rd (tys vs) n k) 20 s [] = rdItems (rd (tys vs) n k) (20 - q.1.length) q.2.2.2.2.1 q.1 ∧ q.1.length ≤ 20 ∧ q.2.2.2.2.1.length ≤ s.length) (fun q => [(1, S q.2.2.2.2.1), (2, S (91 :: k)), (3, I (n + 1 : Nat)), (4, Pt x4 0), (11, Pt x11 0)]) (fun q => q.2.2.2.2.2) (fun q => [.acc (.slice q.2.2.1 q.1.length q.2.2.2.1) tPtr 1 q.1.length (rows ptR q.2.1), .blk x11 (.cells (List.toArray [S (91 :: k), S [], nilS, .slice q.2.2.1 q.1.length q.2.2.2.1]) tLv (0, 0)), .blk x4 (.cells (List.toArray [u]) tRd (0, 0))]) (fun q => 20 - q.1.length) ([], [], none, 0, s, G) ?_ tU rfl sRr (fun q Hq => ?_)
  ·exact ⟨⟨⟨rfl, fun i hi => absurd hi (by simp)⟩, Gh.le.refl _⟩, rfl, Nat.zero_le _, Nat.le_refl _⟩
  obtain ⟨ws, bs, a, cap, t, Gq⟩ := q
  dsimp only at Hq ⊢
  obtain ⟨⟨⟨hbl, hreps⟩, hgq⟩, hit, hwl, htl⟩ := Hq
  by_cases h20 : ws.length < 20
  case neg =>
   have e20 : 20 - ws.length = 0 := oM
   repeat' (first | (refine jR ?_) | (refine jo ?_; first | refine jAl rfl ?_ | refine jV (g_lenL rfl) ?_) | (refine k_ff rfl (dFf oM) ?_))
   refine jZ (vs := [_, _, _]) rfl ⟨rfl, rfl, rfl, trivial⟩ rfl ⟨hgq, rfl, ?_⟩
   rw [oneOf_three]
   exact ⟨_, _, _, rfl, fun h => (by cases h), fun _ => by rw [hRl, hit, e20]; rfl⟩
  have cx_rd := hR Gq k t (h.mono hgq) hk oM
  rw [← edn] at cx_rd
  repeat' (first | (refine jR ?_) | (refine jo ?_; first | refine jAl rfl ?_ | refine jV (g_lenL rfl) ?_) | (refine k_tt rfl (dTt oM) ?_))
  (refine k_any (s_any (id := 5) _ (fun _ h => h) mixed ?_); refine jW 9 [1, 2, 3, 4, 5] (bts 14 62) ?_; (refine jG (bts 14 63) 0 rfl (g_ldA rfl rfl rfl rfl) ?_); refine jA 6 rfl ?_; (refine c_fns rfl rfl rfl cx_rd rfl ?_; rintro _ G hle ⟨q1, r1, ok1, rfl, hyes, hno⟩; skip); refine jS (bts 14 127) ?_; refine jT 0 [7, 8, 9, 10, 11, 12, 13] (bts 14 16383) ?_; refine jQ ?_)
  have hgl := hgq.trans hle
  cases ok1 with
  | false =>
   have hnone : rdItems (rd (tys vs) n k) (20 - ws.length) t ws = none := items_none (.inl (hno rfl))
   repeat' (first | (refine jR ?_) | (refine jo ?_; (refine jAt rfl ?_)) | (refine k_gt rfl rfl rfl ?_) | (refine k_tt rfl rfl ?_))
   refine jZ (vs := [_, _, _]) rfl ⟨rfl, rfl, rfl, trivial⟩ rfl ⟨hgl, rfl, ?_⟩
   rw [oneOf_three]
   exact ⟨_, _, _, rfl, fun h => (by cases h), fun _ => by rw [hRl, hit, hnone]; rfl⟩
  | true =>
   obtain ⟨w, wb, rfl, hf, hrep⟩ := hyes rfl
   have hsh := rd_short hf
   cases r1 with
   | nil =>
    have hnone : rdItems (rd (tys vs) n k) (20 - ws.length) t ws = none := items_none (.inr ⟨w, hf⟩)
    repeat' (first | (refine jR ?_) | (refine jo ?_; first | (refine jAt rfl ?_) | (refine jAf rfl ?_)) | (refine k_gt rfl rfl rfl ?_) | (refine k_gf rfl rfl rfl ?_) | (refine k_tt rfl rfl ?_))
    refine jZ (vs := [_, _, _]) rfl ⟨rfl, rfl, rfl, trivial⟩ rfl ⟨hgl, rfl, ?_⟩
    rw [oneOf_three]
    exact ⟨_, _, _, rfl, fun h => (by cases h), fun _ => by rw [hRl, hit, hnone]; rfl⟩
   | cons e r2 =>
    have hstep := items_step (vs := ws) hf (show 0 < 20 - ws.length by omega)
    have he0 : bt (e :: r2) (Int.toNat 0) = e.toNat := bt_zero e r2
    simp only [List.length_cons] at hsh
    have hel : (e :: r2).length = r2.length + 1 := rfl
    have hrow : rows ptR bs ++ [Pt wb 0] = rows ptR (bs ++ [wb]) := (rows_snoc ptR bs wb).symm
    have hwl1 : (ws ++ [w]).length = ws.length + 1 := by simp
    have hbl1 : (bs ++ [wb]).length = (ws ++ [w]).length := by simp [hbl]
    have hrp : ∀ i, i < (ws ++ [w]).length → RepR G (tys vs) (nth (ws ++ [w]) i) k (nth (bs ++ [wb]) i) := fun i hi => by
     by_cases h1 : i < ws.length
     ·have e1 : nth (ws ++ [w]) i = nth ws i := by rw [nth_eq hi, nth_eq h1, List.getElem_append_left h1]
      have e2 : nth (bs ++ [wb]) i = nth bs i := by rw [nth_eq oM, nth_eq oM, List.getElem_append_left oM]
      rw [e1, e2]; exact (hreps i h1).mono hle
     ·have h2 : i = ws.length := oM
      have e1 : nth (ws ++ [w]) i = w := by rw [nth_eq hi]; simp [h2]
      have e2 : nth (bs ++ [wb]) i = wb := by rw [nth_eq oM]; simp [h2, hbl]
      rw [e1, e2]; exact hrep
    by_cases h44 : e.toNat = 44
    ·rw [if_pos h44] at hstep
     have hn93 : ¬ e.toNat = 93 := oM
     repeat' (first | refine jM ?_ | (refine jo ?_; first | (refine jAf rfl ?_) | refine jAl rfl ?_ | refine jF fun _ => ?_ | (refine c_apX rfl rfl rfl rfl rfl rfl rfl rfl rfl oM fun _ _ => ?_) | refine jD rfl rfl rfl ?_) | (refine k_gf rfl rfl (by first | rfl | (refine decide_eq_false ?_; (omega))) ?_) | (refine k_ff rfl (by first | rfl | (refine decide_eq_false ?_; (omega))) ?_))
     rename_i y0 y1 yc
     rw [hrow]
     exact k_rd (ws ++ [w], bs ++ [wb], some ⟨y1, 0, none⟩, yc, r2, G) ⟨⟨⟨hbl1, hrp⟩, hgl⟩, (by dsimp only; rw [hit, hstep, hwl1, Nat.sub_sub]), (by dsimp only; omega), (by dsimp only; omega)⟩ (by dsimp only; omega) tU rfl (by rw [hwl1]; repeat (first | exact List.Sublist.refl _ | apply List.Sublist.cons_cons | apply List.Sublist.cons))
    ·rw [if_neg h44] at hstep
     by_cases h93' : e.toNat = 93
     ·rw [if_pos h93'] at hstep
      repeat' (first | refine jM ?_ | (refine jo ?_; first | (refine jAt rfl ?_) | (refine jAf rfl ?_) | refine jAl rfl ?_ | refine jF fun _ => ?_ | (refine c_apX rfl rfl rfl rfl rfl rfl rfl rfl rfl oM fun _ _ => ?_) | refine jD rfl rfl rfl ?_) | (refine k_gt rfl rfl (dTt oM) ?_) | (refine k_gf rfl rfl rfl ?_) | (refine k_tt rfl (dTt oM) ?_) | (refine k_ff rfl (dFf oM) ?_))
      rename_i y0 y1 yc
      rw [hrow]
      refine Nx.sealS (v := .slice (some ⟨y1, 0, none⟩) (ws.length + 1) yc) fun G2 hG2 hsl => ?_
      refine Nx.sealC (b := x11) fun G3 hG3 hsg => ?_
      refine jZ (vs := [_, _, _]) rfl ⟨rfl, rfl, rfl, trivial⟩ rfl ⟨((hgl.trans hG2).trans hG3), rfl, ?_⟩
      rw [oneOf_three]
      exact ⟨_, _, _, rfl, fun _ => ⟨.nd 91 [] 0 (ws ++ [w]), x11, rfl, by rw [hRl, hit, hstep]; rfl, .lst k x11 _ (bs ++ [wb]) (some ⟨y1, 0, none⟩) yc (by rw [hwl1]; exact hsg) (by rw [hwl1]; exact hsl.mono hG3) hbl1 (fun i hi => (hrp i hi).mono (hG2.trans hG3))⟩, fun h => (by cases h)⟩
     ·rw [if_neg h93'] at hstep
      repeat' (first | refine jM ?_ | (refine jo ?_; first | (refine jAt rfl ?_) | (refine jAf rfl ?_)) | (refine k_gt rfl rfl (dTt oM) ?_) | (refine k_gf rfl rfl rfl ?_) | (refine k_tt rfl (dTt oM) ?_))
      refine jZ (vs := [_, _, _]) rfl ⟨rfl, rfl, rfl, trivial⟩ rfl ⟨hgl, rfl, ?_⟩
      rw [oneOf_three]
      exact ⟨_, _, _, rfl, fun h => (by cases h), fun _ => by rw [hRl, hit, hstep]; rfl⟩
section
variable {P : Program} {n : Nat} {D : List Deferred} {E : Env} {M : World → Prop} {d : Option Nat} {ty : TypeId} {pos : String} {aft : Array Edge} {gd : Option (Nat × Bool)}
theorem g_ldB1 {T T0 : TypeId} {x : Operand} {desc : TypeDesc} {size bytes b m cap i : Nat} {zero : Value} {G0 : Gh} {L0 : List Own} {cs : List Int} {xs : List Value} {y : Int} [TI P T desc size bytes zero] [Kn M G0 L0] [h : AccB L0 b m cap T0 1 xs] (hx : ev E x = some (Pt b (0 + i * 1))) (ha : aggD desc = false) (hxs : xs = rows inR cs) (hi : i < cs.length) (hy : nth cs i = y) :
  Gives P n D E M ⟨d, .load T x, ty, pos, aft, gd⟩ (I y) := g_load hx ha (by
 have := (cells_acc (S := M) h.mem).go (i * 1 + 0) (I y) (by rw [hxs, rows_get hi oM, hy]; rfl)
 simpa using this)
end
def lastT (fs : List (Fld × V)) : Int := match fs.getLast? with
 | some p => p.1.tag
 | none => 0
def nd61 (fs : List (Fld × V)) : List V := fs.map fun p => .nd 61 [] p.1.tag [p.2]
theorem lastT_snoc (fs : List (Fld × V)) (p : Fld × V) : lastT (fs ++ [p]) = p.1.tag := by simp [lastT]
abbrev tPtr2 : TypeId := 38
abbrev tInt2 : TypeId := 3
abbrev tFd : TypeId := 141
abbrev tTyB : TypeId := 86
theorem c_recordS {n : Nat} {u : Value} {vs : List TyX} {x : TyX} {k s : List UInt8} (hR : ReadC n u vs) (h : SchR G u vs) (hw : SchW (tys vs)) (hx : x ∈ vs) (hrf : refT (tys vs) k = some x.2) (hso : x.2.sort = 82) (hs : s.length ≤ 2000000) (hn : n ≤ 1000) (hkl : k.length ≤ 1000) :
  FnS Tryz.prog 125 [Ag [u], S s, S k, Ag (tyF x), I (n + 1 : Nat)] G (ReadP (tys vs) (rdTyped (tys vs) (rd (tys vs) n) x.2 (123 :: s)) k) := by
 have edn : ((n + 1 : Nat) : Int) - 1 = (n : Nat) := oM
 have hxt : x.2 ∈ tys vs := List.mem_map_of_mem hx
 have hTW := hw.ty _ hxt
 have hfl := hTW.len
 by_cases h125 : ∃ s2, s = 125 :: s2
 ·obtain ⟨s2, rfl⟩ := h125
  have hgood : rdTyped (tys vs) (rd (tys vs) n) x.2 (123 :: 125 :: s2) = some (.nd 82 [] 0 [], s2) := by
   unfold rdTyped
   dsimp only
   rw [if_pos hso, if_pos (show (123 : UInt8).toNat = 123 from rfl), if_pos (show (125 : UInt8).toNat = 125 from rfl)]
  refine jB [(0, _), (1, _), (2, _), (3, _), (4, _)] Tryz.func125 Tryz.ntmps125 fun B hok hB hW => ?_
  repeat' (first | (refine jX ?_) | (refine jo ?_; first | refine jO fun _ => ?_ | refine jV (g_bld rfl rfl) ?_ | (refine jAt rfl ?_)) | (refine k_gt rfl rfl rfl ?_) | (refine k_tt rfl rfl ?_) | (refine k_any (s_any (id := 3) _ (fun _ h => h) mixed ?_); refine jW 0 [0, 1, 2, 3, 4, 5] (bts 6 63) ?_; refine jQ ?_))
  rename_i x5 x8 x13
  refine Nx.sealC (b := x13) fun G2 hG2 hsy => ?_
  refine jZ (vs := [_, _, _]) rfl ⟨rfl, rfl, rfl, trivial⟩ rfl ⟨hG2, rfl, ?_⟩
  rw [oneOf_three]
  exact ⟨_, _, _, rfl, fun _ => ⟨.nd 82 [] 0 [], x13, rfl, hgood, .recd k x13 x.2 [] [] none none 0 0 ⟨hrf, hso⟩ hsy ⟨rfl, .inl ⟨rfl, rfl⟩⟩ ⟨rfl, .inl ⟨rfl, rfl⟩⟩ rfl (fun i hi => absurd hi (by simp)) (fun i hi => absurd hi (by simp))⟩, fun h => (by cases h)⟩
 have hRl : rdTyped (tys vs) (rd (tys vs) n) x.2 (123 :: s) = (rdFlds (tys vs) (rd (tys vs) n) x.2 (s.length + 1) 0 s []).map fun x => (.nd 82 [] 0 x.1, x.2) := by
  unfold rdTyped
  dsimp only
  rw [if_pos hso, if_pos (show (123 : UInt8).toNat = 123 from rfl)]
  cases s with
  | nil => rw [flds_none rdField_nil]; rfl
  | cons e r' =>
   dsimp only
   rw [if_neg]
   intro h; exact h125 ⟨r', by rw [show e = 125 from UInt8.toNat_inj.1 h]⟩
 have hs0 : s = [] ∨ s ≠ [] ∧ ¬ ((bt s (Int.toNat 0) : Nat) : Int) = 125 := by
  cases s with
  | nil => exact .inl rfl
  | cons e r' =>
   refine .inr ⟨by simp, fun h => h125 ⟨r', ?_⟩⟩
   have : bt (e :: r') (Int.toNat 0) = e.toNat := bt_zero e r'
   rw [show e = 125 from UInt8.toNat_inj.1 (show e.toNat = 125 by omega)]
 have hslen : s = [] ∨ 0 < s.length := by cases s <;> simp
 rcases hs0 with hs0 | ⟨hs0, hs1⟩
 ·subst hs0
  have cx_tg := c_tag (G := G) (u := u) (x := x) (s := []) (by simp) h.sl.one (h.fl x hx) oM
  have e0 : numOf (([] : List UInt8).takeWhile isDg) 200 = none := by
   cases h : numOf (([] : List UInt8).takeWhile isDg) 200 with
   | none => rfl
   | some m =>
    have := (numOf_le h).2.1
    have h2 := decI_pos m
    rw [← this] at h2; simp at h2
  rw [e0] at cx_tg
  refine jB [(0, _), (1, _), (2, _), (3, _), (4, _)] Tryz.func125 Tryz.ntmps125 fun B hok hB hW => ?_
  repeat' (first | (refine jR ?_) | (refine jo ?_; first | refine jO fun _ => ?_ | refine jV (g_bld rfl rfl) ?_ | (refine jAf rfl ?_)) | (refine k_gf rfl rfl rfl ?_) | (refine k_ff rfl rfl ?_))
  rename_i x5 x8 x13
  refine k_loop (ι := Unit) (fun i => True) (fun i => [(1, S []), (2, S k), (4, I (n + 1 : Nat)), (5, Pt x5 0), (8, Pt x8 0), (13, Pt x13 0)]) (fun _ => G) (fun i => [.blk x13 (.cells (List.toArray [S k, S [82], nilS, nilS]) tLv (0, 0)), .blk x8 (.cells (List.toArray [U8 x.2.sort, S x.2.name, slX x]) tTyB (0, 0)), .blk x5 (.cells (List.toArray [u]) tRd (0, 0))]) (fun i => 0) () ?_ tU rfl sRr (fun i Hi => ?_)
  ·trivial
  repeat' (first | (refine jR ?_) | (refine jo ?_; first | refine jAm rfl ?_ | refine jL fun _ => ?_ | refine jC rfl rfl rfl ?_ | (refine c_pu rfl rfl rfl cx_tg rfl ?_; rintro _ ⟨nt, rfl, hnt⟩)) | (refine k_tt rfl rfl ?_) | (refine k_any (s_any (id := 5) _ (fun _ h => h) mixed ?_); refine jT 33 [0, 1, 2] (bts 36 7) ?_; (try (refine Nx.re (d := 43) (v' := Bo true) rfl (congrArg Value.bool rfl) ?_)); refine jT 31 [3, 4] (bts 36 31) ?_; (refine jG (bts 36 63) 5 rfl (g_pickT rfl rfl rfl) ?_); refine jT 29 [6] (bts 36 127) ?_; (try (refine Nx.re (d := 47) (v' := Bo true) rfl (congrArg Value.bool rfl) ?_)); refine jT 26 [7, 8, 9] (bts 36 1023) ?_; (refine jG (bts 36 2047) 10 rfl (g_pickT rfl rfl rfl) ?_); refine jT 24 [11] (bts 36 4095) ?_; (try (refine Nx.re (d := 52) (v' := Bo true) rfl (congrArg Value.bool rfl) ?_)); refine jT 21 [12, 13, 14] (bts 36 32767) ?_; (refine jN (bts 36 65535) 15 rfl ?_); (refine jN (bts 36 131071) 16 rfl ?_); refine jT 17 [17, 18] (bts 36 524287) ?_; (try (fail)); refine jT 10 [19, 20, 21, 23, 24, 25, 31] (bts 36 2210398207) ?_; (refine jN (bts 36 2214592511) 22 rfl ?_); (refine jN (bts 36 2281701375) 26 rfl ?_); (refine jN (bts 36 2415919103) 27 rfl ?_); refine jT 6 [28] (bts 36 2684354559) ?_; (refine jN (bts 36 3221225471) 29 rfl ?_); (refine jN (bts 36 4294967295) 30 rfl ?_); (refine jN (bts 36 8589934591) 32 rfl ?_); refine jT 2 [33] (bts 36 17179869183) ?_; (refine jN (bts 36 34359738367) 34 rfl ?_); (refine jG (bts 36 68719476735) 35 rfl (g_pickT rfl rfl rfl) ?_); refine jQ ?_))
  all_goals refine jZ (vs := [_, _, _]) rfl ⟨rfl, rfl, rfl, trivial⟩ rfl ⟨Gh.le.refl _, rfl, ?_⟩
  all_goals (rw [oneOf_three]; exact ⟨_, _, _, rfl, fun h => (by cases h), fun _ => by rw [hRl, flds_none rdField_nil]; rfl⟩)
 ·have hslen3 : 0 < s.length := List.length_pos_iff.2 hs0
  refine jB [(0, _), (1, _), (2, _), (3, _), (4, _)] Tryz.func125 Tryz.ntmps125 fun B hok hB hW => ?_
  repeat' (first | refine jM ?_ | (refine jo ?_; first | refine jO fun _ => ?_ | refine jV (g_bld rfl rfl) ?_ | (refine jAt rfl ?_)) | (refine k_gt rfl rfl (dTt ‹_›) ?_) | (refine k_ff rfl (dFf ‹_›) ?_))
  rename_i x5 x8 x13
  refine Nx.addNil tInt2 1 (Nx.addNil tPtr2 1 ?_)
  refine k_loop (ι := List (Fld × V) × List Nat × Option Addr × Nat × Option Addr × Nat × List UInt8 × Nat × Gh) (fun q => ((q.2.1.length = q.1.length ∧ (∀ i, i < q.1.length → (nth q.1 i).1 ∈ x.2.fields) ∧ ∀ i, i < q.1.length → RepR q.2.2.2.2.2.2.2.2 (tys vs) (nth q.1 i).2 (nth q.1 i).1.kind (nth q.2.1 i)) ∧ Gh.le G q.2.2.2.2.2.2.2.2) ∧ (rdFlds (tys vs) (rd (tys vs) n) x.2 (s.length + 1) 0 s [] = rdFlds (tys vs) (rd (tys vs) n) x.2 q.2.2.2.2.2.2.2.1 (lastT q.1) q.2.2.2.2.2.2.1 (nd61 q.1) ∧ q.2.2.2.2.2.2.1.length < q.2.2.2.2.2.2.2.1) ∧ q.2.2.2.2.2.2.1.length ≤ s.length ∧ q.1.length + q.2.2.2.2.2.2.1.length ≤ s.length) (fun q => [(1, S q.2.2.2.2.2.2.1), (2, S k), (4, I (n + 1 : Nat)), (5, Pt x5 0), (8, Pt x8 0), (13, Pt x13 0)]) (fun q => q.2.2.2.2.2.2.2.2) (fun q => [.acc (.slice q.2.2.2.2.1 q.1.length q.2.2.2.2.2.1) tPtr2 1 q.1.length (rows ptR q.2.1), .acc (.slice q.2.2.1 q.1.length q.2.2.2.1) tInt2 1 q.1.length (rows inR (q.1.map fun p => p.1.tag)), .blk x13 (.cells (List.toArray [S k, S [82], .slice q.2.2.1 q.1.length q.2.2.2.1, .slice q.2.2.2.2.1 q.1.length q.2.2.2.2.2.1]) tLv (0, 0)), .blk x8 (.cells (List.toArray [U8 x.2.sort, S x.2.name, slX x]) tTyB (0, 0)), .blk x5 (.cells (List.toArray [u]) tRd (0, 0))]) (fun q => q.2.2.2.2.2.2.1.length) ([], [], none, 0, none, 0, s, s.length + 1, G) ?_ tU rfl sRr (fun q Hq => ?_)
  ·exact ⟨⟨⟨rfl, fun i hi => absurd hi (by simp), fun i hi => absurd hi (by simp)⟩, Gh.le.refl _⟩, ⟨rfl, Nat.lt_succ_self _⟩, Nat.le_refl _, by simp⟩
  obtain ⟨fs, bs, a1, c1, a2, c2, t, m, Gq⟩ := q
  dsimp only at Hq ⊢
  obtain ⟨⟨⟨hbl, hfm, hreps⟩, hgq⟩, ⟨hit, htm⟩, htl, hft⟩ := Hq
  have cx_tg := c_tag (G := Gq) (u := u) (x := x) (s := t) oM h.sl.one ((h.mono hgq).fl x hx) oM
  repeat' (first | (refine jR ?_) | (refine jo ?_; first | refine jAm rfl ?_ | refine jL fun _ => ?_ | refine jC rfl rfl rfl ?_ | (refine c_pu rfl rfl rfl cx_tg rfl ?_; rintro _ ⟨nt, rfl, hnt⟩)))
  have hnone : ∀ {v : Value} {G' : Gh} {r : List UInt8}, rdFlds (tys vs) (rd (tys vs) n) x.2 m (lastT fs) t (nd61 fs) = none → v = Tu [.pointer none, S r, Bo false] → ReadP (tys vs) (rdTyped (tys vs) (rd (tys vs) n) x.2 (123 :: s)) k v G' := fun h1 h2 => ⟨_, _, _, h2, fun h => (by cases h), fun _ => by rw [hRl, hit, h1]; rfl⟩
  cases hb16 : (numOf (t.takeWhile isDg) 200).isSome && (fldT x.2.fields nt).isSome with
  | false =>
   have hno : rdField (rd (tys vs) n) x.2 t = none := by
    cases hm : numOf (t.takeWhile isDg) 200 with
    | none => exact field_none (.inl hm)
    | some m0 =>
     refine field_none (.inr ⟨m0, hm, ?_⟩)
     rw [hm] at hb16
     rw [← hnt m0 hm]
     cases hf : fldT x.2.fields nt with
     | none => rfl
     | some d => rw [hf] at hb16; cases hb16
   (refine k_any (s_any (id := 5) _ (fun _ h => h) mixed ?_); refine jT 33 [0, 1, 2] (bts 36 7) ?_; (try (refine Nx.re (d := 43) (v' := Bo true) rfl (congrArg Value.bool rfl) ?_)); refine jT 31 [3, 4] (bts 36 31) ?_; (refine jG (bts 36 63) 5 rfl (g_pickT rfl rfl rfl) ?_); refine jT 29 [6] (bts 36 127) ?_; (try (refine Nx.re (d := 47) (v' := Bo true) rfl (congrArg Value.bool rfl) ?_)); refine jT 26 [7, 8, 9] (bts 36 1023) ?_; (refine jG (bts 36 2047) 10 rfl (g_pickT rfl rfl rfl) ?_); refine jT 24 [11] (bts 36 4095) ?_; (try (refine Nx.re (d := 52) (v' := Bo true) rfl (congrArg Value.bool rfl) ?_)); refine jT 21 [12, 13, 14] (bts 36 32767) ?_; (refine jN (bts 36 65535) 15 rfl ?_); (refine jN (bts 36 131071) 16 rfl ?_); refine jT 17 [17, 18] (bts 36 524287) ?_; (try (fail)); refine jT 10 [19, 20, 21, 23, 24, 25, 31] (bts 36 2210398207) ?_; (refine jN (bts 36 2214592511) 22 rfl ?_); (refine jN (bts 36 2281701375) 26 rfl ?_); (refine jN (bts 36 2415919103) 27 rfl ?_); refine jT 6 [28] (bts 36 2684354559) ?_; (refine jN (bts 36 3221225471) 29 rfl ?_); (refine jN (bts 36 4294967295) 30 rfl ?_); (refine jN (bts 36 8589934591) 32 rfl ?_); refine jT 2 [33] (bts 36 17179869183) ?_; (refine jN (bts 36 34359738367) 34 rfl ?_); (refine jG (bts 36 68719476735) 35 rfl (g_pickT rfl rfl rfl) ?_); refine jQ ?_)
   repeat' (first | (refine jR ?_) | (refine k_tt rfl rfl ?_))
   all_goals refine jZ (vs := [_, _, _]) rfl ⟨rfl, rfl, rfl, trivial⟩ rfl ⟨hgq, rfl, ?_⟩
   all_goals exact hnone (flds_none hno) rfl
  | true =>
   simp only [Bool.and_eq_true] at hb16
   obtain ⟨hb1, hb2⟩ := hb16
   obtain ⟨m0, hm⟩ := Option.isSome_iff_exists.1 hb1
   obtain ⟨d, hd⟩ := Option.isSome_iff_exists.1 hb2
   have hnm := hnt m0 hm
   subst hnm
   rw [hd]
   simp only [Option.getD_some]
   have hdm : d ∈ x.2.fields := List.mem_of_find?_eq_some hd
   have hdt : d.tag = nt := by have := List.find?_some hd; simpa using this
   have hwl := while_len isDg t
   cases hdw : t.dropWhile isDg with
   | nil =>
    have hno : rdField (rd (tys vs) n) x.2 t = none := field_noeq hm (fun s2 h => by rw [hdw] at h; cases h)
    (refine k_any (s_any (id := 5) _ (fun _ h => h) mixed ?_); refine jT 33 [0, 1, 2] (bts 36 7) ?_; (try (refine Nx.re (d := 43) (v' := Bo false) rfl (congrArg Value.bool rfl) ?_)); refine jT 31 [3, 4] (bts 36 31) ?_; (refine jG (bts 36 63) 5 rfl (g_pickF rfl rfl rfl) ?_); refine jT 29 [6] (bts 36 127) ?_; (try (refine Nx.re (d := 47) (v' := Bo true) rfl (congrArg Value.bool rfl) ?_)); refine jT 26 [7, 8, 9] (bts 36 1023) ?_; (refine jG (bts 36 2047) 10 rfl (g_pickT rfl rfl rfl) ?_); refine jT 24 [11] (bts 36 4095) ?_; (try (refine Nx.re (d := 52) (v' := Bo true) rfl (congrArg Value.bool rfl) ?_)); refine jT 21 [12, 13, 14] (bts 36 32767) ?_; (refine jN (bts 36 65535) 15 rfl ?_); (refine jN (bts 36 131071) 16 rfl ?_); refine jT 17 [17, 18] (bts 36 524287) ?_; (try (fail)); refine jT 10 [19, 20, 21, 23, 24, 25, 31] (bts 36 2210398207) ?_; (refine jN (bts 36 2214592511) 22 rfl ?_); (refine jN (bts 36 2281701375) 26 rfl ?_); (refine jN (bts 36 2415919103) 27 rfl ?_); refine jT 6 [28] (bts 36 2684354559) ?_; (refine jN (bts 36 3221225471) 29 rfl ?_); (refine jN (bts 36 4294967295) 30 rfl ?_); (refine jN (bts 36 8589934591) 32 rfl ?_); refine jT 2 [33] (bts 36 17179869183) ?_; (refine jN (bts 36 34359738367) 34 rfl ?_); (refine jG (bts 36 68719476735) 35 rfl (g_pickT rfl rfl rfl) ?_); refine jQ ?_)
    repeat' (first | (refine jR ?_) | (refine k_tt rfl rfl ?_))
    all_goals refine jZ (vs := [_, _, _]) rfl ⟨rfl, rfl, rfl, trivial⟩ rfl ⟨hgq, rfl, ?_⟩
    all_goals exact hnone (flds_none hno) rfl
   | cons e r2 =>
    have he0 : bt (e :: r2) (Int.toNat 0) = e.toNat := bt_zero e r2
    have hel : (e :: r2).length = r2.length + 1 := rfl
    by_cases h61 : e.toNat = 61
    case neg =>
     have hno : rdField (rd (tys vs) n) x.2 t = none := field_noeq hm (fun s2 h => by rw [hdw] at h; simp only [List.cons.injEq] at h; exact h61 (by rw [h.1]; rfl))
     (refine k_any (s_any (id := 5) _ (fun _ h => h) mixed ?_); refine jT 33 [0, 1, 2] (bts 36 7) ?_; (try (refine Nx.re (d := 43) (v' := Bo false) rfl (congrArg Value.bool rfl) ?_)); refine jT 31 [3, 4] (bts 36 31) ?_; (refine jG (bts 36 63) 5 rfl (g_pickF rfl rfl rfl) ?_); refine jT 29 [6] (bts 36 127) ?_; (try (refine Nx.re (d := 47) (v' := Bo false) rfl (congrArg Value.bool rfl) ?_)); refine jW 26 [7, 8, 9] (bts 36 1023) ?_; (refine jG (bts 36 2047) 10 rfl (g_pickF rfl rfl rfl) ?_); refine jT 24 [11] (bts 36 4095) ?_; (try ((refine Nx.re (d := 52) (v' := Bo true) rfl (congrArg Value.bool (dTt oM)) ?_))); refine jT 21 [12, 13, 14] (bts 36 32767) ?_; (refine jN (bts 36 65535) 15 rfl ?_); (refine jN (bts 36 131071) 16 rfl ?_); refine jT 17 [17, 18] (bts 36 524287) ?_; (try (fail)); refine jT 10 [19, 20, 21, 23, 24, 25, 31] (bts 36 2210398207) ?_; (refine jN (bts 36 2214592511) 22 rfl ?_); (refine jN (bts 36 2281701375) 26 rfl ?_); (refine jN (bts 36 2415919103) 27 rfl ?_); refine jT 6 [28] (bts 36 2684354559) ?_; (refine jN (bts 36 3221225471) 29 rfl ?_); (refine jN (bts 36 4294967295) 30 rfl ?_); (refine jN (bts 36 8589934591) 32 rfl ?_); refine jT 2 [33] (bts 36 17179869183) ?_; (refine jN (bts 36 34359738367) 34 rfl ?_); (refine jG (bts 36 68719476735) 35 rfl (g_pickT rfl rfl rfl) ?_); refine jQ ?_)
     repeat' (first | (refine jR ?_) | (refine k_tt rfl rfl ?_))
     all_goals refine jZ (vs := [_, _, _]) rfl ⟨rfl, rfl, rfl, trivial⟩ rfl ⟨hgq, rfl, ?_⟩
     all_goals exact hnone (flds_none hno) rfl
    have he61 : e = 61 := UInt8.toNat_inj.1 h61
    have hfs := field_some (f := rd (tys vs) n) (t := x.2) (s := t) hm hd (by rw [hdw, he61])
    have hm0 : 0 < m := oM
    have hflt : (fs.map fun p : Fld × V => p.1.tag).length = fs.length := by simp
    have hdt1 := ((hTW.fld d hdm).tag).1
    have hlast0 : fs.length = 0 → lastT fs = 0 := fun h0 => by rw [List.length_eq_zero_iff.1 h0]; rfl
    have hlast1 : 0 < fs.length → nth (fs.map fun p : Fld × V => p.1.tag) (((fs.length : Nat) : Int) - 1).toNat = lastT fs := fun h0 => by
     have e1 : (((fs.length : Nat) : Int) - 1).toNat = fs.length - 1 := oM
     rw [e1, nth_eq (by rw [hflt]; omega)]
     unfold lastT
     rw [List.getLast?_eq_getElem?, List.getElem?_eq_getElem oM]
     simp
    rename_i x14
    have hf0 : fs.length = 0 ∨ 0 < fs.length := oM
    by_cases hlt : d.tag ≤ lastT fs
    ·have hpos : 0 < fs.length := by
      rcases hf0 with h0 | h0
      ·have := hlast0 h0; omega
      ·exact h0
     have hyl := hlast1 hpos
     have hno : rdFlds (tys vs) (rd (tys vs) n) x.2 m (lastT fs) t (nd61 fs) = none := by
      cases hy : rd (tys vs) n d.kind r2 with
      | none => exact flds_none (by rw [hfs, hy]; rfl)
      | some y =>
       obtain ⟨w, r3⟩ := y
       rw [flds_step (d := d) (v := w) (r := r3) (by rw [hfs, hy]; rfl) hm0, if_pos (.inl hlt)]
     refine Nx.shp (v := .slice a1 fs.length c1) (.tail _ (.tail _ (.head _))) fun hsh => ?_
     obtain ⟨tb1, tc1, e1⟩ := hsh.pos oM
     simp only [Value.slice.injEq] at e1
     obtain ⟨rfl, -, rfl⟩ := e1
     (refine k_any (s_any (id := 5) _ (fun _ h => h) mixed ?_); refine jT 33 [0, 1, 2] (bts 36 7) ?_; (try (refine Nx.re (d := 43) (v' := Bo false) rfl (congrArg Value.bool rfl) ?_)); refine jT 31 [3, 4] (bts 36 31) ?_; (refine jG (bts 36 63) 5 rfl (g_pickF rfl rfl rfl) ?_); refine jT 29 [6] (bts 36 127) ?_; (try (refine Nx.re (d := 47) (v' := Bo false) rfl (congrArg Value.bool rfl) ?_)); refine jW 26 [7, 8, 9] (bts 36 1023) ?_; (refine jG (bts 36 2047) 10 rfl (g_pickF rfl rfl rfl) ?_); refine jT 24 [11] (bts 36 4095) ?_; (try ((refine Nx.re (d := 52) (v' := Bo false) rfl (congrArg Value.bool (dFf oM)) ?_))); refine jT 21 [12, 13, 14] (bts 36 32767) ?_; (refine jG (bts 36 65535) 15 rfl (g_ld rfl rfl rfl) ?_); (refine jG (bts 36 131071) 16 rfl (g_lenL rfl) ?_); refine jT 17 [17, 18] (bts 36 524287) ?_; (try ((refine Nx.re (d := 59) (v' := Bo true) rfl (congrArg Value.bool (dTt oM)) ?_))); refine jT 10 [19, 20, 21, 23, 24, 25, 31] (bts 36 2210398207) ?_; (refine jG (bts 36 2214592511) 22 rfl (g_ld rfl rfl rfl) ?_); (refine jG (bts 36 2281701375) 26 rfl (g_ld rfl rfl rfl) ?_); (refine jG (bts 36 2415919103) 27 rfl (g_lenL rfl) ?_); refine jW 6 [28] (bts 36 2684354559) ?_; (refine jG (bts 36 3221225471) 29 rfl (g_iaddr rfl rfl oM) ?_); ((refine jG (bts 36 4294967295) 30 rfl (g_ldB1 rfl rfl rfl ?_ aS) ?_; (focus ((omega); done)))); (refine jG (bts 36 8589934591) 32 rfl (g_ld rfl rfl rfl) ?_); refine jT 2 [33] (bts 36 17179869183) ?_; (refine jG (bts 36 34359738367) 34 rfl (g_pickT rfl rfl rfl) ?_); (refine jG (bts 36 68719476735) 35 rfl (g_pickF rfl rfl rfl) ?_); refine jQ ?_)
     repeat' (first | (refine jR ?_) | (refine k_tt rfl (dTt ‹_›) ?_))
     all_goals refine jZ (vs := [_, _, _]) rfl ⟨rfl, rfl, rfl, trivial⟩ rfl ⟨hgq, rfl, ?_⟩
     all_goals exact hnone hno rfl
    have hSq := h.mono hgq
    have hdk : kindIn (tys vs) d.kind = true := kind_in hw hxt oM hdm
    rw [hdw, List.length_cons] at hwl
    have cx_rd := hR Gq d.kind r2 hSq hdk oM
    rw [← edn] at cx_rd
    rcases hf0 with hf0 | hf0
    rotate_left
    have hyl := hlast1 hf0
    refine Nx.shp (v := .slice a1 fs.length c1) (.tail _ (.tail _ (.head _))) fun hsh => ?_
    obtain ⟨tb1, tc1, e1⟩ := hsh.pos oM
    simp only [Value.slice.injEq] at e1
    obtain ⟨rfl, -, rfl⟩ := e1
    all_goals
     (refine k_any (s_any (id := 5) _ (fun _ h => h) mixed ?_); refine jT 33 [0, 1, 2] (bts 36 7) ?_; (try (refine Nx.re (d := 43) (v' := Bo false) rfl (congrArg Value.bool rfl) ?_)); refine jT 31 [3, 4] (bts 36 31) ?_; (refine jG (bts 36 63) 5 rfl (g_pickF rfl rfl rfl) ?_); refine jT 29 [6] (bts 36 127) ?_; (try (refine Nx.re (d := 47) (v' := Bo false) rfl (congrArg Value.bool rfl) ?_)); refine jW 26 [7, 8, 9] (bts 36 1023) ?_; (refine jG (bts 36 2047) 10 rfl (g_pickF rfl rfl rfl) ?_); refine jT 24 [11] (bts 36 4095) ?_; (try ((refine Nx.re (d := 52) (v' := Bo false) rfl (congrArg Value.bool (dFf oM)) ?_))); refine jT 21 [12, 13, 14] (bts 36 32767) ?_; (refine jG (bts 36 65535) 15 rfl (g_ld rfl rfl rfl) ?_); (refine jG (bts 36 131071) 16 rfl (g_lenL rfl) ?_); refine jT 17 [17, 18] (bts 36 524287) ?_; (try (first | (refine Nx.re (d := 59) (v' := Bo true) rfl (congrArg Value.bool (dTt oM)) ?_) | (refine Nx.re (d := 59) (v' := Bo false) rfl (congrArg Value.bool (dFf oM)) ?_))); refine jT 10 [19, 20, 21, 23, 24, 25, 31] (bts 36 2210398207) ?_; (first | refine jG (bts 36 2214592511) 22 rfl (g_ld rfl rfl rfl) ?_ | refine jN (bts 36 2214592511) 22 rfl ?_); (first | refine jG (bts 36 2281701375) 26 rfl (g_ld rfl rfl rfl) ?_ | refine jN (bts 36 2281701375) 26 rfl ?_); (first | refine jG (bts 36 2415919103) 27 rfl (g_lenL rfl) ?_ | refine jN (bts 36 2415919103) 27 rfl ?_); refine jW 6 [28] (bts 36 2684354559) ?_; (first | (refine jG (bts 36 3221225471) 29 rfl (g_iaddr rfl rfl oM) ?_) | refine jN (bts 36 3221225471) 29 rfl ?_); (first | (refine jG (bts 36 4294967295) 30 rfl (g_ldB1 rfl rfl rfl ?_ aS) ?_; (focus ((omega); done))) | refine jN (bts 36 4294967295) 30 rfl ?_); (first | refine jG (bts 36 8589934591) 32 rfl (g_ld rfl rfl rfl) ?_ | refine jN (bts 36 8589934591) 32 rfl ?_); refine jT 2 [33] (bts 36 17179869183) ?_; (first | (refine jG (bts 36 34359738367) 34 rfl (g_pickT rfl rfl rfl) ?_) | (refine jG (bts 36 34359738367) 34 rfl (g_pickF rfl rfl rfl) ?_)); (refine jG (bts 36 68719476735) 35 rfl (g_pickF rfl rfl rfl) ?_); refine jQ ?_)
     repeat' (first | (refine jR ?_) | (refine k_ff rfl (by first | rfl | (refine decide_eq_false ?_; (assumption))) ?_))
     (refine k_any (s_any (id := 7) _ (fun _ h => h) mixed ?_); refine jW 10 [1, 2, 3, 5, 6] (bts 15 110) ?_; (refine jG (bts 15 111) 0 rfl (g_ldA rfl rfl rfl rfl) ?_); (refine jG (bts 15 127) 4 rfl (g_ld rfl rfl rfl) ?_); refine jA 7 rfl ?_; (refine c_fns rfl rfl rfl cx_rd rfl ?_; rintro _ G hle ⟨q1, r1, ok1, rfl, hyes, hno⟩; skip); refine jS (bts 15 255) ?_; refine jT 0 [8, 9, 10, 11, 12, 13, 14] (bts 15 32767) ?_; refine jQ ?_)
     repeat' (refine jR ?_)
     have hgl := hgq.trans hle
     cases ok1 with
     | false =>
      have hno2 : rdField (rd (tys vs) n) x.2 t = none := by rw [hfs, hno rfl]; rfl
      (refine k_any (s_any (id := 8) _ (fun _ h => h) mixed ?_); refine jT 22 [0, 1, 2] (bts 25 7) ?_; (try (refine Nx.re (d := 92) (v' := Bo true) rfl (congrArg Value.bool rfl) ?_)); refine jT 20 [3, 5] (bts 25 47) ?_; (refine jN (bts 25 111) 6 rfl ?_); (refine jN (bts 25 239) 7 rfl ?_); (refine jN (bts 25 255) 4 rfl ?_); (refine jN (bts 25 511) 8 rfl ?_); refine jT 15 [9] (bts 25 1023) ?_; (refine jG (bts 25 2047) 10 rfl (g_pickT rfl rfl rfl) ?_); refine jT 13 [11] (bts 25 4095) ?_; (try (refine Nx.re (d := 101) (v' := Bo true) rfl (congrArg Value.bool rfl) ?_)); refine jT 11 [12, 13] (bts 25 16383) ?_; (refine jG (bts 25 32767) 14 rfl (g_pickT rfl rfl rfl) ?_); refine jT 9 [15] (bts 25 65535) ?_; (try (refine Nx.re (d := 105) (v' := Bo true) rfl (congrArg Value.bool rfl) ?_)); refine jT 5 [16, 17, 18, 19] (bts 25 1048575) ?_; (try (fail)); refine jT 2 [20, 21, 22] (bts 25 8388607) ?_; (refine jN (bts 25 16777215) 23 rfl ?_); (refine jG (bts 25 33554431) 24 rfl (g_pickT rfl rfl rfl) ?_); refine jQ ?_)
      repeat' (first | (refine jR ?_) | (refine k_tt rfl rfl ?_))
      all_goals refine jZ (vs := [_, _, _]) rfl ⟨rfl, rfl, rfl, trivial⟩ rfl ⟨hgl, rfl, ?_⟩
      all_goals exact hnone (flds_none hno2) rfl
     | true =>
      obtain ⟨w, wb, rfl, hf, hrep⟩ := hyes rfl
      have hsh := rd_short hf
      have htt := rd_tot _ _ _ _ hf
      dsimp only at htt hsh
      have hob := outR hw hrep
      unfold OutB at hob
      have cx_out := c_outS hw hrep oM
      have cx_sta := c_standS (f := d) (h.mono hgl) hw hdk
      have hfd : rdField (rd (tys vs) n) x.2 t = some ((d, w), r1) := by rw [hfs, hf]; rfl
      have hst := flds_step (ts := tys vs) (vs := nd61 fs) (last := lastT fs) hfd hm0
      by_cases heq : w.out = standF (tys vs) d
      ·rw [if_pos (.inr heq)] at hst
       (refine k_any (s_any (id := 8) _ (fun _ h => h) mixed ?_); refine jT 22 [0, 1, 2] (bts 25 7) ?_; (try (refine Nx.re (d := 92) (v' := Bo false) rfl (congrArg Value.bool rfl) ?_)); refine jT 20 [3, 5] (bts 25 47) ?_; (refine jG (bts 25 111) 6 rfl (g_ld rfl rfl rfl) ?_); (refine jG (bts 25 239) 7 rfl (g_ldA rfl rfl rfl rfl) ?_); (refine jA 4 rfl ?_; (refine c_rt rfl rfl rfl cx_out rfl ?_); refine jS (bts 25 255) ?_); (refine jA 8 rfl ?_; (refine c_rt rfl rfl rfl cx_sta rfl ?_); refine jS (bts 25 511) ?_); refine jT 15 [9] (bts 25 1023) ?_; (refine jG (bts 25 2047) 10 rfl (g_pickF rfl rfl rfl) ?_); refine jT 13 [11] (bts 25 4095) ?_; (try (refine Nx.re (d := 101) (v' := Bo true) rfl (congrArg Value.bool (dTt ‹_›)) ?_)); refine jT 11 [12, 13] (bts 25 16383) ?_; (refine jG (bts 25 32767) 14 rfl (g_pickT rfl rfl rfl) ?_); refine jT 9 [15] (bts 25 65535) ?_; (try (refine Nx.re (d := 105) (v' := Bo true) rfl (congrArg Value.bool rfl) ?_)); refine jT 5 [16, 17, 18, 19] (bts 25 1048575) ?_; (try (fail)); refine jT 2 [20, 21, 22] (bts 25 8388607) ?_; (refine jN (bts 25 16777215) 23 rfl ?_); (refine jG (bts 25 33554431) 24 rfl (g_pickT rfl rfl rfl) ?_); refine jQ ?_)
       repeat' (first | (refine jR ?_) | (refine k_tt rfl rfl ?_))
       all_goals refine jZ (vs := [_, _, _]) rfl ⟨rfl, rfl, rfl, trivial⟩ rfl ⟨hgl, rfl, ?_⟩
       all_goals exact hnone hst rfl
      rw [if_neg (fun h => by rcases h with h | h; exact hlt h; exact heq h)] at hst
      cases r1 with
      | nil =>
       (refine k_any (s_any (id := 8) _ (fun _ h => h) mixed ?_); refine jT 22 [0, 1, 2] (bts 25 7) ?_; (try (refine Nx.re (d := 92) (v' := Bo false) rfl (congrArg Value.bool rfl) ?_)); refine jT 20 [3, 5] (bts 25 47) ?_; (refine jG (bts 25 111) 6 rfl (g_ld rfl rfl rfl) ?_); (refine jG (bts 25 239) 7 rfl (g_ldA rfl rfl rfl rfl) ?_); (refine jA 4 rfl ?_; (refine c_rt rfl rfl rfl cx_out rfl ?_); refine jS (bts 25 255) ?_); (refine jA 8 rfl ?_; (refine c_rt rfl rfl rfl cx_sta rfl ?_); refine jS (bts 25 511) ?_); refine jT 15 [9] (bts 25 1023) ?_; (refine jG (bts 25 2047) 10 rfl (g_pickF rfl rfl rfl) ?_); refine jT 13 [11] (bts 25 4095) ?_; (try (refine Nx.re (d := 101) (v' := Bo false) rfl (congrArg Value.bool (dFf ‹_›)) ?_)); refine jT 11 [12, 13] (bts 25 16383) ?_; (refine jG (bts 25 32767) 14 rfl (g_pickF rfl rfl rfl) ?_); refine jT 9 [15] (bts 25 65535) ?_; (try (refine Nx.re (d := 105) (v' := Bo true) rfl (congrArg Value.bool rfl) ?_)); refine jT 5 [16, 17, 18, 19] (bts 25 1048575) ?_; (try (fail)); refine jT 2 [20, 21, 22] (bts 25 8388607) ?_; (refine jN (bts 25 16777215) 23 rfl ?_); (refine jG (bts 25 33554431) 24 rfl (g_pickT rfl rfl rfl) ?_); refine jQ ?_)
       repeat' (first | (refine jR ?_) | (refine k_tt rfl rfl ?_))
       all_goals refine jZ (vs := [_, _, _]) rfl ⟨rfl, rfl, rfl, trivial⟩ rfl ⟨hgl, rfl, ?_⟩
       all_goals exact hnone hst rfl
      | cons e2 r3 =>
       have he20 : bt (e2 :: r3) (Int.toNat 0) = e2.toNat := bt_zero e2 r3
       have hel2 : (e2 :: r3).length = r3.length + 1 := rfl
       have hl' : (fs ++ [(d, w)]).length = fs.length + 1 := by simp
       have hbl' : (bs ++ [wb]).length = (fs ++ [(d, w)]).length := by simp [hbl]
       have hnth : ∀ i, i < (fs ++ [(d, w)]).length → (i < fs.length ∧ nth (fs ++ [(d, w)]) i = nth fs i ∧ nth (bs ++ [wb]) i = nth bs i) ∨ (nth (fs ++ [(d, w)]) i = (d, w) ∧ nth (bs ++ [wb]) i = wb) := fun i hi => by
        by_cases h1 : i < fs.length
        ·exact .inl ⟨h1, by rw [nth_eq hi, nth_eq h1, List.getElem_append_left h1], by rw [nth_eq oM, nth_eq oM, List.getElem_append_left oM]⟩
        ·have h2 : i = fs.length := oM
         exact .inr ⟨by rw [nth_eq hi]; simp [h2], by rw [nth_eq oM]; simp [h2, hbl]⟩
       have hfm' : ∀ i, i < (fs ++ [(d, w)]).length → (nth (fs ++ [(d, w)]) i).1 ∈ x.2.fields := fun i hi => by
        rcases hnth i hi with ⟨h1, h2, _⟩ | ⟨h2, _⟩
        ·rw [h2]; exact hfm i h1
        ·rw [h2]; exact hdm
       have hreps' : ∀ i, i < (fs ++ [(d, w)]).length → RepR G (tys vs) (nth (fs ++ [(d, w)]) i).2 (nth (fs ++ [(d, w)]) i).1.kind (nth (bs ++ [wb]) i) := fun i hi => by
        rcases hnth i hi with ⟨h1, h2, h3⟩ | ⟨h2, h3⟩
        ·rw [h2, h3]; exact (hreps i h1).mono hle
        ·rw [h2, h3]; exact hrep
       have hrow1 : rows inR (fs.map fun p => p.1.tag) ++ [I d.tag] = rows inR ((fs ++ [(d, w)]).map fun p => p.1.tag) := by rw [List.map_append]; exact (rows_snoc inR _ d.tag).symm
       have hrow2 : rows ptR bs ++ [Pt wb 0] = rows ptR (bs ++ [wb]) := (rows_snoc ptR bs wb).symm
       have hnd : nd61 (fs ++ [(d, w)]) = nd61 fs ++ [.nd 61 [] d.tag [w]] := by simp [nd61]
       dsimp only at hst
       by_cases h44 : e2.toNat = 44
       ·rw [if_pos h44] at hst
        have hn93 : ¬ e2.toNat = 125 := oM
        (refine k_any (s_any (id := 8) _ (fun _ h => h) mixed ?_); refine jT 22 [0, 1, 2] (bts 25 7) ?_; (try (refine Nx.re (d := 92) (v' := Bo false) rfl (congrArg Value.bool rfl) ?_)); refine jT 20 [3, 5] (bts 25 47) ?_; (refine jG (bts 25 111) 6 rfl (g_ld rfl rfl rfl) ?_); (refine jG (bts 25 239) 7 rfl (g_ldA rfl rfl rfl rfl) ?_); (refine jA 4 rfl ?_; (refine c_rt rfl rfl rfl cx_out rfl ?_); refine jS (bts 25 255) ?_); (refine jA 8 rfl ?_; (refine c_rt rfl rfl rfl cx_sta rfl ?_); refine jS (bts 25 511) ?_); refine jT 15 [9] (bts 25 1023) ?_; (refine jG (bts 25 2047) 10 rfl (g_pickF rfl rfl rfl) ?_); refine jT 13 [11] (bts 25 4095) ?_; (try (refine Nx.re (d := 101) (v' := Bo false) rfl (congrArg Value.bool (dFf ‹_›)) ?_)); refine jT 11 [12, 13] (bts 25 16383) ?_; (refine jG (bts 25 32767) 14 rfl (g_pickF rfl rfl rfl) ?_); refine jT 9 [15] (bts 25 65535) ?_; (try (refine Nx.re (d := 105) (v' := Bo false) rfl (congrArg Value.bool rfl) ?_)); refine jW 5 [16, 17, 18, 19] (bts 25 1048575) ?_; (try ((refine Nx.re (d := 109) (v' := Bo false) rfl (congrArg Value.bool (dFf oM)) ?_))); refine jT 2 [20, 21, 22] (bts 25 8388607) ?_; (refine jG (bts 25 16777215) 23 rfl (g_pickF rfl rfl rfl) ?_); (refine jG (bts 25 33554431) 24 rfl (g_pickF rfl rfl rfl) ?_); refine jQ ?_)
        repeat' (first | (refine jR ?_) | (refine k_ff rfl rfl ?_))
        (refine k_any (s_any (id := 10) [.blk x14 (.cells (List.toArray [I d.tag, S d.name, S d.kind, S d.stand]) tFd (0, 0))] (by intro y hy; simp only [List.mem_cons, List.not_mem_nil, or_false] at hy ⊢; simp [hy]) mixed ?_); refine jW 7 [0, 1, 2, 3, 5] (bts 12 47) ?_; (refine jG (bts 12 111) 6 rfl (g_ld rfl rfl rfl) ?_); refine x_all [4, 7] kR dC ⟨?_, ?_, trivial⟩; (focus (refine x_opg rfl rfl ?_; (refine jAl rfl ?_); refine jK (bts 12 127) ?_; refine jA 7 rfl ?_; (refine jF fun _ => ?_); refine jK (bts 12 255) ?_; refine jA 8 rfl ?_; ((refine c_apX rfl rfl rfl rfl rfl rfl rfl rfl rfl ?_ fun _ _ => ?_; (focus ((omega); done)))); refine jK (bts 12 511) ?_; refine jW 1 [9, 10] (bts 12 2047) ?_; refine jA 11 rfl ?_; (refine jD rfl rfl rfl ?_); refine jK (bts 12 4095) ?_; refine jQ ?_)); rotate_left 1; (focus (refine x_opg rfl rfl ?_; (refine jF fun _ => ?_); refine jK (bts 12 239) ?_; refine jA 4 rfl ?_; (refine jAl rfl ?_); refine jK (bts 12 255) ?_; refine jA 8 rfl ?_; ((refine c_apX rfl rfl rfl rfl rfl rfl rfl rfl rfl ?_ fun _ _ => ?_; (focus ((omega); done)))); refine jK (bts 12 511) ?_; refine jW 1 [9, 10] (bts 12 2047) ?_; refine jA 11 rfl ?_; (refine jD rfl rfl rfl ?_); refine jK (bts 12 4095) ?_; refine jQ ?_)); rotate_left 1)
        all_goals repeat' (first | refine jM ?_ | (refine jo ?_; first | refine jAl rfl ?_ | refine jD rfl rfl rfl ?_ | refine jF fun _ => ?_ | (refine c_apX rfl rfl rfl rfl rfl rfl rfl rfl rfl oM fun _ _ => ?_)) | (refine k_ff rfl (dFf oM) ?_))
        all_goals
         rename_i _ y1 yc1 _ y2 yc2
         rw [hrow1, hrow2]
         exact k_rd (fs ++ [(d, w)], bs ++ [wb], some ⟨y1, 0, none⟩, yc1, some ⟨y2, 0, none⟩, yc2, r3, m - 1, G) ⟨⟨⟨hbl', hfm', hreps'⟩, hgl⟩, ⟨(by dsimp only; rw [hit, hst, lastT_snoc, hnd]), (by dsimp only; omega)⟩, (by dsimp only; omega), (by dsimp only; omega)⟩ (by dsimp only; omega) tU rfl (by rw [hl']; repeat (first | exact List.Sublist.refl _ | apply List.Sublist.cons_cons | apply List.Sublist.cons))
       ·rw [if_neg h44] at hst
        by_cases h125' : e2.toNat = 125
        ·rw [if_pos h125'] at hst
         (refine k_any (s_any (id := 8) _ (fun _ h => h) mixed ?_); refine jT 22 [0, 1, 2] (bts 25 7) ?_; (try (refine Nx.re (d := 92) (v' := Bo false) rfl (congrArg Value.bool rfl) ?_)); refine jT 20 [3, 5] (bts 25 47) ?_; (refine jG (bts 25 111) 6 rfl (g_ld rfl rfl rfl) ?_); (refine jG (bts 25 239) 7 rfl (g_ldA rfl rfl rfl rfl) ?_); (refine jA 4 rfl ?_; (refine c_rt rfl rfl rfl cx_out rfl ?_); refine jS (bts 25 255) ?_); (refine jA 8 rfl ?_; (refine c_rt rfl rfl rfl cx_sta rfl ?_); refine jS (bts 25 511) ?_); refine jT 15 [9] (bts 25 1023) ?_; (refine jG (bts 25 2047) 10 rfl (g_pickF rfl rfl rfl) ?_); refine jT 13 [11] (bts 25 4095) ?_; (try (refine Nx.re (d := 101) (v' := Bo false) rfl (congrArg Value.bool (dFf ‹_›)) ?_)); refine jT 11 [12, 13] (bts 25 16383) ?_; (refine jG (bts 25 32767) 14 rfl (g_pickF rfl rfl rfl) ?_); refine jT 9 [15] (bts 25 65535) ?_; (try (refine Nx.re (d := 105) (v' := Bo false) rfl (congrArg Value.bool rfl) ?_)); refine jW 5 [16, 17, 18, 19] (bts 25 1048575) ?_; (try ((refine Nx.re (d := 109) (v' := Bo true) rfl (congrArg Value.bool (dTt oM)) ?_))); refine jW 2 [20, 21, 22] (bts 25 8388607) ?_; (refine jG (bts 25 16777215) 23 rfl (g_pickT rfl rfl rfl) ?_); (refine jG (bts 25 33554431) 24 rfl (g_pickF rfl rfl rfl) ?_); refine jQ ?_)
         repeat' (first | (refine jR ?_) | (refine k_ff rfl (dFf oM) ?_))
         (refine k_any (s_any (id := 10) [.blk x14 (.cells (List.toArray [I d.tag, S d.name, S d.kind, S d.stand]) tFd (0, 0))] (by intro y hy; simp only [List.mem_cons, List.not_mem_nil, or_false] at hy ⊢; simp [hy]) mixed ?_); refine jW 7 [0, 1, 2, 3, 5] (bts 12 47) ?_; (refine jG (bts 12 111) 6 rfl (g_ld rfl rfl rfl) ?_); refine x_all [4, 7] kR dC ⟨?_, ?_, trivial⟩; (focus (refine x_opg rfl rfl ?_; (refine jAl rfl ?_); refine jK (bts 12 127) ?_; refine jA 7 rfl ?_; (refine jF fun _ => ?_); refine jK (bts 12 255) ?_; refine jA 8 rfl ?_; ((refine c_apX rfl rfl rfl rfl rfl rfl rfl rfl rfl ?_ fun _ _ => ?_; (focus ((omega); done)))); refine jK (bts 12 511) ?_; refine jW 1 [9, 10] (bts 12 2047) ?_; refine jA 11 rfl ?_; (refine jD rfl rfl rfl ?_); refine jK (bts 12 4095) ?_; refine jQ ?_)); rotate_left 1; (focus (refine x_opg rfl rfl ?_; (refine jF fun _ => ?_); refine jK (bts 12 239) ?_; refine jA 4 rfl ?_; (refine jAl rfl ?_); refine jK (bts 12 255) ?_; refine jA 8 rfl ?_; ((refine c_apX rfl rfl rfl rfl rfl rfl rfl rfl rfl ?_ fun _ _ => ?_; (focus ((omega); done)))); refine jK (bts 12 511) ?_; refine jW 1 [9, 10] (bts 12 2047) ?_; refine jA 11 rfl ?_; (refine jD rfl rfl rfl ?_); refine jK (bts 12 4095) ?_; refine jQ ?_)); rotate_left 1)
         all_goals repeat' (first | refine jM ?_ | (refine jo ?_; first | refine jAl rfl ?_ | refine jD rfl rfl rfl ?_ | refine jF fun _ => ?_ | (refine c_apX rfl rfl rfl rfl rfl rfl rfl rfl rfl oM fun _ _ => ?_)) | (refine k_tt rfl (dTt oM) ?_))
         all_goals
          rename_i _ y1 yc1 _ y2 yc2
          rw [hrow1, hrow2]
          refine Nx.sealS (v := .slice (some ⟨y1, 0, none⟩) (fs.length + 1) yc1) fun G2 hG2 hs1 => ?_
          refine Nx.sealS (v := .slice (some ⟨y2, 0, none⟩) (fs.length + 1) yc2) fun G3 hG3 hs2 => ?_
          refine Nx.sealC (b := x13) fun G4 hG4 hsg => ?_
          refine jZ (vs := [_, _, _]) rfl ⟨rfl, rfl, rfl, trivial⟩ rfl ⟨(((hgl.trans hG2).trans hG3).trans hG4), rfl, ?_⟩
          rw [oneOf_three]
          exact ⟨_, _, _, rfl, fun _ => ⟨.nd 82 [] 0 (nd61 (fs ++ [(d, w)])), x13, rfl, (by rw [hRl, hit, hst, hnd]; rfl), .recd k x13 x.2 (fs ++ [(d, w)]) (bs ++ [wb]) (some ⟨y1, 0, none⟩) (some ⟨y2, 0, none⟩) yc1 yc2 ⟨hrf, hso⟩ (by rw [hl']; exact hsg) (by rw [hl']; exact (hs1.mono hG3).mono hG4) (by rw [hl']; exact hs2.mono hG4) hbl' hfm' (fun i hi => (hreps' i hi).mono ((hG2.trans hG3).trans hG4))⟩, fun h => (by cases h)⟩
        ·rw [if_neg h125'] at hst
         (refine k_any (s_any (id := 8) _ (fun _ h => h) mixed ?_); refine jT 22 [0, 1, 2] (bts 25 7) ?_; (try (refine Nx.re (d := 92) (v' := Bo false) rfl (congrArg Value.bool rfl) ?_)); refine jT 20 [3, 5] (bts 25 47) ?_; (refine jG (bts 25 111) 6 rfl (g_ld rfl rfl rfl) ?_); (refine jG (bts 25 239) 7 rfl (g_ldA rfl rfl rfl rfl) ?_); (refine jA 4 rfl ?_; (refine c_rt rfl rfl rfl cx_out rfl ?_); refine jS (bts 25 255) ?_); (refine jA 8 rfl ?_; (refine c_rt rfl rfl rfl cx_sta rfl ?_); refine jS (bts 25 511) ?_); refine jT 15 [9] (bts 25 1023) ?_; (refine jG (bts 25 2047) 10 rfl (g_pickF rfl rfl rfl) ?_); refine jT 13 [11] (bts 25 4095) ?_; (try (refine Nx.re (d := 101) (v' := Bo false) rfl (congrArg Value.bool (dFf ‹_›)) ?_)); refine jT 11 [12, 13] (bts 25 16383) ?_; (refine jG (bts 25 32767) 14 rfl (g_pickF rfl rfl rfl) ?_); refine jT 9 [15] (bts 25 65535) ?_; (try (refine Nx.re (d := 105) (v' := Bo false) rfl (congrArg Value.bool rfl) ?_)); refine jW 5 [16, 17, 18, 19] (bts 25 1048575) ?_; (try ((refine Nx.re (d := 109) (v' := Bo true) rfl (congrArg Value.bool (dTt oM)) ?_))); refine jW 2 [20, 21, 22] (bts 25 8388607) ?_; (refine jG (bts 25 16777215) 23 rfl (g_pickT rfl rfl rfl) ?_); (refine jG (bts 25 33554431) 24 rfl (g_pickF rfl rfl rfl) ?_); refine jQ ?_)
         repeat' (first | (refine jR ?_) | (refine k_tt rfl (dTt oM) ?_))
         all_goals refine jZ (vs := [_, _, _]) rfl ⟨rfl, rfl, rfl, trivial⟩ rfl ⟨hgl, rfl, ?_⟩
         all_goals exact hnone hst rfl
theorem typed_none {ts : List Ty} {f : List UInt8 → List UInt8 → Option (V × List UInt8)} {t : Ty} {e : UInt8} {s : List UInt8} (h : t.sort = 82 ∧ ¬ e.toNat = 123 ∨ t.sort = 69 ∧ ¬ e.toNat = 35 ∨ t.sort = 85 ∧ ¬ e.toNat = 60) : rdTyped ts f t (e :: s) = none := by
 unfold rdTyped
 dsimp only
 rcases h with ⟨h1, h2⟩ | ⟨h1, h2⟩ | ⟨h1, h2⟩
 ·rw [if_pos h1, if_neg h2]
 ·rw [if_neg oM, if_pos h1, if_neg h2]
 ·rw [if_neg oM, if_neg oM, if_neg h2]
theorem c_namX {n : Nat} {u : Value} {vs : List TyX} {x : TyX} {k s : List UInt8} {e : UInt8} (hu : u.oneCell' = true) (cx_rf : PuG Tryz.prog 88 [u, S k] G (· = Tu [Ag [U8 x.2.sort, S x.2.name, slX x], Bo true])) (hso : x.2.sort = 82 ∧ ¬ e.toNat = 123 ∨ x.2.sort = 69 ∧ ¬ e.toNat = 35 ∨ x.2.sort = 85 ∧ ¬ e.toNat = 60) (hs : s.length ≤ 2000000) (hn : n ≤ 1000) :
  FnS Tryz.prog 91 [Ag [u], S (e :: s), S k, I (n + 1 : Nat)] G (ReadP (tys vs) (rdTyped (tys vs) (rd (tys vs) n) x.2 (e :: s)) k) := by
 have hno := typed_none (ts := tys vs) (f := rd (tys vs) n) (s := s) hso
 have he0 : bt (e :: s) (Int.toNat 0) = e.toNat := bt_zero e s
 have hel : (e :: s).length = s.length + 1 := rfl
 rcases hso with ⟨h1, h2⟩ | ⟨h1, h2⟩ | ⟨h1, h2⟩
 all_goals
  have h1' : (x.2.sort : Int) = 82 ∨ (x.2.sort : Int) = 69 ∨ (x.2.sort : Int) = 85 := oM
  refine jB [(0, _), (1, _), (2, _), (3, _)] Tryz.func91 Tryz.ntmps91 fun B hok hB hW => ?_
  repeat' (first | refine jM ?_ | (refine jo ?_; first | refine jO fun _ => ?_ | refine jAl rfl ?_ | refine jL fun _ => ?_ | refine jC rfl rfl rfl ?_ | (refine jAt rfl ?_) | (refine jAf rfl ?_) | (refine c_rt rfl rfl rfl cx_rf rfl ?_)) | (refine k_gt rfl rfl (dTt oM) ?_) | (refine k_gf rfl rfl (dFf oM) ?_) | (refine k_ff rfl (by first | rfl | (refine decide_eq_false ?_; (omega))) ?_))
  all_goals refine jZ (vs := [_, _, _]) rfl ⟨rfl, rfl, rfl, trivial⟩ rfl ⟨Gh.le.refl _, rfl, ?_⟩
  all_goals (rw [oneOf_three]; exact ⟨_, _, _, rfl, fun h => (by cases h), fun _ => hno⟩)
theorem c_namR {n : Nat} {u : Value} {vs : List TyX} {x : TyX} {k s : List UInt8} (hR : ReadC n u vs) (h : SchR G u vs) (hw : SchW (tys vs)) (hx : x ∈ vs) (hrf : refT (tys vs) k = some x.2) (cx_rf : PuG Tryz.prog 88 [u, S k] G (· = Tu [Ag [U8 x.2.sort, S x.2.name, slX x], Bo true])) (hso : x.2.sort = 82) (hs : s.length ≤ 1999999) (hn : n ≤ 1000) (hkl : k.length ≤ 1000) :
  FnS Tryz.prog 91 [Ag [u], S (123 :: s), S k, I (n + 1 : Nat)] G (ReadP (tys vs) (rdTyped (tys vs) (rd (tys vs) n) x.2 (123 :: s)) k) := by
 have cx_rc := c_recordS (s := s) hR h hw hx hrf hso oM hn hkl
 have he0 : bt (123 :: s) (Int.toNat 0) = 123 := bt_zero 123 s
 have hel : (123 :: s).length = s.length + 1 := rfl
 have h1' : (x.2.sort : Int) = 82 := oM
 refine jB [(0, _), (1, _), (2, _), (3, _)] Tryz.func91 Tryz.ntmps91 fun B hok hB hW => ?_
 repeat' (first | refine jM ?_ | (refine jo ?_; first | refine jO fun _ => ?_ | refine jAl rfl ?_ | refine jL fun _ => ?_ | refine jC rfl rfl rfl ?_ | (refine jAt rfl ?_) | (refine c_rt rfl rfl rfl cx_rf rfl ?_)) | (refine k_gt rfl rfl (dTt ‹_›) ?_) | (refine k_tt rfl rfl ?_) | (refine k_any (s_any (id := 3) _ (fun _ h => h) mixed ?_); refine jW 9 [1, 2, 3, 5] (bts 13 46) ?_; (refine jG (bts 13 47) 0 rfl (g_ldA rfl rfl rfl rfl) ?_); (refine jG (bts 13 63) 4 rfl (g_ldA rfl rfl rfl rfl) ?_); refine jA 6 rfl ?_; (refine c_fns rfl rfl rfl cx_rc rfl ?_; rintro _ G hle ⟨q1, r1, ok1, rfl, hyes, hno⟩; skip); refine jS (bts 13 127) ?_; refine jT 0 [7, 8, 9, 10, 11, 12] (bts 13 8191) ?_; refine jQ ?_))
 refine jZ (vs := [_, _, _]) rfl ⟨rfl, rfl, rfl, trivial⟩ rfl ⟨hle, rfl, ?_⟩
 rw [oneOf_three]
 exact ⟨_, _, _, rfl, hyes, hno⟩
theorem c_namE {n : Nat} {u : Value} {vs : List TyX} {x : TyX} {k s : List UInt8} (h : SchR G u vs) (hw : SchW (tys vs)) (hx : x ∈ vs) (hrf : refT (tys vs) k = some x.2) (cx_rf : PuG Tryz.prog 88 [u, S k] G (· = Tu [Ag [U8 x.2.sort, S x.2.name, slX x], Bo true])) (hso : x.2.sort = 69) (hs : s.length ≤ 1999999) (hn : n ≤ 1000) :
  FnS Tryz.prog 91 [Ag [u], S (35 :: s), S k, I (n + 1 : Nat)] G (ReadP (tys vs) (rdTyped (tys vs) (rd (tys vs) n) x.2 (35 :: s)) k) := by
 have hxt : x.2 ∈ tys vs := List.mem_map_of_mem hx
 have hTW := hw.ty _ hxt
 have hfl := hTW.len
 have cx_tg := c_tag (G := G) (u := u) (x := x) (s := s) oM h.sl.one (h.fl x hx) oM
 have he0 : bt (35 :: s) (Int.toNat 0) = 35 := bt_zero 35 s
 have hel : (35 :: s).length = s.length + 1 := rfl
 have h1' : (x.2.sort : Int) = 69 := oM
 have hRT : rdTyped (tys vs) (rd (tys vs) n) x.2 (35 :: s) = match rdNum 200 s with
   | none => none
   | some (n, r) => if (fldT x.2.fields n).isSome = true then some (.nd 69 [] n [], r) else none := by
  unfold rdTyped
  dsimp only
  rw [if_neg oM, if_pos hso, if_pos (show (35 : UInt8).toNat = 35 from rfl)]
  cases rdNum 200 s <;> rfl
 unfold rdNum at hRT
 simp only [tyF] at cx_tg
 refine jB [(0, _), (1, _), (2, _), (3, _)] Tryz.func91 Tryz.ntmps91 fun B hok hB hW => ?_
 repeat' (first | refine jM ?_ | (refine jo ?_; first | refine jO fun _ => ?_ | refine jAl rfl ?_ | refine jL fun _ => ?_ | refine jC rfl rfl rfl ?_ | (refine jAt rfl ?_) | (refine jAf rfl ?_) | refine jF fun _ => ?_ | refine jV (g_bld rfl rfl) ?_ | (refine c_rt rfl rfl rfl cx_rf rfl ?_)) | (refine k_gt rfl rfl (dTt ‹_›) ?_) | (refine k_gf rfl rfl (dFf oM) ?_) | (refine k_tt rfl rfl ?_) | (refine k_ff rfl rfl ?_) | (refine k_any (s_any (id := 5) _ (fun _ h => h) mixed ?_); refine jW 11 [1, 2] (bts 13 6) ?_; (refine jG (bts 13 7) 0 rfl (g_ldA rfl rfl rfl rfl) ?_); (refine jG (bts 13 15) 3 rfl (g_ldA rfl rfl rfl rfl) ?_); refine x_all [4, 9] kR dC ⟨?_, ?_, trivial⟩; (focus (refine x_opg rfl rfl ?_; (refine c_pu rfl rfl rfl cx_tg rfl ?_; rintro _ ⟨nt, rfl, hnt⟩); refine jK (bts 13 31) ?_; refine jW 4 [5, 6, 7, 8] (bts 13 511) ?_; refine jA 9 rfl ?_; (refine jL fun _ => ?_); refine jK (bts 13 1023) ?_; refine jA 10 rfl ?_; (refine jC rfl rfl rfl ?_); refine jK (bts 13 2047) ?_; refine jW 0 [11, 12] (bts 13 8191) ?_; refine jQ ?_)); rotate_left 1; (focus (refine x_opg rfl rfl ?_; (refine jL fun _ => ?_); refine jK (bts 13 527) ?_; refine jA 4 rfl ?_; (refine c_pu rfl rfl rfl cx_tg rfl ?_; rintro _ ⟨nt, rfl, hnt⟩); refine jK (bts 13 543) ?_; refine jW 3 [5, 6, 7, 8] (bts 13 1023) ?_; refine jA 10 rfl ?_; (refine jC rfl rfl rfl ?_); refine jK (bts 13 2047) ?_; refine jW 0 [11, 12] (bts 13 8191) ?_; refine jQ ?_)); rotate_left 1))
 all_goals
  rename_i y y8
  refine Nx.sealC (b := y) fun G2 hG2 hsy => ?_
  refine Nx.sealC (b := y8) fun G3 hG3 hsg => ?_
  refine jZ (vs := [_, _, _]) rfl ⟨rfl, rfl, rfl, trivial⟩ rfl ⟨(hG2.trans hG3), rfl, ?_⟩
  rw [oneOf_three]
  refine ⟨_, _, _, rfl, fun hb => ?_, fun hb => ?_⟩
  ·simp only [Bool.and_eq_true] at hb
   obtain ⟨hb1, hb2⟩ := hb
   obtain ⟨m0, hm⟩ := Option.isSome_iff_exists.1 hb1
   obtain ⟨d, hd⟩ := Option.isSome_iff_exists.1 hb2
   have hnm := hnt m0 hm
   subst hnm
   rw [hd] at hsy
   simp only [Option.getD_some] at hsy
   have hdm : d ∈ x.2.fields := List.mem_of_find?_eq_some hd
   have hdt : d.tag = nt := by have := List.find?_some hd; simpa using this
   exact ⟨.nd 69 [] d.tag [], y8, rfl, by rw [hRT, hm]; dsimp only [Option.map_some]; rw [hd, hdt]; rfl, .enm k y8 y x.2 d ⟨hrf, hso⟩ hdm hsg (hsy.mono hG3)⟩
  ·rw [hRT]
   cases hm : numOf (s.takeWhile isDg) 200 with
   | none => rfl
   | some m0 =>
    have hnm := hnt m0 hm
    subst hnm
    rw [hm] at hb
    dsimp only [Option.map_some]
    rw [if_neg]
    intro h2
    rw [h2] at hb; cases hb
end Go.E
namespace Go.E
set_option maxRecDepth 20000
set_option maxHeartbeats 2000000
open Go.Proofs
variable {G : Gh}
theorem c_namU {n : Nat} {u : Value} {vs : List TyX} {x : TyX} {k s : List UInt8} (hR : ReadC n u vs) (h : SchR G u vs) (hw : SchW (tys vs)) (hx : x ∈ vs) (hrf : refT (tys vs) k = some x.2) (cx_rf : PuG Tryz.prog 88 [u, S k] G (· = Tu [Ag [U8 x.2.sort, S x.2.name, slX x], Bo true])) (hso : x.2.sort = 85) (hs : s.length ≤ 1999999) (hn : n ≤ 1000) :
  FnS Tryz.prog 91 [Ag [u], S (60 :: s), S k, I (n + 1 : Nat)] G (ReadP (tys vs) (rdTyped (tys vs) (rd (tys vs) n) x.2 (60 :: s)) k) := by
 have edn : ((n + 1 : Nat) : Int) - 1 = (n : Nat) := oM
 have hxt : x.2 ∈ tys vs := List.mem_map_of_mem hx
 have hTW := hw.ty _ hxt
 have hfl := hTW.len
 have cx_tg := c_tag (G := G) (u := u) (x := x) (s := s) oM h.sl.one (h.fl x hx) oM
 have he0 : bt (60 :: s) (Int.toNat 0) = 60 := bt_zero 60 s
 have hel : (60 :: s).length = s.length + 1 := rfl
 have h1' : (x.2.sort : Int) = 85 := oM
 have hRT : rdTyped (tys vs) (rd (tys vs) n) x.2 (60 :: s) = match rdField (rd (tys vs) n) x.2 s with
   | none => none
   | some ((d, v), r) => match r with
    | [] => none
    | c' :: r' => if c'.toNat = 62 then some (.nd 85 [] d.tag [v], r') else none := by
  unfold rdTyped
  dsimp only
  rw [if_neg oM, if_neg oM, if_pos (show (60 : UInt8).toNat = 60 from rfl)]
  cases rdField (rd (tys vs) n) x.2 s <;> rfl
 simp only [tyF] at cx_tg
 refine jB [(0, _), (1, _), (2, _), (3, _)] Tryz.func91 Tryz.ntmps91 fun B hok hB hW => ?_
 repeat' (first | refine jM ?_ | (refine jo ?_; first | refine jO fun _ => ?_ | refine jAl rfl ?_ | refine jL fun _ => ?_ | refine jC rfl rfl rfl ?_ | (refine jAt rfl ?_) | (refine jAf rfl ?_) | (refine c_rt rfl rfl rfl cx_rf rfl ?_)) | (refine k_gt rfl rfl (dTt ‹_›) ?_) | (refine k_gf rfl rfl (dFf oM) ?_) | (refine k_tt rfl rfl ?_) | (refine k_ff rfl rfl ?_))
 (refine k_any (s_any (id := 8) _ (fun _ h => h) mixed ?_); refine jW 11 [1, 2] (bts 13 6) ?_; (refine jG (bts 13 7) 0 rfl (g_ldA rfl rfl rfl rfl) ?_); (refine jG (bts 13 15) 3 rfl (g_ldA rfl rfl rfl rfl) ?_); refine x_all [4, 9] kR dC ⟨?_, ?_, trivial⟩; (focus (refine x_opg rfl rfl ?_; (refine c_pu rfl rfl rfl cx_tg rfl ?_; rintro _ ⟨nt, rfl, hnt⟩); refine jK (bts 13 31) ?_; refine jW 4 [5, 6, 7, 8] (bts 13 511) ?_; refine jA 9 rfl ?_; (refine jL fun _ => ?_); refine jK (bts 13 1023) ?_; refine jA 10 rfl ?_; (refine jC rfl rfl rfl ?_); refine jK (bts 13 2047) ?_; refine jW 0 [11, 12] (bts 13 8191) ?_; refine jQ ?_)); rotate_left 1; (focus (refine x_opg rfl rfl ?_; (refine jL fun _ => ?_); refine jK (bts 13 527) ?_; refine jA 4 rfl ?_; (refine c_pu rfl rfl rfl cx_tg rfl ?_; rintro _ ⟨nt, rfl, hnt⟩); refine jK (bts 13 543) ?_; refine jW 3 [5, 6, 7, 8] (bts 13 1023) ?_; refine jA 10 rfl ?_; (refine jC rfl rfl rfl ?_); refine jK (bts 13 2047) ?_; refine jW 0 [11, 12] (bts 13 8191) ?_; refine jQ ?_)); rotate_left 1)
 all_goals
  have hnone : ∀ {v : Value} {G' : Gh} {r : List UInt8}, rdField (rd (tys vs) n) x.2 s = none → v = Tu [.pointer none, S r, Bo false] → ReadP (tys vs) (rdTyped (tys vs) (rd (tys vs) n) x.2 (60 :: s)) k v G' := fun h1 h2 => ⟨_, _, _, h2, fun h => (by cases h), fun _ => by rw [hRT, h1]⟩
  cases hb16 : (numOf (s.takeWhile isDg) 200).isSome && (fldT x.2.fields nt).isSome with
  | false =>
   have hno : rdField (rd (tys vs) n) x.2 s = none := by
    cases hm : numOf (s.takeWhile isDg) 200 with
    | none => exact field_none (.inl hm)
    | some m0 =>
     refine field_none (.inr ⟨m0, hm, ?_⟩)
     rw [hm] at hb16
     rw [← hnt m0 hm]
     cases hf : fldT x.2.fields nt with
     | none => rfl
     | some d => rw [hf] at hb16; cases hb16
   repeat' (first | (refine jR ?_) | (refine jo ?_; (refine jAt rfl ?_)) | (refine k_gt rfl rfl rfl ?_) | (refine k_tt rfl rfl ?_))
   all_goals refine jZ (vs := [_, _, _]) rfl ⟨rfl, rfl, rfl, trivial⟩ rfl ⟨Gh.le.refl _, rfl, ?_⟩
   all_goals exact hnone hno rfl
  | true =>
   simp only [Bool.and_eq_true] at hb16
   obtain ⟨hb1, hb2⟩ := hb16
   obtain ⟨m0, hm⟩ := Option.isSome_iff_exists.1 hb1
   obtain ⟨d, hd⟩ := Option.isSome_iff_exists.1 hb2
   have hnm := hnt m0 hm
   subst hnm
   rw [hd]
   simp only [Option.getD_some]
   have hdm : d ∈ x.2.fields := List.mem_of_find?_eq_some hd
   have hwl := while_len isDg s
   cases hdw : s.dropWhile isDg with
   | nil =>
    have hno : rdField (rd (tys vs) n) x.2 s = none := field_noeq hm (fun s2 h => by rw [hdw] at h; cases h)
    repeat' (first | (refine jR ?_) | (refine jo ?_; first | (refine jAt rfl ?_) | (refine jAf rfl ?_)) | (refine k_gt rfl rfl rfl ?_) | (refine k_gf rfl rfl rfl ?_) | (refine k_tt rfl rfl ?_))
    all_goals refine jZ (vs := [_, _, _]) rfl ⟨rfl, rfl, rfl, trivial⟩ rfl ⟨Gh.le.refl _, rfl, ?_⟩
    all_goals exact hnone hno rfl
   | cons e r2 =>
    have he20 : bt (e :: r2) (Int.toNat 0) = e.toNat := bt_zero e r2
    have hel2 : (e :: r2).length = r2.length + 1 := rfl
    by_cases h61 : e.toNat = 61
    case neg =>
     have hno : rdField (rd (tys vs) n) x.2 s = none := field_noeq hm (fun s2 h => by rw [hdw] at h; simp only [List.cons.injEq] at h; exact h61 (by rw [h.1]; rfl))
     repeat' (first | refine jM ?_ | (refine jo ?_; (refine jAf rfl ?_)) | (refine k_gf rfl rfl rfl ?_) | (refine k_tt rfl (dTt oM) ?_))
     all_goals refine jZ (vs := [_, _, _]) rfl ⟨rfl, rfl, rfl, trivial⟩ rfl ⟨Gh.le.refl _, rfl, ?_⟩
     all_goals exact hnone hno rfl
    have he61 : e = 61 := UInt8.toNat_inj.1 h61
    have hfs := field_some (f := rd (tys vs) n) (t := x.2) (s := s) hm hd (by rw [hdw, he61])
    have hdk : kindIn (tys vs) d.kind = true := kind_in hw hxt oM hdm
    rw [hdw, List.length_cons] at hwl
    have cx_rd := hR G d.kind r2 h hdk oM
    rw [← edn] at cx_rd
    repeat' (first | refine jM ?_ | (refine jo ?_; (refine jAf rfl ?_)) | (refine k_gf rfl rfl rfl ?_) | (refine k_ff rfl (dFf oM) ?_))
    (refine k_any (s_any (id := 11) _ (fun _ h => h) mixed ?_); refine jW 10 [1, 2, 3, 5, 6] (bts 15 110) ?_; (refine jG (bts 15 111) 0 rfl (g_ldA rfl rfl rfl rfl) ?_); (refine jG (bts 15 127) 4 rfl (g_ld rfl rfl rfl) ?_); refine jA 7 rfl ?_; (refine c_fns rfl rfl rfl cx_rd rfl ?_; rintro _ G hle ⟨q1, r1, ok1, rfl, hyes, hno⟩; skip); refine jS (bts 15 255) ?_; refine jT 0 [8, 9, 10, 11, 12, 13, 14] (bts 15 32767) ?_; refine jQ ?_)
    cases ok1 with
    | false =>
     have hno2 : rdField (rd (tys vs) n) x.2 s = none := by rw [hfs, hno rfl]; rfl
     repeat' (first | (refine jR ?_) | (refine jo ?_; (refine jAt rfl ?_)) | (refine k_gt rfl rfl rfl ?_) | (refine k_tt rfl rfl ?_))
     all_goals refine jZ (vs := [_, _, _]) rfl ⟨rfl, rfl, rfl, trivial⟩ rfl ⟨hle, rfl, ?_⟩
     all_goals exact hnone hno2 rfl
    | true =>
     obtain ⟨w, wb, rfl, hf, hrep⟩ := hyes rfl
     have hfd : rdField (rd (tys vs) n) x.2 s = some ((d, w), r1) := by rw [hfs, hf]; rfl
     rw [hfd] at hRT
     dsimp only at hRT
     cases r1 with
     | nil =>
      repeat' (first | (refine jR ?_) | (refine jo ?_; first | (refine jAt rfl ?_) | (refine jAf rfl ?_)) | (refine k_gt rfl rfl rfl ?_) | (refine k_gf rfl rfl rfl ?_) | (refine k_tt rfl rfl ?_))
      all_goals refine jZ (vs := [_, _, _]) rfl ⟨rfl, rfl, rfl, trivial⟩ rfl ⟨hle, rfl, ?_⟩
      all_goals (rw [oneOf_three]; exact ⟨_, _, _, rfl, fun h => (by cases h), fun _ => hRT⟩)
     | cons e3 r3 =>
      have he30 : bt (e3 :: r3) (Int.toNat 0) = e3.toNat := bt_zero e3 r3
      have hel3 : (e3 :: r3).length = r3.length + 1 := rfl
      dsimp only at hRT
      by_cases h62 : e3.toNat = 62
      case neg =>
       rw [if_neg h62] at hRT
       repeat' (first | refine jM ?_ | (refine jo ?_; (refine jAf rfl ?_)) | (refine k_gf rfl rfl rfl ?_) | (refine k_tt rfl (dTt oM) ?_))
       all_goals refine jZ (vs := [_, _, _]) rfl ⟨rfl, rfl, rfl, trivial⟩ rfl ⟨hle, rfl, ?_⟩
       all_goals (rw [oneOf_three]; exact ⟨_, _, _, rfl, fun h => (by cases h), fun _ => hRT⟩)
      rw [if_pos h62] at hRT
      repeat' (first | refine jM ?_ | (refine jo ?_; (refine jAf rfl ?_)) | (refine k_gf rfl rfl rfl ?_) | (refine k_ff rfl (dFf oM) ?_))
      (refine k_any (s_any (id := 14) _ (fun _ h => h) mixed ?_); refine jW 8 [0, 1, 4, 8, 9] (bts 13 787) ?_; (refine jG (bts 13 791) 2 rfl (g_ld rfl rfl rfl) ?_); refine x_all [3, 5] kR dC ⟨?_, ?_, trivial⟩; (focus (refine x_opg rfl rfl ?_; (refine jF fun _ => ?_); refine jS (bts 13 799) ?_; refine jA 5 rfl ?_; (refine jF fun _ => ?_); refine jS (bts 13 831) ?_; (refine jG (bts 13 895) 6 rfl (g_bld rfl rfl) ?_); refine jA 7 rfl ?_; (refine jO fun _ => ?_); refine jS (bts 13 1023) ?_; refine jW 0 [10, 11, 12] (bts 13 8191) ?_; refine jQ ?_)); rotate_left 1; (focus (refine x_opg rfl rfl ?_; (refine jF fun _ => ?_); refine jS (bts 13 823) ?_; refine jA 3 rfl ?_; (refine jF fun _ => ?_); refine jS (bts 13 831) ?_; (refine jG (bts 13 895) 6 rfl (g_bld rfl rfl) ?_); refine jA 7 rfl ?_; (refine jO fun _ => ?_); refine jS (bts 13 1023) ?_; refine jW 0 [10, 11, 12] (bts 13 8191) ?_; refine jQ ?_)); rotate_left 1)
      all_goals repeat' (refine jR ?_)
      all_goals
       rename_i y1 y2 y8
       refine Nx.sealC (b := y1) fun G2 hG2 hs1 => ?_
       refine Nx.sealC (b := y2) fun G3 hG3 hs2 => ?_
       refine Nx.sealC (b := y8) fun G4 hG4 hsg => ?_
       refine jZ (vs := [_, _, _]) rfl ⟨rfl, rfl, rfl, trivial⟩ rfl ⟨(((hle.trans hG2).trans hG3).trans hG4), rfl, ?_⟩
       rw [oneOf_three]
       first | exact ⟨_, _, _, rfl, fun _ => ⟨.nd 85 [] d.tag [w], y8, rfl, hRT, .uni k y8 y1 y2 wb 1 x.2 d w (Nat.le_refl _) ⟨hrf, hso⟩ hdm hsg (hs1.mono (hG3.trans hG4)) (hs2.mono hG4) (hrep.mono ((hG2.trans hG3).trans hG4))⟩, fun h => (by cases h)⟩ | exact ⟨_, _, _, rfl, fun _ => ⟨.nd 85 [] d.tag [w], y8, rfl, hRT, .uni k y8 y2 y1 wb 1 x.2 d w (Nat.le_refl _) ⟨hrf, hso⟩ hdm hsg (hs2.mono hG4) (hs1.mono (hG3.trans hG4)) (hrep.mono ((hG2.trans hG3).trans hG4))⟩, fun h => (by cases h)⟩
theorem rd_nil {ts : List Ty} {n : Nat} {k : List UInt8} : rd ts n k [] = none := by
 cases h : rd ts n k [] with
 | none => rfl
 | some x => have := rd_short h; simp at this
theorem c_read0 {n : Nat} {u : Value} {vs : List TyX} {k s : List UInt8} (hc : s = [] ∨ n = 0) (hn : n ≤ 1000) : FnS Tryz.prog 50 [Ag [u], S s, S k, I (n : Nat)] G (ReadP (tys vs) (rd (tys vs) n k s) k) := by
 have hno : rd (tys vs) n k s = none := by
  rcases hc with rfl | rfl
  ·exact rd_nil
  ·rfl
 by_cases hs : s = []
 ·refine jB [(0, _), (1, _), (2, _), (3, _)] Tryz.func50 Tryz.ntmps50 fun B hok hB hW => ?_
  repeat' (first | (refine jR ?_) | (refine jo ?_; first | refine jO fun _ => ?_ | (refine jAt rfl ?_)) | (refine k_gt rfl rfl (dTt ‹_›) ?_) | (refine k_tt rfl rfl ?_))
  refine jZ (vs := [_, _, _]) rfl ⟨rfl, rfl, rfl, trivial⟩ rfl ⟨Gh.le.refl _, rfl, ?_⟩
  rw [oneOf_three]
  exact ⟨_, _, _, rfl, fun h => (by cases h), fun _ => hno⟩
 ·have hn0 : n = 0 := by
   rcases hc with h | h
   ·exact absurd h hs
   ·exact h
  refine jB [(0, _), (1, _), (2, _), (3, _)] Tryz.func50 Tryz.ntmps50 fun B hok hB hW => ?_
  repeat' (first | (refine jR ?_) | (refine jo ?_; first | refine jO fun _ => ?_ | (refine jAf rfl ?_)) | (refine k_gf rfl rfl (dFf ‹_›) ?_) | (refine k_tt rfl (dTt oM) ?_))
  refine jZ (vs := [_, _, _]) rfl ⟨rfl, rfl, rfl, trivial⟩ rfl ⟨Gh.le.refl _, rfl, ?_⟩
  rw [oneOf_three]
  exact ⟨_, _, _, rfl, fun h => (by cases h), fun _ => hno⟩
theorem c_readL {n : Nat} {u : Value} {vs : List TyX} {k s : List UInt8} {e : UInt8} (hR : ReadC n u vs) (h : SchR G u vs) (hk : kindIn (tys vs) (91 :: k) = true) (hs : s.length ≤ 1999999) (hn : n ≤ 999) :
  FnS Tryz.prog 50 [Ag [u], S (e :: s), S (91 :: k), I (n + 1 : Nat)] G (ReadP (tys vs) (rd (tys vs) (n + 1) (91 :: k) (e :: s)) (91 :: k)) := by
 have hrd : rd (tys vs) (n + 1) (91 :: k) (e :: s) = rdList (rd (tys vs) n k) (e :: s) := by rw [rd]; exact rdK_list rfl
 have he0 : bt (e :: s) (Int.toNat 0) = e.toNat := bt_zero e s
 have hel : (e :: s).length = s.length + 1 := rfl
 have hk0 : bt (91 :: k) (Int.toNat 0) = 91 := bt_zero 91 k
 have hkl2 : (91 :: k).length = k.length + 1 := rfl
 by_cases h91 : e.toNat = 91
 ·obtain rfl := u8_eq h91 dC
  have cx_ls := c_listS (s := s) hR h (kindIn_tail (.inl rfl) hk) oM oM
  refine jB [(0, _), (1, _), (2, _), (3, _)] Tryz.func50 Tryz.ntmps50 fun B hok hB hW => ?_
  repeat' (first | refine jM ?_ | (refine jo ?_; first | refine jO fun _ => ?_ | (refine jAf rfl ?_)) | (refine k_gf rfl rfl rfl ?_) | (refine k_tt rfl rfl ?_) | (refine k_ff rfl rfl ?_) | (refine k_any (s_any (id := 7) _ (fun _ h => h) mixed ?_); refine jW 8 [1, 2, 3, 4] (bts 12 30) ?_; (refine jG (bts 12 31) 0 rfl (g_ldA rfl rfl rfl rfl) ?_); refine jA 5 rfl ?_; (refine c_fns rfl rfl rfl cx_ls rfl ?_; rintro _ G hle ⟨q1, r1, ok1, rfl, hyes, hno⟩; skip); refine jS (bts 12 63) ?_; refine jT 0 [6, 7, 8, 9, 10, 11] (bts 12 4095) ?_; refine jQ ?_))
  refine jZ (vs := [_, _, _]) rfl ⟨rfl, rfl, rfl, trivial⟩ rfl ⟨hle, rfl, ?_⟩
  rw [oneOf_three, hrd]
  exact ⟨_, _, _, rfl, hyes, hno⟩
 ·have hno : rdList (rd (tys vs) n k) (e :: s) = none := by unfold rdList; dsimp only; rw [if_neg h91]
  refine jB [(0, _), (1, _), (2, _), (3, _)] Tryz.func50 Tryz.ntmps50 fun B hok hB hW => ?_
  repeat' (first | refine jM ?_ | (refine jo ?_; first | refine jO fun _ => ?_ | (refine jAf rfl ?_)) | (refine k_gf rfl rfl rfl ?_) | (refine k_tt rfl (by first | rfl | (refine decide_eq_true ?_; (omega))) ?_) | (refine k_ff rfl rfl ?_))
  refine jZ (vs := [_, _, _]) rfl ⟨rfl, rfl, rfl, trivial⟩ rfl ⟨Gh.le.refl _, rfl, ?_⟩
  rw [oneOf_three, hrd]
  exact ⟨_, _, _, rfl, fun h => (by cases h), fun _ => hno⟩
theorem c_readO {n : Nat} {u : Value} {vs : List TyX} {k s : List UInt8} {e : UInt8} (hR : ReadC n u vs) (h : SchR G u vs) (hk : kindIn (tys vs) (63 :: k) = true) (hs : s.length ≤ 1999999) (hn : n ≤ 999) :
  FnS Tryz.prog 50 [Ag [u], S (e :: s), S (63 :: k), I (n + 1 : Nat)] G (ReadP (tys vs) (rd (tys vs) (n + 1) (63 :: k) (e :: s)) (63 :: k)) := by
 have edn : ((n + 1 : Nat) : Int) - 1 = (n : Nat) := oM
 have hrd : rd (tys vs) (n + 1) (63 :: k) (e :: s) = if e.toNat = 45 then some (.nd 63 [] 0 [], s) else if e.toNat = 43 then (rd (tys vs) n k s).map fun x => (.nd 63 [] 0 [x.1], x.2) else none := by
  rw [rd]; unfold rdK
  dsimp only
  rw [if_neg (show ¬ (63 : UInt8).toNat = 91 by decide), if_pos (show (63 : UInt8).toNat = 63 from rfl)]
 have he0 : bt (e :: s) (Int.toNat 0) = e.toNat := bt_zero e s
 have hel : (e :: s).length = s.length + 1 := rfl
 have hk0 : bt (63 :: k) (Int.toNat 0) = 63 := bt_zero 63 k
 have hkl2 : (63 :: k).length = k.length + 1 := rfl
 rw [hrd]
 by_cases h45 : e.toNat = 45
 ·rw [if_pos h45]
  refine jB [(0, _), (1, _), (2, _), (3, _)] Tryz.func50 Tryz.ntmps50 fun B hok hB hW => ?_
  repeat' (first | refine jM ?_ | (refine jo ?_; first | refine jO fun _ => ?_ | (refine jAf rfl ?_)) | (refine k_gf rfl rfl rfl ?_) | (refine k_tt rfl (by first | rfl | (refine decide_eq_true ?_; (omega))) ?_) | (refine k_ff rfl rfl ?_) | (refine k_any (s_any (id := 10) _ (fun _ h => h) mixed ?_); refine jW 5 [0, 3, 4] (bts 8 25) ?_; (refine jG (bts 8 27) 1 rfl (g_bld rfl rfl) ?_); refine jA 2 rfl ?_; (refine jO fun _ => ?_); refine jS (bts 8 31) ?_; refine jT 0 [5, 6, 7] (bts 8 255) ?_; refine jQ ?_))
  rename_i y
  refine Nx.sealC (b := y) fun G2 hG2 hsy => ?_
  refine jZ (vs := [_, _, _]) rfl ⟨rfl, rfl, rfl, trivial⟩ rfl ⟨hG2, rfl, ?_⟩
  rw [oneOf_three]
  exact ⟨_, _, _, rfl, fun _ => ⟨_, y, rfl, rfl, .non k y hsy⟩, fun h => (by cases h)⟩
 rw [if_neg h45]
 by_cases h43 : e.toNat = 43
 ·rw [if_pos h43]
  have cx_rd := hR G k s h (kindIn_tail (.inr rfl) hk) oM
  rw [← edn] at cx_rd
  refine jB [(0, _), (1, _), (2, _), (3, _)] Tryz.func50 Tryz.ntmps50 fun B hok hB hW => ?_
  repeat' (first | refine jM ?_ | (refine jo ?_; first | refine jO fun _ => ?_ | (refine jAf rfl ?_) | refine jV (g_bld rfl rfl) ?_ | refine jF fun _ => ?_) | (refine k_gf rfl rfl rfl ?_) | (refine k_tt rfl rfl ?_) | (refine k_ff rfl (by first | rfl | (refine decide_eq_false ?_; (omega))) ?_) | (refine k_any (s_any (id := 13) _ (fun _ h => h) mixed ?_); refine jW 9 [1, 2, 3, 4, 5, 6] (bts 15 126) ?_; (refine jG (bts 15 127) 0 rfl (g_ldA rfl rfl rfl rfl) ?_); refine jA 7 rfl ?_; (refine c_fns rfl rfl rfl cx_rd rfl ?_; rintro _ G hle ⟨q1, r1, ok1, rfl, hyes, hno⟩; skip); refine jS (bts 15 255) ?_; refine jT 0 [8, 9, 10, 11, 12, 13, 14] (bts 15 32767) ?_; refine jQ ?_))
  rename_i y1 y8
  refine Nx.sealC (b := y1) fun G2 hG2 hs1 => ?_
  refine Nx.sealC (b := y8) fun G3 hG3 hsg => ?_
  refine jZ (vs := [_, _, _]) rfl ⟨rfl, rfl, rfl, trivial⟩ rfl ⟨((hle.trans hG2).trans hG3), rfl, ?_⟩
  rw [oneOf_three]
  refine ⟨_, _, _, rfl, fun hb => ?_, fun hb => by rw [hno hb]; rfl⟩
  obtain ⟨w, wb, rfl, hf, hrep⟩ := hyes hb
  exact ⟨.nd 63 [] 0 [w], y8, rfl, by rw [hf]; rfl, .opt k y8 y1 wb 1 w (Nat.le_refl _) hsg (hs1.mono hG3) (hrep.mono (hG2.trans hG3))⟩
 ·rw [if_neg h43]
  refine jB [(0, _), (1, _), (2, _), (3, _)] Tryz.func50 Tryz.ntmps50 fun B hok hB hW => ?_
  repeat' (first | refine jM ?_ | (refine jo ?_; first | refine jO fun _ => ?_ | (refine jAf rfl ?_)) | (refine k_gf rfl rfl rfl ?_) | (refine k_tt rfl (by first | rfl | (refine decide_eq_true ?_; (omega))) ?_) | (refine k_ff rfl (by first | rfl | (refine decide_eq_false ?_; (omega))) ?_))
  refine jZ (vs := [_, _, _]) rfl ⟨rfl, rfl, rfl, trivial⟩ rfl ⟨Gh.le.refl _, rfl, ?_⟩
  rw [oneOf_three]
  exact ⟨_, _, _, rfl, fun h => (by cases h), fun _ => rfl⟩
theorem c_readA {n : Nat} {u : Value} {vs : List TyX} {k s : List UInt8} {e : UInt8} {t : Ty} (hR : ReadC n u vs) (h : SchR G u vs) (hw : SchW (tys vs)) (hk : kindIn (tys vs) k = true) (hrf : refT (tys vs) k = some t) (hs : s.length ≤ 1999999) (hn : n ≤ 999) :
  FnS Tryz.prog 50 [Ag [u], S (e :: s), S k, I (n + 1 : Nat)] G (ReadP (tys vs) (rd (tys vs) (n + 1) k (e :: s)) k) := by
 obtain ⟨r, rfl⟩ := refT_64 hrf
 have hkk := kindOk_kOk (kindIn_ok hk)
 have hrd : rd (tys vs) (n + 1) (64 :: r) (e :: s) = rdTyped (tys vs) (rd (tys vs) n) t (e :: s) := by
  rw [rd]; unfold rdK
  dsimp only
  rw [if_neg (show ¬ (64 : UInt8).toNat = 91 by decide), if_neg (show ¬ (64 : UInt8).toNat = 63 by decide), hrf]
 have hvl : vs.length ≤ 8 := by have := hw.len; unfold tys at this; simpa using this
 have href := refV_ty vs (64 :: r)
 have cx_rf := c_ref (k := 64 :: r) h oM hkk.1 oM
 rcases hr : refV vs (64 :: r) with _ | x
 ·rw [hr, hrf] at href; cases href
 rw [hr] at href cx_rf
 have htx : x.2 = t := by rw [hrf] at href; exact Option.some.inj href
 subst htx
 have hx := refV_mem hr
 have cx_na : FnS Tryz.prog 91 [Ag [u], S (e :: s), S (64 :: r), I (n + 1 : Nat)] G (ReadP (tys vs) (rdTyped (tys vs) (rd (tys vs) n) x.2 (e :: s)) (64 :: r)) := by
  have hso := (hw.ty _ (List.mem_map_of_mem hx)).sort
  by_cases h1 : x.2.sort = 82 ∧ e.toNat = 123
  ·obtain rfl := u8_eq h1.2 dC
   exact c_namR hR h hw hx hrf cx_rf h1.1 hs oM oM
  by_cases h2 : x.2.sort = 69 ∧ e.toNat = 35
  ·obtain rfl := u8_eq h2.2 dC
   exact c_namE h hw hx hrf cx_rf h2.1 hs oM
  by_cases h3 : x.2.sort = 85 ∧ e.toNat = 60
  ·obtain rfl := u8_eq h3.2 dC
   exact c_namU hR h hw hx hrf cx_rf h3.1 hs oM
  refine c_namX h.sl.one cx_rf ?_ oM oM
  rcases hso with h4 | h4 | h4 <;> omega
 have hel : (e :: s).length = s.length + 1 := rfl
 have hk0 : bt (64 :: r) (Int.toNat 0) = 64 := bt_zero 64 r
 have hkl2 : (64 :: r).length = r.length + 1 := rfl
 refine jB [(0, _), (1, _), (2, _), (3, _)] Tryz.func50 Tryz.ntmps50 fun B hok hB hW => ?_
 repeat' (first | refine jM ?_ | (refine jo ?_; first | refine jO fun _ => ?_ | (refine jAf rfl ?_) | refine jAm rfl ?_ | (refine c_fns rfl rfl rfl cx_na rfl ?_; rintro _ G hle ⟨q1, r1, ok1, rfl, hyes, hno⟩; skip)) | (refine k_gf rfl rfl rfl ?_) | (refine k_tt rfl rfl ?_) | (refine k_ff rfl rfl ?_))
 refine jZ (vs := [_, _, _]) rfl ⟨rfl, rfl, rfl, trivial⟩ rfl ⟨hle, rfl, ?_⟩
 rw [oneOf_three, hrd]
 exact ⟨_, _, _, rfl, hyes, hno⟩
theorem c_readP {n : Nat} {u : Value} {vs : List TyX} {s : List UInt8} {c e : UInt8} (hu : u.oneCell' = true) (hc : c = 110 ∨ c = 116 ∨ c = 102) (hr : refT (tys vs) [c] = none) (hs : s.length ≤ 1999999) (hn : n ≤ 999) :
  FnS Tryz.prog 50 [Ag [u], S (e :: s), S [c], I (n + 1 : Nat)] G (ReadP (tys vs) (rd (tys vs) (n + 1) [c] (e :: s)) [c]) := by
 have hrd := rd_plain (ts := tys vs) (n := n) (s := e :: s) hc hr
 have hel : (e :: s).length = s.length + 1 := rfl
 have cx_pl : FnS Tryz.prog 92 [Ag [u], S (e :: s), S [c]] G (ReadP (tys vs) (rd (tys vs) (n + 1) [c] (e :: s)) [c]) := by
  rw [hrd]
  rcases hc with rfl | rfl | rfl
  ·rw [if_pos rfl]; exact c_plainN hu oM
  ·rw [if_neg dC, if_pos rfl]; exact c_plainT hu oM (by simp)
  ·rw [if_neg dC, if_neg dC]; exact c_plainF hu oM
 clear hrd
 rcases hc with rfl | rfl | rfl
 all_goals
  refine jB [(0, _), (1, _), (2, _), (3, _)] Tryz.func50 Tryz.ntmps50 fun B hok hB hW => ?_
  repeat' (first | (refine jX ?_) | (refine jo ?_; first | refine jO fun _ => ?_ | (refine jAf rfl ?_) | refine jAm rfl ?_ | (refine c_fns rfl rfl rfl cx_pl rfl ?_; rintro _ G hle ⟨q1, r1, ok1, rfl, hyes, hno⟩; skip)) | (refine k_gf rfl rfl rfl ?_) | (refine k_ff rfl rfl ?_))
  refine jZ (vs := [_, _, _]) rfl ⟨rfl, rfl, rfl, trivial⟩ rfl ⟨hle, rfl, ?_⟩
  rw [oneOf_three]
  exact ⟨_, _, _, rfl, hyes, hno⟩
theorem readC_all {u : Value} {vs : List TyX} (hw : SchW (tys vs)) : ∀ n, n ≤ 1000 → ReadC n u vs
 | 0, _ => fun G k s _ _ _ => c_read0 (.inr rfl) oM
 | n + 1, hn => fun G k s h hk hs => by
  have hR := readC_all (u := u) (vs := vs) hw n oM
  match s, hs with
  | [], _ => exact c_read0 (.inl rfl) hn
  | e :: s, hs =>
   simp only [List.length_cons] at hs
   match k, hk with
   | [], hk => cases hk
   | c :: k, hk =>
    by_cases h1 : c.toNat = 91
    ·obtain rfl := u8_eq h1 dC
     exact c_readL hR h hk oM oM
    by_cases h2 : c.toNat = 63
    ·obtain rfl := u8_eq h2 dC
     exact c_readO hR h hk oM oM
    have h91 : ¬ (c.toNat = 91 ∨ c.toNat = 63) := fun h => by rcases h with h | h <;> omega
    cases hr : refT (tys vs) (c :: k) with
    | some t => exact c_readA hR h hw hk hr oM oM
    | none =>
     rcases plain_kinds hk h91 hr with e1 | e1 | e1
     all_goals
      simp only [List.cons.injEq] at e1
      obtain ⟨rfl, rfl⟩ := e1
      exact c_readP h.sl.one (by simp) hr oM oM
theorem c_l4Of0 {s k w : List UInt8} (h : s.length ≤ 1048576 ∧ k.length ≤ 1048576 ∧ w.length ≤ 1048576) (hno : givenV s k w = none) : FnS Tryz.prog 31 [S s, S k, S w] G (fun v _ => ∃ u q, v = Tu [u, .pointer q, Bo false]) := by
 by_cases hk : kindS s k = true
 case neg =>
  have hk2 : kindS s k = false := by simpa using hk
  have cx_lk1 : ∀ G, FnS Tryz.prog 19 [S s, S k] G (fun v _ => ∃ u, v = Tu [u, Bo false]) := fun G => by
   refine (c_l3Kind (G := G) (s := s) (k := k) oM oM).mono ?_
   rintro v G' L' ⟨h1, h2, u, vs, rfl, _⟩
   exact ⟨h1, h2, u, by rw [hk2]⟩
  refine jB [(0, _), (1, _), (2, _)] Tryz.func31 Tryz.ntmps31 fun B hok hB hW => ?_
  repeat' (first | (refine jR ?_) | (refine jo ?_; first | (refine jAt rfl ?_) | (refine c_fns rfl rfl rfl (cx_lk1 _) rfl ?_; rintro _ G hle ⟨u1, rfl⟩; skip)) | (refine k_gt rfl rfl rfl ?_) | (refine k_tt rfl rfl ?_))
  all_goals refine jZ (vs := [_, _, _]) rfl ⟨rfl, rfl, rfl, trivial⟩ rfl ⟨hle, rfl, ?_⟩
  all_goals exact ⟨_, _, rfl⟩
 obtain ⟨ts, hs, hki, hw⟩ := kindS_some2 hk
 have hvo : valOf ts k w = none := by unfold givenV at hno; rw [hs] at hno; dsimp only at hno; rwa [if_pos hki] at hno
 have cx_lka : ∀ G, FnS Tryz.prog 19 [S s, S k] G (fun v G' => ∃ a c vs, v = Tu [.slice a vs.length c, Bo true] ∧ SchR G' (.slice a vs.length c) vs ∧ tys vs = ts) := fun G => by
  refine (c_l3Kind (G := G) (s := s) (k := k) oM oM).mono ?_
  rintro v G' L' ⟨h1, h2, u, vs, rfl, h4, _, h6⟩
  obtain ⟨_, ⟨rfl, h0⟩ | ⟨b, o, cap, rfl, _, _⟩⟩ := h4.sl
  ·exact ⟨h1, h2, none, 0, vs, by rw [hk, h0], by rw [h0]; exact h4, h6 ts hs hki⟩
  ·exact ⟨h1, h2, _, cap, vs, by rw [hk], h4, h6 ts hs hki⟩
 by_cases hl : w.length ≤ 400
 case neg =>
  refine jB [(0, _), (1, _), (2, _)] Tryz.func31 Tryz.ntmps31 fun B hok hB hW => ?_
  repeat' (first | (refine jR ?_) | (refine jo ?_; first | (refine jAf rfl ?_) | (refine c_fns rfl rfl rfl (cx_lka _) rfl ?_; rintro _ G hle ⟨av1, cv1, vs1, rfl, hR1, hT1⟩; skip)) | (refine k_gf rfl rfl rfl ?_) | (refine k_tt rfl (dTt oM) ?_))
  all_goals refine jZ (vs := [_, _, _]) rfl ⟨rfl, rfl, rfl, trivial⟩ rfl ⟨hle, rfl, ?_⟩
  all_goals exact ⟨_, _, rfl⟩
 refine jB [(0, _), (1, _), (2, _)] Tryz.func31 Tryz.ntmps31 fun B hok hB hW => ?_
 repeat' (first | (refine jR ?_) | (refine jo ?_; first | (refine jAf rfl ?_) | refine jV (g_bld rfl rfl) ?_ | (refine c_fns rfl rfl rfl (cx_lka _) rfl ?_; rintro _ G hle ⟨av1, cv1, vs1, rfl, hR1, hT1⟩; skip)) | (refine k_gf rfl rfl rfl ?_) | (refine k_ff rfl (dFf oM) ?_))
 have hR := readC_all (u := .slice av1 vs1.length cv1) (vs := vs1) (by rw [hT1]; exact hw) 12 oM G k w hR1 (by rw [hT1]; exact hki) oM
 obtain ⟨f, hf⟩ : ∃ f, f = rd (tys vs1) 12 k w := ⟨_, rfl⟩
 rw [← hf] at hR
 have cx_rd := hR
 clear hR
 repeat' (first | (refine jR ?_) | (refine jo ?_; first | (refine jAt rfl ?_) | (refine jAf rfl ?_) | (refine c_fns rfl rfl rfl cx_rd rfl ?_; rintro _ G hle ⟨q1, r1, ok1, rfl, hyes, hno⟩; skip)) | refine k_gb rfl rfl (fun _ => ?_) (fun _ => ?_))
 all_goals rename_i hok
 ·have hr : decide (r1 = []) = false := decide_eq_false fun h => by
   obtain ⟨v, b, _, h2, _⟩ := hyes hok
   unfold valOf at hvo
   rw [if_pos hl, ← hT1, ← hf, h2, h] at hvo
   cases hvo
  refine jZ (vs := [_, _, _]) rfl ⟨rfl, rfl, rfl, trivial⟩ rfl ⟨(Gh.le.trans aS hle), rfl, ?_⟩
  exact ⟨_, _, by rw [hr]; rfl⟩
 ·refine jZ (vs := [_, _, _]) rfl ⟨rfl, rfl, rfl, trivial⟩ rfl ⟨(Gh.le.trans aS hle), rfl, ?_⟩
  exact ⟨_, _, rfl⟩
abbrev tTxL : TypeId := 9
def LvC (G : Gh) (b : Nat) (v : V) : Prop := ∀ (q : List Int) (a : Option Addr) (m cap : Nat) (out : List (List UInt8)), m = out.length → m + v.tot ≤ 100000 → (∀ n ∈ q, 0 ≤ n ∧ n ≤ 999999) → q.length + v.tot ≤ 100000 →
 FnG Tryz.prog 109 [Pt b 0, S (pathText q), .slice a m cap] G [.acc (.slice a m cap) tTxL 1 m (rows strF out)]
  (fun r L' => ∃ a' cap', r = .slice a' (m + v.size) cap' ∧ L' = [.acc (.slice a' (m + v.size) cap') tTxL 1 (m + v.size) (rows strF (out ++ lvT q v))])
theorem c_leavesS {ts : List Ty} (hw : SchW ts) {v : V} {k : List UInt8} {b : Nat} (h : RepR G ts v k b) : LvC G b v := by
 induction h with
 | leaf w x k tx b h1 h2 =>
  intro q a m cap out hm hto hqn hql
  have hn82 : ¬ tx = [82] := by
   rcases h2 with ⟨_, _, rfl, h⟩ | ⟨_, _, rfl⟩ | ⟨_, _, rfl, h⟩
   ·rintro rfl; exact absurd (h 82 (by simp)) dC
   ·simp
   ·rcases h with rfl | rfl <;> decide
  have hrow : rows strF out ++ [S (pathText q)] = rows strF (out ++ [pathText q]) := (rows_snoc strF out (pathText q)).symm
  have key : FnG Tryz.prog 109 [Pt b 0, S (pathText q), .slice a m cap] G [.acc (.slice a m cap) tTxL 1 m (rows strF out)]
    (fun r L' => ∃ a' cap', r = .slice a' (m + 1) cap' ∧ L' = [.acc (.slice a' (m + 1) cap') tTxL 1 (m + 1) (rows strF (out ++ [pathText q]))]) := by
   rcases h2 with ⟨rfl, rfl, _⟩ | ⟨rfl, rfl, _⟩ | ⟨rfl, rfl, _⟩
   all_goals
    refine jH [(0, _), (1, _), (2, _)] Tryz.func109 Tryz.ntmps109 fun B hB hW => ?_
    repeat' (first | (refine jX ?_) | (refine jo ?_; first | refine jV (g_ldS rfl rfl aS rfl rfl) ?_ | refine jV (g_lenL rfl) ?_ | (refine jAf rfl ?_) | refine jF fun _ => ?_ | (refine c_apX rfl rfl rfl rfl rfl rfl rfl rfl rfl oM fun _ _ => ?_)) | (refine k_gf rfl rfl (by first | rfl | (refine decide_eq_false ?_; (assumption))) ?_) | (refine k_tt rfl rfl ?_) | (refine k_ff rfl rfl ?_))
    rw [hrow]
    refine k_rr (vs := [_]) rfl ⟨rfl, trivial⟩ rfl sB ⟨rfl, _, _, rfl, rfl⟩
  have hwl : leafW w true = true := by rcases h2 with ⟨rfl, _⟩ | ⟨rfl, _⟩ | ⟨rfl, _⟩ <;> rfl
  have hsz : V.size (.nd w x 0 []) = 1 := size_leaf hwl
  rw [hsz, lvT_leaf hwl]
  exact key
 | lst k b ks bs a' c h1 h2 h3 hk ih =>
  intro q a m cap out hm hto hqn hql
  rw [nd_tot] at hto hql
  have hsz : V.size (.nd 91 [] 0 ks) = V.sizes ks := by rw [V.size, if_neg (by unfold leafW; simp)]
  have hst := sizes_totL ks
  have hkl := tots_len ks
  rw [hsz, lvT_nd (leafW_91) dC]
  have hk0 : bt (91 :: k) (Int.toNat 0) = 91 := bt_zero 91 k
  have hkl2 : (91 :: k).length = k.length + 1 := rfl
  by_cases hne : ks.length = 0
  ·obtain rfl : ks = [] := List.length_eq_zero_iff.1 hne
   rw [lvS_nil, List.append_nil]
   refine jH [(0, _), (1, _), (2, _)] Tryz.func109 Tryz.ntmps109 fun B hB hW => ?_
   repeat' (first | refine jM ?_ | (refine jo ?_; first | refine jV (g_ldS rfl rfl aS rfl rfl) ?_ | refine jV (g_lenL rfl) ?_ | (refine jAt rfl ?_)) | (refine k_gt rfl rfl rfl ?_) | (refine k_tt rfl rfl ?_))
   refine k_rr (vs := [_]) rfl ⟨rfl, trivial⟩ rfl sRr ⟨rfl, _, _, rfl, rfl⟩
  obtain ⟨kb, ko, kc, e, hs⟩ := h2.expl oM
  simp only [Value.slice.injEq] at e
  obtain ⟨rfl, -, rfl⟩ := e
  refine jH [(0, _), (1, _), (2, _)] Tryz.func109 Tryz.ntmps109 fun B hB hW => ?_
  repeat' (first | (refine jR ?_) | (refine jo ?_; first | refine jV (g_ldS rfl rfl aS rfl rfl) ?_ | refine jV (g_lenL rfl) ?_) | (refine k_ff rfl (dFf oM) ?_))
  rw [show rows strF out = rows strF (out ++ lvS q (ks.take 0) 91 0) by rw [List.take_zero, lvS_nil, List.append_nil]]
  refine k_loop (ι := Nat × Option Addr × Nat) (fun i => i.1 ≤ ks.length) (fun i => [(0, Pt b 0), (1, S (pathText q)), (2, .slice i.2.1 (m + V.sizes (ks.take i.1)) i.2.2), (7, I i.1)]) (fun _ => G) (fun i => [.acc (.slice i.2.1 (m + V.sizes (ks.take i.1)) i.2.2) tTxL 1 (m + V.sizes (ks.take i.1)) (rows strF (out ++ lvS q (ks.take i.1) 91 0))]) (fun i => ks.length - i.1) (0, a, cap) ?_ tU rfl sRr (fun i Hi => ?_)
  ·exact Nat.zero_le _
  obtain ⟨i, a, cap⟩ := i
  dsimp only at Hi ⊢
  by_cases hi : i < ks.length
  ·have hti := tot_nth (ks := ks) hi
   have hsn : m + V.sizes (ks.take (i + 1)) = m + V.sizes (ks.take i) + (nth ks i).size := by rw [take_nth oM, sizes_snocL, Nat.add_assoc]
   have hls : out ++ lvS q (ks.take (i + 1)) 91 0 = out ++ lvS q (ks.take i) 91 0 ++ lvT (q ++ [(i : Int)]) (nth ks i) := by rw [take_nth oM, lvS_snoc, show stepNo 91 0 (ks.take i).length (nth ks i) = (i : Int) by rw [List.length_take, Nat.min_eq_left oM]; rfl, List.append_assoc]
   have hlen : m + V.sizes (ks.take i) = (out ++ lvS q (ks.take i) 91 0).length := by rw [List.length_append, lvS_len, hm]
   have hs1 := sizes_totL (ks.take i)
   have htk := tots_take ks i
   have htk1 := tots_take ks (i + 1)
   rw [take_nth (by (omega)), tots_app] at htk1
   simp only [V.tots] at htk1
   have hxi : nth bs i = nth bs i := rfl
   have hpl := pathText_len hqn
   have hq2 : ∀ n ∈ q ++ [(i : Int)], 0 ≤ n ∧ n ≤ 999999 := snoc_in hqn ⟨oM, oM⟩
   have hdl := decI_6 (hq2 (i : Int) (by simp)).2
   by_cases hq : q = []
   ·have hp : pathText q = [] := path_nil.2 hq
    have cx_lv : FnG Tryz.prog 109 [Pt (nth bs i) 0, S (decI (i : Int)), .slice a (m + V.sizes (ks.take i)) cap] G [.acc (.slice a (m + V.sizes (ks.take i)) cap) tTxL 1 (m + V.sizes (ks.take i)) (rows strF (out ++ lvS q (ks.take i) 91 0))]
      (fun r L' => ∃ a' cap', r = .slice a' (m + V.sizes (ks.take i) + (nth ks i).size) cap' ∧ L' = [.acc (.slice a' (m + V.sizes (ks.take i) + (nth ks i).size) cap') tTxL 1 (m + V.sizes (ks.take i) + (nth ks i).size) (rows strF (out ++ lvS q (ks.take i) 91 0 ++ lvT (q ++ [(i : Int)]) (nth ks i)))]) := by
     subst hq
     exact ih i hi [(i : Int)] a (m + V.sizes (ks.take i)) cap _ hlen oM hq2 (by simp only [List.length_append, List.length_singleton]; omega)
    clear hq
    repeat' (first | refine jM ?_ | (refine jo ?_; first | refine jV (g_ldS rfl rfl aS rfl rfl) ?_ | (refine jV (g_ldR1x rfl rfl aS ?_ aS rfl) ?_; (focus ((omega); done))) | refine jV (g_lenL rfl) ?_ | (refine jV (g_iaddrN rfl rfl oM) ?_) | (refine c_rt rfl rfl rfl (c_l6Dec oM) rfl ?_) | (refine c_accg rfl rfl rfl cx_lv rfl ?_; rintro _ _ ⟨av, cv, rfl, rfl⟩; dsimp only [zA, fA])) | (refine k_tt rfl (dTt oM) ?_) | (refine k_ff rfl ?_ ?_; (focus ((first | rfl | (simp [*]; done)); done))))
    exact k_rd (i + 1, av, cv) (by dsimp only; omega) (by dsimp only; omega) (by dsimp only; rw [hsn]; repeat (first | exact trivial | refine ⟨rfl, ?_⟩)) rfl (by dsimp only; rw [hsn, hls]; repeat (exact List.Sublist.refl _))
   ·have hp : pathText q ≠ [] := fun h => hq (path_nil.1 h)
    have cx_lv : FnG Tryz.prog 109 [Pt (nth bs i) 0, S (pathText q ++ [47] ++ decI (i : Int)), .slice a (m + V.sizes (ks.take i)) cap] G [.acc (.slice a (m + V.sizes (ks.take i)) cap) tTxL 1 (m + V.sizes (ks.take i)) (rows strF (out ++ lvS q (ks.take i) 91 0))]
      (fun r L' => ∃ a' cap', r = .slice a' (m + V.sizes (ks.take i) + (nth ks i).size) cap' ∧ L' = [.acc (.slice a' (m + V.sizes (ks.take i) + (nth ks i).size) cap') tTxL 1 (m + V.sizes (ks.take i) + (nth ks i).size) (rows strF (out ++ lvS q (ks.take i) 91 0 ++ lvT (q ++ [(i : Int)]) (nth ks i)))]) := by
     rw [path_snoc hq]
     exact ih i hi (q ++ [(i : Int)]) a (m + V.sizes (ks.take i)) cap _ hlen oM hq2 (by simp only [List.length_append, List.length_singleton]; omega)
    clear hq
    repeat' (first | (refine jX ?_) | (refine jo ?_; first | refine jV (g_ldS rfl rfl aS rfl rfl) ?_ | (refine jV (g_ldR1x rfl rfl aS ?_ aS rfl) ?_; (focus ((omega); done))) | refine jV (g_lenL rfl) ?_ | (refine jV (g_iaddrN rfl rfl oM) ?_) | (refine c_rt rfl rfl rfl (c_l6Dec oM) rfl ?_) | (refine c_accg rfl rfl rfl cx_lv rfl ?_; rintro _ _ ⟨av, cv, rfl, rfl⟩; dsimp only [zA, fA])) | (refine k_tt rfl (by refine decide_eq_true ?_; first | assumption | omega) ?_) | (refine k_ff rfl rfl ?_))
    exact k_rd (i + 1, av, cv) (by dsimp only; omega) (by dsimp only; omega) (by dsimp only; rw [hsn]; repeat (first | exact trivial | refine ⟨rfl, ?_⟩)) rfl (by dsimp only; rw [hsn, hls]; repeat (exact List.Sublist.refl _))
  ·obtain rfl : i = ks.length := oM
   rw [show ks.take (ks.length) = ks from List.take_of_length_le oM]
   repeat' (first | (refine jR ?_) | (refine jo ?_; first | refine jV (g_ldS rfl rfl aS rfl rfl) ?_ | refine jV (g_lenL rfl) ?_) | (refine k_ff rfl (dFf oM) ?_))
   refine k_rr (vs := [_]) rfl ⟨rfl, trivial⟩ rfl sRr ⟨rfl, _, _, rfl, rfl⟩
 | non k b h1 =>
  intro q a m cap out hm hto hqn hql
  have hk0 : bt (63 :: k) (Int.toNat 0) = 63 := bt_zero 63 k
  have hkl2 : (63 :: k).length = k.length + 1 := rfl
  have hrow : rows strF out ++ [S (pathText q)] = rows strF (out ++ [pathText q]) := (rows_snoc strF out (pathText q)).symm
  have hsz : V.size (.nd 63 [] 0 []) = 1 := size_leaf rfl
  rw [nd_tot] at hto hql
  rw [hsz, lvT_leaf rfl]
  refine jH [(0, _), (1, _), (2, _)] Tryz.func109 Tryz.ntmps109 fun B hB hW => ?_
  repeat' (first | refine jM ?_ | (refine jo ?_; first | refine jV (g_ldS rfl rfl aS rfl rfl) ?_ | refine jV (g_lenL rfl) ?_ | (refine jAf rfl ?_) | refine jF fun _ => ?_ | (refine c_apX rfl rfl rfl rfl rfl rfl rfl rfl rfl oM fun _ _ => ?_)) | (refine k_gf rfl rfl rfl ?_) | (refine k_tt rfl rfl ?_) | (refine k_ff rfl rfl ?_))
  rw [hrow]
  refine k_rr (vs := [_]) rfl ⟨rfl, trivial⟩ rfl sB ⟨rfl, _, _, rfl, rfl⟩
 | opt k b kb b' cc v h0 h1 h2 h3 ih =>
  intro q a m cap out hm hto hqn hql
  simp only [nd_tot, V.tots] at hto hql
  have hk0 : bt (63 :: k) (Int.toNat 0) = 63 := bt_zero 63 k
  have hkl2 : (63 :: k).length = k.length + 1 := rfl
  have hsz : V.size (.nd 63 [] 0 [v]) = V.sizes [v] := by rw [V.size, if_neg (by unfold leafW; simp)]
  rw [hsz, lvT_nd (by simp [leafW]) dC]
  refine jH [(0, _), (1, _), (2, _)] Tryz.func109 Tryz.ntmps109 fun B hB hW => ?_
  repeat' (first | (refine jR ?_) | (refine jo ?_; first | refine jV (g_ldS rfl rfl aS rfl rfl) ?_ | refine jV (g_lenL rfl) ?_) | (refine k_ff rfl rfl ?_))
  rw [show rows strF out = rows strF (out ++ lvS q ([v].take 0) 63 0) by rw [List.take_zero, lvS_nil, List.append_nil]]
  refine k_loop (ι := Nat × Option Addr × Nat) (fun i => i.1 ≤ 1) (fun i => [(0, Pt b 0), (1, S (pathText q)), (2, .slice i.2.1 (m + V.sizes ([v].take i.1)) i.2.2), (7, I i.1)]) (fun _ => G) (fun i => [.acc (.slice i.2.1 (m + V.sizes ([v].take i.1)) i.2.2) tTxL 1 (m + V.sizes ([v].take i.1)) (rows strF (out ++ lvS q ([v].take i.1) 63 0))]) (fun i => 1 - i.1) (0, a, cap) ?_ tU rfl sRr (fun i Hi => ?_)
  ·exact Nat.zero_le _
  obtain ⟨i, a, cap⟩ := i
  dsimp only at Hi ⊢
  by_cases hi : i < 1
  ·obtain rfl : i = 0 := oM
   have hsn : m + V.sizes ([v].take (0 + 1)) = m + V.sizes ([v].take 0) + (v).size := by rw [take_nth oM, sizes_snocL, show nth [v] 0 = v from rfl, Nat.add_assoc]
   have hls : out ++ lvS q ([v].take (0 + 1)) 63 0 = out ++ lvS q ([v].take 0) 63 0 ++ lvT (q ++ [((0 : Nat) : Int)]) (v) := by rw [take_nth oM, lvS_snoc, show stepNo 63 0 (List.take 0 [v]).length (nth [v] 0) = ((0 : Nat) : Int) from rfl, show nth [v] 0 = v from rfl, List.append_assoc]
   have hlen : m + V.sizes ([v].take 0) = (out ++ lvS q ([v].take 0) 63 0).length := by rw [List.length_append, lvS_len, hm]
   have hs1 := sizes_totL ([v].take 0)
   have htk := tots_take [v] 0
   have htk1 := tots_take [v] (0 + 1)
   rw [take_nth (by (omega)), tots_app] at htk1
   simp only [V.tots] at htk1
   have hnv : (nth [v] 0).tot = v.tot := rfl
   have htv : V.tots [v] = v.tot := by simp [V.tots]
   have hpl := pathText_len hqn
   have hq2 : ∀ n ∈ q ++ [((0 : Nat) : Int)], 0 ≤ n ∧ n ≤ 999999 := snoc_in hqn ⟨oM, oM⟩
   have hdl := decI_6 (hq2 ((0 : Nat) : Int) (by simp)).2
   by_cases hq : q = []
   ·have hp : pathText q = [] := path_nil.2 hq
    have cx_lv : FnG Tryz.prog 109 [Pt (b') 0, S (decI ((0 : Nat) : Int)), .slice a (m + V.sizes ([v].take 0)) cap] G [.acc (.slice a (m + V.sizes ([v].take 0)) cap) tTxL 1 (m + V.sizes ([v].take 0)) (rows strF (out ++ lvS q ([v].take 0) 63 0))]
      (fun r L' => ∃ a' cap', r = .slice a' (m + V.sizes ([v].take 0) + (v).size) cap' ∧ L' = [.acc (.slice a' (m + V.sizes ([v].take 0) + (v).size) cap') tTxL 1 (m + V.sizes ([v].take 0) + (v).size) (rows strF (out ++ lvS q ([v].take 0) 63 0 ++ lvT (q ++ [((0 : Nat) : Int)]) (v)))]) := by
     subst hq
     exact ih [((0 : Nat) : Int)] a (m + V.sizes ([v].take 0)) cap _ hlen oM hq2 (by simp only [List.length_append, List.length_singleton]; omega)
    clear hq
    repeat' (first | refine jM ?_ | (refine jo ?_; first | refine jV (g_ldS rfl rfl aS rfl rfl) ?_ | refine jV (g_lenL rfl) ?_ | (refine jV (g_iaddrN rfl rfl oM) ?_) | (refine c_rt rfl rfl rfl (c_l6Dec oM) rfl ?_) | (refine c_accg rfl rfl rfl cx_lv rfl ?_; rintro _ _ ⟨av, cv, rfl, rfl⟩; dsimp only [zA, fA])) | (refine k_tt rfl rfl ?_) | (refine k_ff rfl ?_ ?_; (focus ((first | rfl | (simp [*]; done)); done))))
    exact k_rd (0 + 1, av, cv) (by dsimp only; omega) (by dsimp only; omega) (by dsimp only; rw [hsn]; repeat (first | exact trivial | refine ⟨rfl, ?_⟩)) rfl (by dsimp only; rw [hsn, hls]; repeat (exact List.Sublist.refl _))
   ·have hp : pathText q ≠ [] := fun h => hq (path_nil.1 h)
    have cx_lv : FnG Tryz.prog 109 [Pt (b') 0, S (pathText q ++ [47] ++ decI ((0 : Nat) : Int)), .slice a (m + V.sizes ([v].take 0)) cap] G [.acc (.slice a (m + V.sizes ([v].take 0)) cap) tTxL 1 (m + V.sizes ([v].take 0)) (rows strF (out ++ lvS q ([v].take 0) 63 0))]
      (fun r L' => ∃ a' cap', r = .slice a' (m + V.sizes ([v].take 0) + (v).size) cap' ∧ L' = [.acc (.slice a' (m + V.sizes ([v].take 0) + (v).size) cap') tTxL 1 (m + V.sizes ([v].take 0) + (v).size) (rows strF (out ++ lvS q ([v].take 0) 63 0 ++ lvT (q ++ [((0 : Nat) : Int)]) (v)))]) := by
     rw [path_snoc hq]
     exact ih (q ++ [((0 : Nat) : Int)]) a (m + V.sizes ([v].take 0)) cap _ hlen oM hq2 (by simp only [List.length_append, List.length_singleton]; omega)
    clear hq
    repeat' (first | (refine jX ?_) | (refine jo ?_; first | refine jV (g_ldS rfl rfl aS rfl rfl) ?_ | refine jV (g_lenL rfl) ?_ | (refine jV (g_iaddrN rfl rfl oM) ?_) | (refine c_rt rfl rfl rfl (c_l6Dec oM) rfl ?_) | (refine c_accg rfl rfl rfl cx_lv rfl ?_; rintro _ _ ⟨av, cv, rfl, rfl⟩; dsimp only [zA, fA])) | (refine k_tt rfl (by first | rfl | (refine decide_eq_true ?_; (assumption))) ?_) | (refine k_ff rfl rfl ?_))
    exact k_rd (0 + 1, av, cv) (by dsimp only; omega) (by dsimp only; omega) (by dsimp only; rw [hsn]; repeat (first | exact trivial | refine ⟨rfl, ?_⟩)) rfl (by dsimp only; rw [hsn, hls]; repeat (exact List.Sublist.refl _))
  ·obtain rfl : i = 1 := oM
   rw [show [v].take (1) = [v] from List.take_of_length_le (by simp)]
   repeat' (first | (refine jR ?_) | (refine jo ?_; first | refine jV (g_ldS rfl rfl aS rfl rfl) ?_ | refine jV (g_lenL rfl) ?_) | (refine k_ff rfl rfl ?_))
   refine k_rr (vs := [_]) rfl ⟨rfl, trivial⟩ rfl sRr ⟨rfl, _, _, rfl, rfl⟩
 | recd k b t fs bs a1 a2 c c2 h0 h1 h2 h3 h4 h5 hk ih =>
  intro q a m cap out hm hto hqn hql
  obtain ⟨r, rfl⟩ := refT_64 h0.1
  rw [nd_tot] at hto hql
  have hml : (fs.map (fun p : Fld × V => V.nd 61 [] p.1.tag [p.2])).length = fs.length := by simp
  have hnt : ∀ i, i < fs.length → nth (fs.map (fun p : Fld × V => V.nd 61 [] p.1.tag [p.2])) i = V.nd 61 [] (nth fs i).1.tag [(nth fs i).2] := fun i hi => by rw [nth_eq (by simpa using hi), nth_eq hi]; simp
  generalize hKS : fs.map (fun p : Fld × V => V.nd 61 [] p.1.tag [p.2]) = KS at *
  have hsz : V.size (.nd 82 [] 0 KS) = V.sizes KS := by rw [V.size, if_neg (by unfold leafW; simp)]
  rw [hsz, lvT_nd leafW_82 dC]
  have hk0 : bt (64 :: r) (Int.toNat 0) = 64 := bt_zero 64 r
  have hkl2 : (64 :: r).length = r.length + 1 := rfl
  have hst := sizes_totL KS
  have hkl := tots_len KS
  by_cases hne : fs.length = 0
  ·obtain rfl : KS = [] := List.length_eq_zero_iff.1 oM
   rw [lvS_nil, List.append_nil]
   refine jH [(0, _), (1, _), (2, _)] Tryz.func109 Tryz.ntmps109 fun B hB hW => ?_
   repeat' (first | refine jM ?_ | (refine jo ?_; first | refine jV (g_ldS rfl rfl aS rfl rfl) ?_ | refine jV (g_lenL rfl) ?_ | (refine jAt rfl ?_) | (refine jAf rfl ?_)) | (refine k_gt rfl rfl rfl ?_) | (refine k_gf rfl rfl rfl ?_) | (refine k_tt rfl (by first | rfl | (refine decide_eq_true ?_; (omega))) ?_))
   refine k_rr (vs := [_]) rfl ⟨rfl, trivial⟩ rfl sRr ⟨rfl, _, _, rfl, rfl⟩
  obtain ⟨kb, ko, kc, e, hs⟩ := h3.expl oM
  simp only [Value.slice.injEq] at e
  obtain ⟨rfl, -, rfl⟩ := e
  obtain ⟨tb2, to, tc, e, hts⟩ := h2.expl oM
  simp only [Value.slice.injEq] at e
  obtain ⟨rfl, -, rfl⟩ := e
  have hmt : (fs.map fun p : Fld × V => p.1.tag).length = fs.length := by simp
  have hnm : ∀ i, i < fs.length → nth (fs.map fun p : Fld × V => p.1.tag) i = (nth fs i).1.tag := fun i hi => by rw [nth_eq (by simpa using hi), nth_eq hi]; simp
  refine jH [(0, _), (1, _), (2, _)] Tryz.func109 Tryz.ntmps109 fun B hB hW => ?_
  repeat' (first | (refine jR ?_) | (refine jo ?_; first | refine jV (g_ldS rfl rfl aS rfl rfl) ?_ | refine jV (g_lenL rfl) ?_) | (refine k_ff rfl (dFf oM) ?_))
  rw [show rows strF out = rows strF (out ++ lvS q (KS.take 0) 82 0) by rw [List.take_zero, lvS_nil, List.append_nil]]
  refine k_loop (ι := Nat × Option Addr × Nat) (fun i => i.1 ≤ fs.length) (fun i => [(0, Pt b 0), (1, S (pathText q)), (2, .slice i.2.1 (m + V.sizes (KS.take i.1)) i.2.2), (7, I i.1)]) (fun _ => G) (fun i => [.acc (.slice i.2.1 (m + V.sizes (KS.take i.1)) i.2.2) tTxL 1 (m + V.sizes (KS.take i.1)) (rows strF (out ++ lvS q (KS.take i.1) 82 0))]) (fun i => fs.length - i.1) (0, a, cap) ?_ tU rfl sRr (fun i Hi => ?_)
  ·exact Nat.zero_le _
  obtain ⟨i, a, cap⟩ := i
  dsimp only at Hi ⊢
  by_cases hi : i < fs.length
  ·have hti := tot_nth (ks := KS) (i := i) oM
   have hxt := hnm i hi
   have hti2 : (nth KS i).tot = 20 + (nth fs i).2.tot := by rw [hnt i hi]; simp [nd_tot, V.tots]
   have hsk : (nth KS i).size = (nth fs i).2.size := by rw [hnt i hi, V.size, if_neg (by unfold leafW; simp), V.sizes, V.sizes]; rfl
   have htg := ((hw.ty t (refT_mem h0.1)).fld _ (h5 i hi)).tag
   have hsn : m + V.sizes (KS.take (i + 1)) = m + V.sizes (KS.take i) + ((nth fs i).2).size := by rw [take_nth oM, sizes_snocL, hsk, Nat.add_assoc]
   have hls : out ++ lvS q (KS.take (i + 1)) 82 0 = out ++ lvS q (KS.take i) 82 0 ++ lvT (q ++ [(nth fs i).1.tag]) ((nth fs i).2) := by rw [take_nth oM, lvS_snoc, show stepNo 82 0 (KS.take i).length (nth KS i) = (nth fs i).1.tag by rw [hnt i hi]; rfl, hnt i hi, lvT_fld, List.append_assoc]
   have hlen : m + V.sizes (KS.take i) = (out ++ lvS q (KS.take i) 82 0).length := by rw [List.length_append, lvS_len, hm]
   have hs1 := sizes_totL (KS.take i)
   have htk := tots_take KS i
   have htk1 := tots_take KS (i + 1)
   rw [take_nth (by (omega)), tots_app] at htk1
   simp only [V.tots] at htk1
   have hxi : nth bs i = nth bs i := rfl
   have hpl := pathText_len hqn
   have hq2 : ∀ n ∈ q ++ [(nth fs i).1.tag], 0 ≤ n ∧ n ≤ 999999 := snoc_in hqn ⟨oM, oM⟩
   have hdl := decI_6 (hq2 ((nth fs i).1.tag) (by simp)).2
   by_cases hq : q = []
   ·have hp : pathText q = [] := path_nil.2 hq
    have cx_lv : FnG Tryz.prog 109 [Pt (nth bs i) 0, S (decI ((nth fs i).1.tag)), .slice a (m + V.sizes (KS.take i)) cap] G [.acc (.slice a (m + V.sizes (KS.take i)) cap) tTxL 1 (m + V.sizes (KS.take i)) (rows strF (out ++ lvS q (KS.take i) 82 0))]
      (fun r L' => ∃ a' cap', r = .slice a' (m + V.sizes (KS.take i) + ((nth fs i).2).size) cap' ∧ L' = [.acc (.slice a' (m + V.sizes (KS.take i) + ((nth fs i).2).size) cap') tTxL 1 (m + V.sizes (KS.take i) + ((nth fs i).2).size) (rows strF (out ++ lvS q (KS.take i) 82 0 ++ lvT (q ++ [(nth fs i).1.tag]) ((nth fs i).2)))]) := by
     subst hq
     exact ih i hi [(nth fs i).1.tag] a (m + V.sizes (KS.take i)) cap _ hlen oM hq2 (by simp only [List.length_append, List.length_singleton]; omega)
    clear hq
    repeat' (first | refine jM ?_ | (refine jo ?_; first | refine jV (g_ldS rfl rfl aS rfl rfl) ?_ | (refine jV (g_ldR1x rfl rfl aS ?_ aS rfl) ?_; (focus ((omega); done))) | refine jV (g_lenL rfl) ?_ | (refine jV (g_iaddrN rfl rfl oM) ?_) | (refine c_rt rfl rfl rfl (c_l6Dec oM) rfl ?_) | (refine c_accg rfl rfl rfl cx_lv rfl ?_; rintro _ _ ⟨av, cv, rfl, rfl⟩; dsimp only [zA, fA])) | (refine k_tt rfl (by first | rfl | (refine decide_eq_true ?_; (omega))) ?_) | (refine k_ff rfl ?_ ?_; (focus ((simp [*]; done); done))))
    exact k_rd (i + 1, av, cv) (by dsimp only; omega) (by dsimp only; omega) (by dsimp only; rw [hsn]; repeat (first | exact trivial | refine ⟨rfl, ?_⟩)) rfl (by dsimp only; rw [hsn, hls]; repeat (exact List.Sublist.refl _))
   ·have hp : pathText q ≠ [] := fun h => hq (path_nil.1 h)
    have cx_lv : FnG Tryz.prog 109 [Pt (nth bs i) 0, S (pathText q ++ [47] ++ decI ((nth fs i).1.tag)), .slice a (m + V.sizes (KS.take i)) cap] G [.acc (.slice a (m + V.sizes (KS.take i)) cap) tTxL 1 (m + V.sizes (KS.take i)) (rows strF (out ++ lvS q (KS.take i) 82 0))]
      (fun r L' => ∃ a' cap', r = .slice a' (m + V.sizes (KS.take i) + ((nth fs i).2).size) cap' ∧ L' = [.acc (.slice a' (m + V.sizes (KS.take i) + ((nth fs i).2).size) cap') tTxL 1 (m + V.sizes (KS.take i) + ((nth fs i).2).size) (rows strF (out ++ lvS q (KS.take i) 82 0 ++ lvT (q ++ [(nth fs i).1.tag]) ((nth fs i).2)))]) := by
     rw [path_snoc hq]
     exact ih i hi (q ++ [(nth fs i).1.tag]) a (m + V.sizes (KS.take i)) cap _ hlen oM hq2 (by simp only [List.length_append, List.length_singleton]; omega)
    clear hq
    repeat' (first | (refine jX ?_) | (refine jo ?_; first | refine jV (g_ldS rfl rfl aS rfl rfl) ?_ | (refine jV (g_ldR1x rfl rfl aS ?_ aS rfl) ?_; (focus ((omega); done))) | refine jV (g_lenL rfl) ?_ | (refine jV (g_iaddrN rfl rfl oM) ?_) | (refine c_rt rfl rfl rfl (c_l6Dec oM) rfl ?_) | (refine c_accg rfl rfl rfl cx_lv rfl ?_; rintro _ _ ⟨av, cv, rfl, rfl⟩; dsimp only [zA, fA])) | (refine k_tt rfl (by first | rfl | (refine decide_eq_true ?_; first | assumption | omega)) ?_))
    exact k_rd (i + 1, av, cv) (by dsimp only; omega) (by dsimp only; omega) (by dsimp only; rw [hsn]; repeat (first | exact trivial | refine ⟨rfl, ?_⟩)) rfl (by dsimp only; rw [hsn, hls]; repeat (exact List.Sublist.refl _))
  ·obtain rfl : i = fs.length := oM
   rw [show KS.take (fs.length) = KS from List.take_of_length_le oM]
   repeat' (first | (refine jR ?_) | (refine jo ?_; first | refine jV (g_ldS rfl rfl aS rfl rfl) ?_ | refine jV (g_lenL rfl) ?_) | (refine k_ff rfl (dFf oM) ?_))
   refine k_rr (vs := [_]) rfl ⟨rfl, trivial⟩ rfl sRr ⟨rfl, _, _, rfl, rfl⟩
 | enm k b tgb t d h0 h1 h2 h3 =>
  intro q a m cap out hm hto hqn hql
  obtain ⟨r, rfl⟩ := refT_64 h0.1
  have hk0 : bt (64 :: r) (Int.toNat 0) = 64 := bt_zero 64 r
  have hkl2 : (64 :: r).length = r.length + 1 := rfl
  have hrow : rows strF out ++ [S (pathText q)] = rows strF (out ++ [pathText q]) := (rows_snoc strF out (pathText q)).symm
  have hsz : V.size (.nd 69 [] d.tag []) = 1 := size_leaf rfl
  rw [nd_tot] at hto hql
  rw [hsz, lvT_leaf rfl]
  refine jH [(0, _), (1, _), (2, _)] Tryz.func109 Tryz.ntmps109 fun B hB hW => ?_
  repeat' (first | refine jM ?_ | (refine jo ?_; first | refine jV (g_ldS rfl rfl aS rfl rfl) ?_ | refine jV (g_lenL rfl) ?_ | (refine jAf rfl ?_) | refine jF fun _ => ?_ | (refine c_apX rfl rfl rfl rfl rfl rfl rfl rfl rfl oM fun _ _ => ?_)) | (refine k_gf rfl rfl rfl ?_) | (refine k_tt rfl rfl ?_) | (refine k_ff rfl rfl ?_))
  rw [hrow]
  refine k_rr (vs := [_]) rfl ⟨rfl, trivial⟩ rfl sB ⟨rfl, _, _, rfl, rfl⟩
 | uni k b tgb kb b' cc t d v hcc h0 h1 h2 h3 h4 hk ih =>
  intro q a m cap out hm hto hqn hql
  obtain ⟨r, rfl⟩ := refT_64 h0.1
  simp only [nd_tot, V.tots] at hto hql
  have hk0 : bt (64 :: r) (Int.toNat 0) = 64 := bt_zero 64 r
  have hkl2 : (64 :: r).length = r.length + 1 := rfl
  have htg := ((hw.ty t (refT_mem h0.1)).fld _ h1).tag
  have hsz : V.size (.nd 85 [] d.tag [v]) = V.sizes [v] := by rw [V.size, if_neg (by unfold leafW; simp)]
  rw [hsz, lvT_nd leafW_85 dC]
  refine jH [(0, _), (1, _), (2, _)] Tryz.func109 Tryz.ntmps109 fun B hB hW => ?_
  repeat' (first | (refine jR ?_) | (refine jo ?_; first | refine jV (g_ldS rfl rfl aS rfl rfl) ?_ | refine jV (g_lenL rfl) ?_) | (refine k_ff rfl rfl ?_))
  rw [show rows strF out = rows strF (out ++ lvS q ([v].take 0) 85 d.tag) by rw [List.take_zero, lvS_nil, List.append_nil]]
  refine k_loop (ι := Nat × Option Addr × Nat) (fun i => i.1 ≤ 1) (fun i => [(0, Pt b 0), (1, S (pathText q)), (2, .slice i.2.1 (m + V.sizes ([v].take i.1)) i.2.2), (7, I i.1)]) (fun _ => G) (fun i => [.acc (.slice i.2.1 (m + V.sizes ([v].take i.1)) i.2.2) tTxL 1 (m + V.sizes ([v].take i.1)) (rows strF (out ++ lvS q ([v].take i.1) 85 d.tag))]) (fun i => 1 - i.1) (0, a, cap) ?_ tU rfl sRr (fun i Hi => ?_)
  ·exact Nat.zero_le _
  obtain ⟨i, a, cap⟩ := i
  dsimp only at Hi ⊢
  by_cases hi : i < 1
  ·obtain rfl : i = 0 := oM
   have hsn : m + V.sizes ([v].take (0 + 1)) = m + V.sizes ([v].take 0) + (v).size := by rw [take_nth oM, sizes_snocL, show nth [v] 0 = v from rfl, Nat.add_assoc]
   have hls : out ++ lvS q ([v].take (0 + 1)) 85 d.tag = out ++ lvS q ([v].take 0) 85 d.tag ++ lvT (q ++ [d.tag]) (v) := by rw [take_nth oM, lvS_snoc, show stepNo 85 d.tag (List.take 0 [v]).length (nth [v] 0) = d.tag from rfl, show nth [v] 0 = v from rfl, List.append_assoc]
   have hlen : m + V.sizes ([v].take 0) = (out ++ lvS q ([v].take 0) 85 d.tag).length := by rw [List.length_append, lvS_len, hm]
   have hs1 := sizes_totL ([v].take 0)
   have htk := tots_take [v] 0
   have htk1 := tots_take [v] (0 + 1)
   rw [take_nth (by (omega)), tots_app] at htk1
   simp only [V.tots] at htk1
   have hnv : (nth [v] 0).tot = v.tot := rfl
   have htv : V.tots [v] = v.tot := by simp [V.tots]
   have hpl := pathText_len hqn
   have hq2 : ∀ n ∈ q ++ [d.tag], 0 ≤ n ∧ n ≤ 999999 := snoc_in hqn ⟨oM, oM⟩
   have hdl := decI_6 (hq2 (d.tag) (by simp)).2
   by_cases hq : q = []
   ·have hp : pathText q = [] := path_nil.2 hq
    have cx_lv : FnG Tryz.prog 109 [Pt (b') 0, S (decI (d.tag)), .slice a (m + V.sizes ([v].take 0)) cap] G [.acc (.slice a (m + V.sizes ([v].take 0)) cap) tTxL 1 (m + V.sizes ([v].take 0)) (rows strF (out ++ lvS q ([v].take 0) 85 d.tag))]
      (fun r L' => ∃ a' cap', r = .slice a' (m + V.sizes ([v].take 0) + (v).size) cap' ∧ L' = [.acc (.slice a' (m + V.sizes ([v].take 0) + (v).size) cap') tTxL 1 (m + V.sizes ([v].take 0) + (v).size) (rows strF (out ++ lvS q ([v].take 0) 85 d.tag ++ lvT (q ++ [d.tag]) (v)))]) := by
     subst hq
     exact ih [d.tag] a (m + V.sizes ([v].take 0)) cap _ hlen oM hq2 (by simp only [List.length_append, List.length_singleton]; omega)
    clear hq
    repeat' (first | refine jM ?_ | (refine jo ?_; first | refine jV (g_ldS rfl rfl aS rfl rfl) ?_ | refine jV (g_lenL rfl) ?_ | (refine jV (g_iaddrN rfl rfl oM) ?_) | (refine c_rt rfl rfl rfl (c_l6Dec oM) rfl ?_) | (refine c_accg rfl rfl rfl cx_lv rfl ?_; rintro _ _ ⟨av, cv, rfl, rfl⟩; dsimp only [zA, fA])) | (refine k_tt rfl rfl ?_) | (refine k_ff rfl ?_ ?_; (focus ((simp [*]; done); done))))
    exact k_rd (0 + 1, av, cv) (by dsimp only; omega) (by dsimp only; omega) (by dsimp only; rw [hsn]; repeat (first | exact trivial | refine ⟨rfl, ?_⟩)) rfl (by dsimp only; rw [hsn, hls]; repeat (exact List.Sublist.refl _))
   ·have hp : pathText q ≠ [] := fun h => hq (path_nil.1 h)
    have cx_lv : FnG Tryz.prog 109 [Pt (b') 0, S (pathText q ++ [47] ++ decI (d.tag)), .slice a (m + V.sizes ([v].take 0)) cap] G [.acc (.slice a (m + V.sizes ([v].take 0)) cap) tTxL 1 (m + V.sizes ([v].take 0)) (rows strF (out ++ lvS q ([v].take 0) 85 d.tag))]
      (fun r L' => ∃ a' cap', r = .slice a' (m + V.sizes ([v].take 0) + (v).size) cap' ∧ L' = [.acc (.slice a' (m + V.sizes ([v].take 0) + (v).size) cap') tTxL 1 (m + V.sizes ([v].take 0) + (v).size) (rows strF (out ++ lvS q ([v].take 0) 85 d.tag ++ lvT (q ++ [d.tag]) (v)))]) := by
     rw [path_snoc hq]
     exact ih (q ++ [d.tag]) a (m + V.sizes ([v].take 0)) cap _ hlen oM hq2 (by simp only [List.length_append, List.length_singleton]; omega)
    clear hq
    repeat' (first | (refine jX ?_) | (refine jo ?_; first | refine jV (g_ldS rfl rfl aS rfl rfl) ?_ | refine jV (g_lenL rfl) ?_ | (refine jV (g_iaddrN rfl rfl oM) ?_) | (refine c_rt rfl rfl rfl (c_l6Dec oM) rfl ?_) | (refine c_accg rfl rfl rfl cx_lv rfl ?_; rintro _ _ ⟨av, cv, rfl, rfl⟩; dsimp only [zA, fA])) | (refine k_tt rfl (by first | rfl | (refine decide_eq_true ?_; (assumption))) ?_))
    exact k_rd (0 + 1, av, cv) (by dsimp only; omega) (by dsimp only; omega) (by dsimp only; rw [hsn]; repeat (first | exact trivial | refine ⟨rfl, ?_⟩)) rfl (by dsimp only; rw [hsn, hls]; repeat (exact List.Sublist.refl _))
  ·obtain rfl : i = 1 := oM
   rw [show [v].take (1) = [v] from List.take_of_length_le (by simp)]
   repeat' (first | (refine jR ?_) | (refine jo ?_; first | refine jV (g_ldS rfl rfl aS rfl rfl) ?_ | refine jV (g_lenL rfl) ?_) | (refine k_ff rfl rfl ?_))
   refine k_rr (vs := [_]) rfl ⟨rfl, trivial⟩ rfl sRr ⟨rfl, _, _, rfl, rfl⟩
end Go.E
namespace Go.E
set_option maxRecDepth 20000
set_option maxHeartbeats 2000000
open Go.Proofs
variable {G : Gh}
theorem stepsOf_snoc {x : List UInt8} : ∀ {xs : List (List UInt8)} {ps : List Int}, stepsOf xs = some ps → stepsOf (xs ++ [x]) = (numOf x 999999).map fun n => ps ++ [n]
 | [], ps, h => by
  simp only [stepsOf, Option.some.injEq] at h; subst h
  simp only [List.nil_append, stepsOf]
  cases numOf x 999999 <;> rfl
 | y :: ys, ps, h => by
  unfold stepsOf at h
  cases hn : numOf y 999999 with
  | none => rw [hn] at h; cases h
  | some n =>
   rw [hn] at h
   dsimp only at h
   cases hs : stepsOf ys with
   | none => rw [hs] at h; cases h
   | some q =>
    rw [hs] at h
    simp only [Option.map_some, Option.some.injEq] at h
    subst h
    rw [List.cons_append]
    unfold stepsOf
    rw [hn]
    dsimp only
    rw [stepsOf_snoc hs]
    cases numOf x 999999 <;> rfl
theorem stepsOf_no {x : List UInt8} {ys : List (List UInt8)} (h : numOf x 999999 = none) : ∀ {xs : List (List UInt8)}, stepsOf (xs ++ x :: ys) = none
 | [] => by simp only [List.nil_append, stepsOf, h]
 | y :: xs => by
  rw [List.cons_append]
  unfold stepsOf
  cases numOf y 999999 with
  | none => rfl
  | some n => dsimp only; rw [stepsOf_no h]; rfl
abbrev tIntP : TypeId := 3
def StepsP (s : List UInt8) (v : Value) (G : Gh) : Prop := ∃ a c n, v = Tu [.slice a n c, Bo (pathOf s).isSome] ∧ ∀ p, pathOf s = some p → n = p.length ∧ SlV G (.slice a n c) 1 p.length (rows inR p)
theorem pathOf_ne {s : List UInt8} (h : s ≠ []) : pathOf s = match stepsOf (cut 47 s) with
  | some p => if p.length ≤ 8 then some p else none
  | none => none := by
 unfold pathOf; rw [if_neg h]
 all_goals (cases stepsOf (cut 47 s) <;> rfl)
theorem pathOf_bad {s : List UInt8} (h : s ≠ []) {i : Nat} (hi : i < (cut 47 s).length) (hn : numOf (nth (cut 47 s) i) 999999 = none) : pathOf s = none := by
 rw [pathOf_ne h]
 have e : cut 47 s = (cut 47 s).take i ++ nth (cut 47 s) i :: (cut 47 s).drop (i + 1) := by
  rw [nth_eq hi, List.getElem_cons_drop, List.take_append_drop]
 rw [e, stepsOf_no hn]
theorem c_stepsS {s : List UInt8} (h : s.length ≤ 1048576) : FnS Tryz.prog 38 [S s] G (StepsP s) := by
 by_cases h0 : s = []
 ·subst h0
  refine jB [(0, _)] Tryz.func38 Tryz.ntmps38 fun B hok hB hW => ?_
  repeat' (first | (refine jR ?_) | (refine jo ?_; (refine jF fun _ => ?_)) | (refine k_tt rfl rfl ?_))
  rename_i x
  refine Nx.blkAcc (m := 0) (sz := 1) .here rfl ?_
  refine Nx.sealS (v := .slice (some ⟨x, 0, none⟩) 0 0) fun G2 hG2 hsl => ?_
  refine jZ (vs := [_, _]) rfl ⟨rfl, rfl, trivial⟩ rfl ⟨hG2, rfl, ?_⟩
  exact ⟨_, _, _, rfl, fun p hp => by
   obtain rfl : p = [] := by unfold pathOf at hp; simpa using hp.symm
   exact ⟨rfl, hsl⟩⟩
 have cx_cutS : FnS Tryz.prog 79 [S s, U8 47] G (fun v G' => SlV G' v 1 (cut 47 s).length (rows strF (cut 47 s))) := c_l3CutS (k := 47) oM
 have hcl := cut_count (k := 47) (s := s)
 have hbad := fun {i : Nat} => pathOf_bad h0 (i := i)
 have hpo := pathOf_ne h0
 have hxl : ∀ i, i < (cut 47 s).length → (nth (cut 47 s) i).length ≤ 100000000 := fun i hi => by
  have := cut_len (nth_mem hi)
  omega
 generalize cut 47 s = xs at *
 refine jB [(0, _)] Tryz.func38 Tryz.ntmps38 fun B hok hB hW => ?_
 repeat' (first | (refine jR ?_) | (refine jo ?_; first | refine jF fun _ => ?_ | (refine c_fns rfl rfl rfl cx_cutS rfl ?_; rintro _ G hle hcut; skip)) | (refine k_ff rfl (dFf ‹_›) ?_))
 rename_i x _
 obtain ⟨la, lc, rfl⟩ := hcut.sl
 refine Nx.blkAcc (m := 0) (sz := 1) .here rfl ?_
 refine k_loop (ι := List Int × Option Addr × Nat × Nat) (fun j => (j.1.length = j.2.2.2 ∧ j.2.2.2 ≤ xs.length) ∧ stepsOf (xs.take j.2.2.2) = some j.1) (fun j => [(4, .slice j.2.1 j.1.length j.2.2.1), (5, .slice la xs.length lc), (6, I j.2.2.2)]) (fun _ => G) (fun j => [.acc (.slice j.2.1 j.1.length j.2.2.1) tIntP 1 j.1.length (rows inR j.1)]) (fun j => xs.length - j.2.2.2) ([], some ⟨x, 0, none⟩, 0, 0) ?_ tU rfl sRr (fun j Hj => ?_)
 ·exact ⟨⟨rfl, Nat.zero_le _⟩, rfl⟩
 obtain ⟨ps, a, c, i⟩ := j
 dsimp only at Hj ⊢
 obtain ⟨⟨hpl, hi0⟩, hst⟩ := Hj
 by_cases hi : i < xs.length
 ·obtain ⟨bl, ol, cl, e, hsx⟩ := hcut.expl oM
  simp only [Value.slice.injEq] at e
  obtain ⟨rfl, -, rfl⟩ := e
  have hxl1 := hxl i hi
  cases hn : numOf (nth xs i) 999999 with
  | none =>
   have hno := hbad hi hn
   have hns : (!(numOf (nth xs i) 999999).isSome) = true := by rw [hn]; rfl
   repeat' (first | (refine jR ?_) | (refine jo ?_; first | refine jV (g_lenL rfl) ?_ | (refine jV (g_iaddrN rfl rfl oM) ?_) | (refine jV (g_ldRS rfl rfl aS ?_) ?_; (focus ((omega); done))) | (refine c_pu rfl rfl rfl (c_l3Num oM) rfl ?_; rintro _ ⟨n, rfl, hnum⟩)) | (refine k_tt rfl (by first | assumption | (refine decide_eq_true ?_; (omega))) ?_))
   all_goals refine jZ (vs := [_, _]) rfl ⟨rfl, rfl, trivial⟩ rfl ⟨hle, rfl, ?_⟩
   all_goals exact ⟨_, _, _, by rw [hno]; rfl, fun p hp => by rw [hno] at hp; cases hp⟩
  | some m =>
   have hns : (!(numOf (nth xs i) 999999).isSome) = false := by rw [hn]; rfl
   repeat' (first | refine jM ?_ | (refine jo ?_; first | refine jF fun _ => ?_ | refine jV (g_lenL rfl) ?_ | (refine jV (g_iaddrN rfl rfl oM) ?_) | (refine jV (g_ldRS rfl rfl aS ?_) ?_; (focus ((omega); done))) | (refine c_apX rfl rfl rfl rfl rfl rfl rfl rfl rfl oM fun _ _ => ?_) | (refine c_pu rfl rfl rfl (c_l3Num oM) rfl ?_; rintro _ ⟨n, rfl, hnum⟩)) | (refine k_tt rfl (dTt oM) ?_) | (refine k_ff rfl ‹_› ?_))
   rename_i y1 yc
   have hmn := hnum m hn
   subst hmn
   have hst2 : stepsOf (xs.take (i + 1)) = some (ps ++ [n]) := by rw [take_nth hi, stepsOf_snoc hst, hn]; rfl
   have hl1 : (ps ++ [n]).length = ps.length + 1 := by simp
   rw [show rows inR ps ++ [I n] = rows inR (ps ++ [n]) from (rows_snoc inR ps n).symm]
   exact k_rd (ps ++ [n], some ⟨y1, 0, none⟩, yc, i + 1) ⟨⟨by dsimp only; omega, by dsimp only; omega⟩, hst2⟩ (by dsimp only; omega) (by rw [hl1]; repeat (first | exact trivial | refine ⟨rfl, ?_⟩)) rfl (by rw [hl1]; repeat (first | exact List.nil_sublist _ | apply List.Sublist.cons_cons))
 ·rw [List.take_of_length_le oM] at hst
  rw [hst] at hpo
  dsimp only at hpo
  repeat' (first | (refine jR ?_) | (refine jo ?_; (refine jV (g_lenL rfl) ?_)) | (refine k_ff rfl (dFf oM) ?_))
  refine Nx.sealS (v := .slice a ps.length c) fun G2 hG2 hsl => ?_
  refine jZ (vs := [_, _]) rfl ⟨rfl, rfl, trivial⟩ rfl ⟨hle.trans hG2, rfl, ?_⟩
  have e8 : decide (((xs.length : Nat) : Int) ≤ 8) = (pathOf s).isSome := by
   rw [hpo]
   by_cases h8 : ps.length ≤ 8
   ·rw [if_pos h8]; exact decide_eq_true oM
   ·rw [if_neg h8]; exact decide_eq_false oM
  refine ⟨_, _, _, by rw [e8]; rfl, fun p hp => ?_⟩
  rw [hpo] at hp
  split at hp
  ·simp only [Option.some.injEq] at hp; subst hp; exact ⟨rfl, hsl⟩
  ·cases hp
theorem refT_p {ts : List Ty} {c : UInt8} {r : List UInt8} (h : c.toNat ≠ 64) : refT ts (c :: r) = none := by
 cases h2 : refT ts (c :: r) with
 | none => rfl
 | some t => exact (refT_no h2 rfl h).elim
theorem first_at {p : Nat → Prop} {n : Nat} (h : ∃ j, j < n ∧ p j) : ∃ j, j < n ∧ p j ∧ ∀ i, i < j → ¬ p i := by
 obtain ⟨j, hj, hp⟩ := h
 induction j using Nat.strongRecOn with
 | _ j ih =>
  by_cases hc : ∃ i, i < j ∧ p i
  ·obtain ⟨i, hi, hpi⟩ := hc
   exact ih i hi oM hpi
  ·exact ⟨j, hj, hp, fun i hi hpi => hc ⟨i, hi, hpi⟩⟩
theorem toldV_at {f : Fld} : ∀ {fs : List (Fld × V)} {j : Nat}, j < fs.length → (nth fs j).1.tag = f.tag → (∀ i, i < j → (nth fs i).1.tag ≠ f.tag) → toldV f (fs.map fldV) = some (nth fs j).2
 | [], j, hj, _, _ => by simp at hj
 | p :: fs, 0, _, ht, _ => by
  rw [List.map_cons, toldV, if_pos (show (fldV p).tag = f.tag from ht)]; rfl
 | p :: fs, j + 1, hj, ht, hno => by
  rw [List.map_cons, toldV, if_neg (show ¬ (fldV p).tag = f.tag from hno 0 oM)]
  exact toldV_at (fs := fs) (j := j) (by simpa using hj) ht fun i hi => hno (i + 1) oM
theorem toldV_no {f : Fld} : ∀ {fs : List (Fld × V)}, (∀ i, i < fs.length → (nth fs i).1.tag ≠ f.tag) → toldV f (fs.map fldV) = none
 | [], _ => rfl
 | p :: fs, h => by
  rw [List.map_cons, toldV, if_neg (show ¬ (fldV p).tag = f.tag from h 0 (by simp))]
  exact toldV_no fun i hi => h (i + 1) (by simpa using hi)
theorem valOf_rd {ts : List Ty} {k w : List UInt8} {v : V} (h : valOf ts k w = some v) : rd ts 12 k w = some (v, []) ∧ w.length ≤ 400 := by
 unfold valOf at h
 split at h
 ·rename_i hl
  split at h
  ·rename_i v' hv; rw [hv]; exact ⟨congrArg (fun x => some (x, [])) (Option.some.inj h), hl⟩
  ·cases h
 ·cases h
theorem c_atY {b j : Nat} {k : List UInt8} {tg : List Int} {bs : List Nat} {a a2 : Option Addr} {c c2 : Nat} {n : Int} (hl : bs.length = tg.length) (h9 : tg.length ≤ 100000) (hs : Seg G b 0 [S k, S [82], .slice a tg.length c, .slice a2 tg.length c2]) (h1 : SlV G (.slice a tg.length c) 1 tg.length (rows inR tg)) (h2 : SlV G (.slice a2 tg.length c2) 1 tg.length (rows ptR bs)) (hj : j < tg.length) (hjn : nth tg j = n) (hno : ∀ i, i < j → nth tg i ≠ n) :
  PuG Tryz.prog 113 [Pt b 0, I n] G (· = Tu [Pt (nth bs j) 0, Bo true]) := by
 obtain ⟨xb, xo, xc, e, hs1⟩ := h1.expl oM
 simp only [Value.slice.injEq] at e
 obtain ⟨rfl, -, rfl⟩ := e
 obtain ⟨zb, zo, zc, e, hs2⟩ := h2.expl oM
 simp only [Value.slice.injEq] at e
 obtain ⟨rfl, -, rfl⟩ := e
 refine jE [(0, _), (1, _)] Tryz.func113 Tryz.ntmps113 fun B hB => ?_
 repeat' (refine jR ?_)
 refine k_loop (ι := Nat) (fun i => i ≤ j) (fun i => [(0, Pt b 0), (1, I n), (6, I i)]) (fun _ => G) (fun i => []) (fun i => j - i) 0 ?_ tU rfl sRr (fun i Hi => ?_)
 ·exact Nat.zero_le _
 have hxi : nth bs i = nth bs i := rfl
 have hti : nth tg i = nth tg i := rfl
 by_cases hij : i = j
 ·subst hij
  repeat' (first | (refine jR ?_) | (refine jo ?_; first | refine jV (g_ldS rfl rfl aS rfl rfl) ?_ | (refine jV (g_ldR1x rfl rfl aS ?_ aS rfl) ?_; (focus ((omega); done))) | refine jV (g_lenL rfl) ?_ | (refine jAt rfl ?_) | (refine jV (g_iaddrN rfl rfl oM) ?_)) | (refine k_gt rfl rfl (dTt oM) ?_) | (refine k_tt rfl (by first | rfl | (refine decide_eq_true ?_; (rfl))) ?_))
  all_goals refine jY (vs := [_, _]) ?_
  all_goals rfl
 ·have h3 := hno i oM
  repeat' (first | refine jM ?_ | (refine jo ?_; first | refine jV (g_ldS rfl rfl aS rfl rfl) ?_ | (refine jV (g_ldR1x rfl rfl aS ?_ aS rfl) ?_; (focus ((omega); done))) | refine jV (g_lenL rfl) ?_ | (refine jAt rfl ?_) | (refine jV (g_iaddrN rfl rfl oM) ?_)) | (refine k_gt rfl rfl (dTt oM) ?_) | (refine k_tt rfl rfl ?_) | (refine k_ff rfl (dFf ‹_›) ?_))
  exact k_rd (i + 1) (show i + 1 ≤ j by have : i ≤ j := Hi; omega) (by have : i ≤ j := Hi; omega) tU rfl sRr
theorem c_atN {b : Nat} {k : List UInt8} {tg : List Int} {a a2 : Option Addr} {c c2 : Nat} {n : Int} (h9 : tg.length ≤ 100000) (hs : Seg G b 0 [S k, S [82], .slice a tg.length c, .slice a2 tg.length c2]) (h1 : SlV G (.slice a tg.length c) 1 tg.length (rows inR tg)) (hno : ∀ i, i < tg.length → nth tg i ≠ n) :
  PuG Tryz.prog 113 [Pt b 0, I n] G (· = Tu [.pointer none, Bo false]) := by
 refine jE [(0, _), (1, _)] Tryz.func113 Tryz.ntmps113 fun B hB => ?_
 repeat' (refine jR ?_)
 refine k_loop (ι := Nat) (fun i => i ≤ tg.length) (fun i => [(0, Pt b 0), (1, I n), (6, I i)]) (fun _ => G) (fun i => []) (fun i => tg.length - i) 0 ?_ tU rfl sRr (fun i Hi => ?_)
 ·exact Nat.zero_le _
 by_cases hi : i < tg.length
 ·obtain ⟨xb, xo, xc, e, hs1⟩ := h1.expl oM
  simp only [Value.slice.injEq] at e
  obtain ⟨rfl, -, rfl⟩ := e
  have h3 := hno i hi
  have hti : nth tg i = nth tg i := rfl
  repeat' (first | refine jM ?_ | (refine jo ?_; first | refine jV (g_ldS rfl rfl aS rfl rfl) ?_ | (refine jV (g_ldR1x rfl rfl aS ?_ aS rfl) ?_; (focus ((omega); done))) | refine jV (g_lenL rfl) ?_ | (refine jAt rfl ?_) | (refine jV (g_iaddrN rfl rfl oM) ?_)) | (refine k_gt rfl rfl (dTt oM) ?_) | (refine k_tt rfl rfl ?_) | (refine k_ff rfl (dFf ‹_›) ?_))
  exact k_rd (i + 1) oM oM tU rfl sRr
 ·repeat' (first | (refine jR ?_) | (refine jo ?_; first | refine jV (g_ldS rfl rfl aS rfl rfl) ?_ | refine jV (g_lenL rfl) ?_ | (refine jAf rfl ?_)) | (refine k_gf rfl rfl (dFf oM) ?_) | (refine k_ff rfl rfl ?_))
  all_goals refine jY (vs := [_, _]) ?_
  all_goals rfl
theorem c_l4Record {u : Value} {x : TyX} {k : List UInt8} {n : Int} (hu : u.oneCell' = true) (hf : SlV G (slX x) 4 x.2.fields.length (rows fldF x.2.fields)) (hl : x.2.fields.length ≤ 1000) (cx_rf : PuG Tryz.prog 88 [u, S k] G (· = Tu [Ag [U8 x.2.sort, S x.2.name, slX x], Bo true])) (hso : x.2.sort = 82) :
  PuG Tryz.prog 112 [u, S k, I n] G (· = Tu [Ag (fldF ((fldT x.2.fields n).getD zF)), Bo (fldT x.2.fields n).isSome]) := by
 have cx_fld := c_fieldS (tag := n) hf hl
 obtain ⟨⟨a, ca⟩, ⟨so, nm, fs⟩⟩ := x
 dsimp only at hso cx_fld cx_rf ⊢
 subst hso
 dsimp only [slX] at cx_fld cx_rf ⊢
 cases hg : fldT fs n with
 | none =>
  rw [hg] at cx_fld
  simp only [Option.getD_none, Option.isSome_none] at cx_fld ⊢
  refine jE [(0, _), (1, _), (2, _)] Tryz.func112 Tryz.ntmps112 fun B hB => ?_
  repeat' (first | (refine jR ?_) | (refine jo ?_; first | refine jL fun _ => ?_ | refine jC rfl rfl rfl ?_ | refine jAm rfl ?_ | (refine c_rt rfl rfl rfl cx_rf rfl ?_) | (refine c_rt rfl rfl rfl cx_fld rfl ?_)) | (refine k_any (s_anyD (id := 3) (tt := 6) rfl mixed ?_); refine jW 10 [1, 2] (bts 12 6) ?_; (try (refine Nx.re (d := 26) (v' := Bo true) rfl (congrArg Value.bool rfl) ?_)); refine jW 9 [3] (bts 12 14) ?_; (refine jG (bts 12 15) 0 rfl (g_ldA rfl rfl rfl rfl) ?_); ((refine jG (bts 12 31) 4 rfl (g_pickT rfl rfl ?_) ?_; (focus ((rfl); done)))); refine jW 6 [5] (bts 12 63) ?_; (try (refine Nx.re (d := 29) (v' := Bo false) rfl (congrArg Value.bool rfl) ?_)); refine jW 5 [6] (bts 12 127) ?_; (refine jN (bts 12 255) 7 rfl ?_); refine jW 3 [8] (bts 12 511) ?_; ((refine jG (bts 12 1023) 9 rfl (g_pickF rfl rfl ?_) ?_; (focus ((rfl); done)))); refine jA 10 rfl ?_; (refine jC rfl rfl rfl ?_); refine jK (bts 12 2047) ?_; refine jW 0 [11] (bts 12 4095) ?_; refine jQ ?_))
  all_goals refine jZ (vs := [_, _]) rfl ⟨rc_A rfl rfl rfl rfl, rfl, trivial⟩ rfl ⟨rfl, rfl, ?_⟩
  all_goals rfl
 | some f =>
  rw [hg] at cx_fld
  simp only [Option.getD_some, Option.isSome_some] at cx_fld ⊢
  refine jE [(0, _), (1, _), (2, _)] Tryz.func112 Tryz.ntmps112 fun B hB => ?_
  repeat' (first | (refine jR ?_) | (refine jo ?_; first | refine jL fun _ => ?_ | refine jC rfl rfl rfl ?_ | refine jAm rfl ?_ | (refine c_rt rfl rfl rfl cx_rf rfl ?_) | (refine c_rt rfl rfl rfl cx_fld rfl ?_)) | (refine k_any (s_anyD (id := 3) (tt := 6) rfl mixed ?_); refine jW 10 [1, 2] (bts 12 6) ?_; (try (refine Nx.re (d := 26) (v' := Bo true) rfl (congrArg Value.bool rfl) ?_)); refine jW 9 [3] (bts 12 14) ?_; (refine jG (bts 12 15) 0 rfl (g_ldA rfl rfl rfl rfl) ?_); ((refine jG (bts 12 31) 4 rfl (g_pickT rfl rfl ?_) ?_; (focus ((rfl); done)))); refine jW 6 [5] (bts 12 63) ?_; (try (refine Nx.re (d := 29) (v' := Bo true) rfl (congrArg Value.bool rfl) ?_)); refine jW 5 [6] (bts 12 127) ?_; (refine jG (bts 12 255) 7 rfl (g_ld rfl rfl rfl) ?_); refine jW 3 [8] (bts 12 511) ?_; ((refine jG (bts 12 1023) 9 rfl (g_pickT rfl rfl ?_) ?_; (focus ((rfl); done)))); refine jA 10 rfl ?_; (refine jC rfl rfl rfl ?_); refine jK (bts 12 2047) ?_; refine jW 0 [11] (bts 12 4095) ?_; refine jQ ?_))
  all_goals refine jZ (vs := [_, _]) rfl ⟨rc_A rfl rfl rfl rfl, rfl, trivial⟩ rfl ⟨rfl, rfl, ?_⟩
  all_goals rfl
def StepP (ts : List Ty) (o : Option (List UInt8 × V)) (r : Value) (G' : Gh) : Prop := (o = none ∧ ∃ q, r = Tu [.pointer q, Bo false]) ∨ ∃ k' v' b', o = some (k', v') ∧ r = Tu [Pt b' 0, Bo true] ∧ RepR G' ts v' k' b'
theorem StepP.no {f : FuncId} {args : List Value} {ts : List Ty} {o : Option (List UInt8 × V)} (h : FnS Tryz.prog f args G (StepP ts o)) (e : o = none) : FnS Tryz.prog f args G (fun r _ => ∃ q, r = Tu [.pointer q, Bo false]) := by
 refine h.mono ?_
 rintro v G' L' ⟨h1, h2, ⟨_, h3⟩ | ⟨k', v', b', h3, _⟩⟩
 ·exact ⟨h1, h2, h3⟩
 ·rw [e] at h3; cases h3
theorem StepP.yes {f : FuncId} {args : List Value} {ts : List Ty} {o : Option (List UInt8 × V)} {k' : List UInt8} {v' : V} (h : FnS Tryz.prog f args G (StepP ts o)) (e : o = some (k', v')) : FnS Tryz.prog f args G (fun r G' => ∃ b', r = Tu [Pt b' 0, Bo true] ∧ RepR G' ts v' k' b') := by
 refine h.mono ?_
 rintro v G' L' ⟨h1, h2, ⟨h3, _⟩ | ⟨k2, v2, b', h3, h4, h5⟩⟩
 ·rw [e] at h3; cases h3
 ·rw [e] at h3
  simp only [Option.some.injEq, Prod.mk.injEq] at h3
  obtain ⟨rfl, rfl⟩ := h3
  exact ⟨h1, h2, b', h4, h5⟩
theorem stepV_plain {ts : List Ty} {c : UInt8} {r : List UInt8} {v : V} {n : Int} (h1 : c.toNat ≠ 91) (h2 : c.toNat ≠ 63) (h3 : c.toNat ≠ 64) : stepV ts (c :: r) v n = none := by
 unfold stepV; dsimp only; rw [if_neg (fun h => by rcases h with h | h; exact h1 h; exact h2 h), refT_p h3]
theorem stepV_kid {ts : List Ty} {c : UInt8} {r : List UInt8} {v : V} {n : Int} (h : c.toNat = 91 ∨ c.toNat = 63) : stepV ts (c :: r) v n = if n < (v.kids.length : Nat) then some (r, nth v.kids n.toNat) else none := by
 unfold stepV; dsimp only; rw [if_pos h]
theorem stepV_typ {ts : List Ty} {k : List UInt8} {v : V} {n : Int} {t : Ty} (h : refT ts k = some t) : stepV ts k v n = match fldT t.fields n with
  | none => none
  | some f => if t.sort = 69 then none else if t.sort = 82 then some (f.kind, getV ts v f) else if v.tag = n then some (f.kind, nth v.kids 0) else none := by
 obtain ⟨r, rfl⟩ := refT_64 h
 unfold stepV; dsimp only; rw [if_neg dC, h]
 all_goals rfl
theorem c_stepS {u : Value} {vs : List TyX} (h : SchR G u vs) (hw : SchW (tys vs)) {k : List UInt8} {v : V} {b : Nat} (hr : RepR G (tys vs) v k b) (ho : OfK (tys vs) k v) (hki : kindIn (tys vs) k = true) {n : Int} (hn : 0 ≤ n ∧ n ≤ 999999) (htt : v.tot ≤ 1000000) :
  FnS Tryz.prog 82 [u, Pt b 0, I n] G (StepP (tys vs) (stepV (tys vs) k v n)) := by
 have hu := h.sl.one
 obtain ⟨ua, uc, rfl⟩ := h.sl.sl
 cases hr with
 | leaf w x k tx b h1 h2 =>
  have hn82 : ¬ tx = [82] := by
   rcases h2 with ⟨_, _, rfl, h⟩ | ⟨_, _, rfl⟩ | ⟨_, _, rfl, h⟩
   ·rintro rfl; exact absurd (h 82 (by simp)) dC
   ·simp
   ·rcases h with rfl | rfl <;> decide
  have hn85 : ¬ tx = [85] := by
   rcases h2 with ⟨_, _, rfl, h⟩ | ⟨_, _, rfl⟩ | ⟨_, _, rfl, h⟩
   ·rintro rfl; exact absurd (h 85 (by simp)) dC
   ·simp
   ·rcases h with rfl | rfl <;> decide
  have hno : stepV (tys vs) k (.nd w x 0 []) n = none := by
   rcases h2 with ⟨_, rfl, _⟩ | ⟨_, rfl, _⟩ | ⟨_, rfl, _⟩
   all_goals exact stepV_plain dC dC dC
  rw [hno]
  rcases h2 with ⟨rfl, rfl, _⟩ | ⟨rfl, rfl, _⟩ | ⟨rfl, rfl, _⟩
  all_goals
   refine jB [(0, _), (1, _), (2, _)] Tryz.func82 Tryz.ntmps82 fun B hok hB hW => ?_
   repeat' (first | (refine jX ?_) | (refine jo ?_; first | refine jV (g_ldS rfl rfl aS rfl rfl) ?_ | (refine jAf rfl ?_)) | (refine k_gf rfl rfl (by first | rfl | (refine decide_eq_false ?_; (assumption))) ?_) | (refine k_ff rfl rfl ?_))
   all_goals refine jZ (vs := [_, _]) rfl ⟨rfl, rfl, trivial⟩ rfl ⟨Gh.le.refl _, rfl, ?_⟩
   all_goals exact .inl ⟨rfl, _, rfl⟩
 | lst k b ks bs a c h1 h2 h3 hk =>
  have hk0 : bt (91 :: k) (Int.toNat 0) = 91 := bt_zero 91 k
  have hkl2 : (91 :: k).length = k.length + 1 := rfl
  have hst := stepV_kid (ts := tys vs) (c := 91) (r := k) (v := .nd 91 [] 0 ks) (n := n) (.inl rfl)
  rw [V.kids] at hst
  rw [hst]
  by_cases hn2 : n < ((ks.length : Nat) : Int)
  ·obtain ⟨i, rfl⟩ : ∃ i : Nat, n = i := ⟨n.toNat, oM⟩
   obtain ⟨kb, ko, kc, e, hs⟩ := h2.expl oM
   simp only [Value.slice.injEq] at e
   obtain ⟨rfl, -, rfl⟩ := e
   have hxi : nth bs i = nth bs i := rfl
   rw [if_pos hn2]
   refine jB [(0, _), (1, _), (2, _)] Tryz.func82 Tryz.ntmps82 fun B hok hB hW => ?_
   repeat' (first | refine jM ?_ | (refine jo ?_; first | refine jV (g_ldS rfl rfl aS rfl rfl) ?_ | (refine jV (g_ldR1x rfl rfl aS ?_ aS rfl) ?_; (focus ((omega); done))) | (refine jAt rfl ?_) | refine jV (g_lenL rfl) ?_ | (refine jV (g_iaddrN rfl rfl oM) ?_)) | (refine k_gt rfl rfl rfl ?_) | (refine k_tt rfl rfl ?_) | (refine k_ff rfl (dFf oM) ?_))
   all_goals refine jZ (vs := [_, _]) rfl ⟨rfl, rfl, trivial⟩ rfl ⟨Gh.le.refl _, rfl, ?_⟩
   all_goals exact .inr ⟨_, _, nth bs i, rfl, rfl, hk i oM⟩
  ·rw [if_neg hn2]
   refine jB [(0, _), (1, _), (2, _)] Tryz.func82 Tryz.ntmps82 fun B hok hB hW => ?_
   repeat' (first | refine jM ?_ | (refine jo ?_; first | refine jV (g_ldS rfl rfl aS rfl rfl) ?_ | (refine jAt rfl ?_) | refine jV (g_lenL rfl) ?_) | (refine k_gt rfl rfl rfl ?_) | (refine k_tt rfl (by first | rfl | (refine decide_eq_true ?_; (omega))) ?_))
   all_goals refine jZ (vs := [_, _]) rfl ⟨rfl, rfl, trivial⟩ rfl ⟨Gh.le.refl _, rfl, ?_⟩
   all_goals exact .inl ⟨rfl, _, rfl⟩
 | non k b h1 =>
  have hk0 : bt (63 :: k) (Int.toNat 0) = 63 := bt_zero 63 k
  have hkl2 : (63 :: k).length = k.length + 1 := rfl
  have hst := stepV_kid (ts := tys vs) (c := 63) (r := k) (v := .nd 63 [] 0 []) (n := n) (.inr rfl)
  rw [V.kids, if_neg (by simp; omega)] at hst
  rw [hst]
  refine jB [(0, _), (1, _), (2, _)] Tryz.func82 Tryz.ntmps82 fun B hok hB hW => ?_
  repeat' (first | refine jM ?_ | (refine jo ?_; first | refine jV (g_ldS rfl rfl aS rfl rfl) ?_ | (refine jAf rfl ?_) | refine jV (g_lenL rfl) ?_) | (refine k_gf rfl rfl rfl ?_) | (refine k_tt rfl (by first | rfl | (refine decide_eq_true ?_; (omega))) ?_))
  all_goals refine jZ (vs := [_, _]) rfl ⟨rfl, rfl, trivial⟩ rfl ⟨Gh.le.refl _, rfl, ?_⟩
  all_goals exact .inl ⟨rfl, _, rfl⟩
 | opt k b kb b' cc w h0 h1 h2 h3 =>
  have hk0 : bt (63 :: k) (Int.toNat 0) = 63 := bt_zero 63 k
  have hkl2 : (63 :: k).length = k.length + 1 := rfl
  have hst := stepV_kid (ts := tys vs) (c := 63) (r := k) (v := .nd 63 [] 0 [w]) (n := n) (.inr rfl)
  rw [V.kids] at hst
  rw [hst]
  by_cases hn2 : n = 0
  ·subst hn2
   rw [if_pos (by simp)]
   refine jB [(0, _), (1, _), (2, _)] Tryz.func82 Tryz.ntmps82 fun B hok hB hW => ?_
   repeat' (first | refine jM ?_ | (refine jo ?_; first | refine jV (g_ldS rfl rfl aS rfl rfl) ?_ | (refine jAf rfl ?_) | refine jV (g_lenL rfl) ?_ | (refine jV (g_iaddr rfl rfl oM) ?_)) | (refine k_gf rfl rfl rfl ?_) | (refine k_tt rfl rfl ?_) | (refine k_ff rfl rfl ?_))
   all_goals refine jZ (vs := [_, _]) rfl ⟨rfl, rfl, trivial⟩ rfl ⟨Gh.le.refl _, rfl, ?_⟩
   all_goals exact .inr ⟨_, _, b', rfl, rfl, h3⟩
  ·rw [if_neg (by simp; omega)]
   refine jB [(0, _), (1, _), (2, _)] Tryz.func82 Tryz.ntmps82 fun B hok hB hW => ?_
   repeat' (first | refine jM ?_ | (refine jo ?_; first | refine jV (g_ldS rfl rfl aS rfl rfl) ?_ | (refine jAf rfl ?_) | refine jV (g_lenL rfl) ?_) | (refine k_gf rfl rfl rfl ?_) | (refine k_tt rfl (by first | rfl | (refine decide_eq_true ?_; (omega))) ?_))
   all_goals refine jZ (vs := [_, _]) rfl ⟨rfl, rfl, trivial⟩ rfl ⟨Gh.le.refl _, rfl, ?_⟩
   all_goals exact .inl ⟨rfl, _, rfl⟩
 | enm k b tgb t d h0 h1 h2 h3 =>
  have hst := stepV_typ (v := .nd 69 [] d.tag []) (n := n) h0.1
  have hno : stepV (tys vs) k (.nd 69 [] d.tag []) n = none := by
   rw [hst]
   cases fldT t.fields n with
   | none => rfl
   | some f => dsimp only; rw [if_pos h0.2]
  rw [hno]
  obtain ⟨r, rfl⟩ := refT_64 h0.1
  have hk0 : bt (64 :: r) (Int.toNat 0) = 64 := bt_zero 64 r
  have hkl2 : (64 :: r).length = r.length + 1 := rfl
  refine jB [(0, _), (1, _), (2, _)] Tryz.func82 Tryz.ntmps82 fun B hok hB hW => ?_
  repeat' (first | refine jM ?_ | (refine jo ?_; first | refine jV (g_ldS rfl rfl aS rfl rfl) ?_ | (refine jAf rfl ?_)) | (refine k_gf rfl rfl rfl ?_) | (refine k_ff rfl rfl ?_))
  all_goals refine jZ (vs := [_, _]) rfl ⟨rfl, rfl, trivial⟩ rfl ⟨Gh.le.refl _, rfl, ?_⟩
  all_goals exact .inl ⟨rfl, _, rfl⟩
 | uni k b tgb kb b' cc t d w hcc h0 h1 h2 h3 h4 hk =>
  have hst := stepV_typ (v := .nd 85 [] d.tag [w]) (n := n) h0.1
  have hTW := hw.ty _ (refT_mem h0.1)
  have hso := h0.2
  obtain ⟨r, rfl⟩ := refT_64 h0.1
  have hk0 : bt (64 :: r) (Int.toNat 0) = 64 := bt_zero 64 r
  have hkl2 : (64 :: r).length = r.length + 1 := rfl
  by_cases hdn : d.tag = n
  ·have hyes : stepV (tys vs) (64 :: r) (.nd 85 [] d.tag [w]) n = some (d.kind, w) := by
    rw [hst, ← hdn, fldT_mem hTW h1]
    dsimp only
    rw [if_neg oM, if_neg oM, if_pos (show V.tag (.nd 85 [] d.tag [w]) = d.tag from rfl)]; rfl
   rw [hyes]
   refine jB [(0, _), (1, _), (2, _)] Tryz.func82 Tryz.ntmps82 fun B hok hB hW => ?_
   repeat' (first | refine jM ?_ | (refine jo ?_; first | refine jV (g_ldS rfl rfl aS rfl rfl) ?_ | (refine jAt rfl ?_) | (refine jAf rfl ?_)) | (refine k_gt rfl rfl rfl ?_) | (refine k_gf rfl rfl rfl ?_) | (refine k_tt rfl rfl ?_) | (refine k_ff rfl rfl ?_))
   (refine k_any (s_any (id := 6) _ (fun _ h => h) mixed ?_); refine jT 9 [0, 1, 2, 6, 7, 8, 12] (bts 16 4551) ?_; (refine jG (bts 16 4559) 3 rfl (g_ldS rfl rfl aS rfl rfl) ?_); (refine jG (bts 16 4575) 4 rfl (g_iaddr rfl rfl oM) ?_); (refine jG (bts 16 4607) 5 rfl (g_ldS rfl rfl aS rfl rfl) ?_); refine jT 5 [14] (bts 16 20991) ?_; (refine jG (bts 16 21503) 9 rfl (g_ldS rfl rfl aS rfl rfl) ?_); (refine jG (bts 16 22527) 10 rfl (g_iaddr rfl rfl oM) ?_); (refine jG (bts 16 24575) 11 rfl (g_ldS rfl rfl aS rfl rfl) ?_); refine jT 0 [13, 15] (bts 16 65535) ?_; refine jQ ?_)
   all_goals repeat' (refine jR ?_)
   all_goals refine jZ (vs := [_, _]) rfl ⟨rfl, rfl, trivial⟩ rfl ⟨Gh.le.refl _, rfl, ?_⟩
   all_goals (try rw [decide_eq_true hdn])
   all_goals exact .inr ⟨_, _, b', rfl, rfl, hk⟩
  ·have hno : stepV (tys vs) (64 :: r) (.nd 85 [] d.tag [w]) n = none := by
    rw [hst]
    cases fldT t.fields n with
    | none => rfl
    | some f =>
     dsimp only
     rw [if_neg oM, if_neg oM, if_neg (show ¬ V.tag (.nd 85 [] d.tag [w]) = n from hdn)]
   rw [hno]
   refine jB [(0, _), (1, _), (2, _)] Tryz.func82 Tryz.ntmps82 fun B hok hB hW => ?_
   repeat' (first | refine jM ?_ | (refine jo ?_; first | refine jV (g_ldS rfl rfl aS rfl rfl) ?_ | (refine jAt rfl ?_) | (refine jAf rfl ?_)) | (refine k_gt rfl rfl rfl ?_) | (refine k_gf rfl rfl rfl ?_) | (refine k_tt rfl rfl ?_) | (refine k_ff rfl rfl ?_))
   (refine k_any (s_any (id := 6) _ (fun _ h => h) mixed ?_); refine jT 9 [0, 1, 2, 6, 7, 8, 12] (bts 16 4551) ?_; (refine jG (bts 16 4559) 3 rfl (g_ldS rfl rfl aS rfl rfl) ?_); (refine jG (bts 16 4575) 4 rfl (g_iaddr rfl rfl oM) ?_); (refine jG (bts 16 4607) 5 rfl (g_ldS rfl rfl aS rfl rfl) ?_); refine jT 5 [14] (bts 16 20991) ?_; (refine jG (bts 16 21503) 9 rfl (g_ldS rfl rfl aS rfl rfl) ?_); (refine jG (bts 16 22527) 10 rfl (g_iaddr rfl rfl oM) ?_); (refine jG (bts 16 24575) 11 rfl (g_ldS rfl rfl aS rfl rfl) ?_); refine jT 0 [13, 15] (bts 16 65535) ?_; refine jQ ?_)
   all_goals repeat' (refine jR ?_)
   all_goals refine jZ (vs := [_, _]) rfl ⟨rfl, rfl, trivial⟩ rfl ⟨Gh.le.refl _, rfl, ?_⟩
   all_goals (try rw [decide_eq_false hdn])
   all_goals exact .inl ⟨rfl, _, rfl⟩
 | recd k b t fs bs a a2 c c2 h0 h1 h2 h3 h4 h5 hk =>
  have hst := stepV_typ (v := .nd 82 [] 0 (fs.map fldV)) (n := n) h0.1
  have hTW := hw.ty _ (refT_mem h0.1)
  have hso := h0.2
  have hkk := kindOk_kOk (kindIn_ok hki)
  obtain ⟨r, rfl⟩ := refT_64 h0.1
  have hk0 : bt (64 :: r) (Int.toNat 0) = 64 := bt_zero 64 r
  have hkl2 : (64 :: r).length = r.length + 1 := rfl
  have hvl : vs.length ≤ 8 := by have := hw.len; unfold tys at this; simpa using this
  have href := refV_ty vs (64 :: r)
  have cx_rf := c_ref (k := 64 :: r) h oM hkk.1 oM
  rcases hrv : refV vs (64 :: r) with _ | x
  ·rw [hrv, h0.1] at href; cases href
  rw [hrv] at href cx_rf
  have htx : x.2 = t := by rw [h0.1] at href; exact Option.some.inj href
  subst htx
  have hxm := refV_mem hrv
  have hfl := hTW.len
  have cx_rec := c_l4Record (n := n) hu (h.fl x hxm) oM cx_rf hso
  cases hg : fldT x.2.fields n with
  | none =>
   rw [hg] at hst cx_rec
   have hno : stepV (tys vs) (64 :: r) (.nd 82 [] 0 (fs.map fldV)) n = none := hst
   rw [show (fs.map fun p => V.nd 61 [] p.1.tag [p.2]) = fs.map fldV from rfl, hno]
   refine jB [(0, _), (1, _), (2, _)] Tryz.func82 Tryz.ntmps82 fun B hok hB hW => ?_
   repeat' (first | refine jM ?_ | (refine jo ?_; first | refine jV (g_ldS rfl rfl aS rfl rfl) ?_ | (refine jAt rfl ?_) | (refine jAf rfl ?_) | refine jL fun _ => ?_ | refine jC rfl rfl rfl ?_ | (refine c_rt rfl rfl rfl cx_rec rfl ?_)) | (refine k_gt rfl rfl rfl ?_) | (refine k_gf rfl rfl rfl ?_) | (refine k_tt rfl rfl ?_) | (refine k_ff rfl rfl ?_))
   all_goals refine jZ (vs := [_, _]) rfl ⟨rfl, rfl, trivial⟩ rfl ⟨Gh.le.refl _, rfl, ?_⟩
   all_goals exact .inl ⟨rfl, _, rfl⟩
  | some f =>
   rw [hg] at hst cx_rec
   simp only [Option.getD_some, Option.isSome_some] at cx_rec
   have hfm := List.mem_of_find?_eq_some hg
   have hft : f.tag = n := by have := List.find?_some hg; simpa using this
   have hyes : stepV (tys vs) (64 :: r) (.nd 82 [] 0 (fs.map fldV)) n = some (f.kind, getV (tys vs) (.nd 82 [] 0 (fs.map fldV)) f) := by
    rw [hst]; dsimp only; rw [if_neg oM, if_pos hso]
   rw [show (fs.map fun p => V.nd 61 [] p.1.tag [p.2]) = fs.map fldV from rfl, hyes]
   have hfs9 : fs.length ≤ 100000 := by
    have h7 := tots_len (fs.map fldV)
    rw [nd_tot] at htt
    have e1 : (fs.map fldV).length = fs.length := by simp
    have e2 : (fs.map fun p => V.nd 61 [] p.1.tag [p.2]) = fs.map fldV := rfl
    rw [e2] at htt
    omega
   have htn : ∀ i, i < fs.length → nth (fs.map fun p : Fld × V => p.1.tag) i = (nth fs i).1.tag := fun i hi => by rw [nth_eq (by simpa using hi), nth_eq hi]; simp
   have htl : (fs.map fun p : Fld × V => p.1.tag).length = fs.length := by simp
   by_cases hex : ∃ j, j < fs.length ∧ (nth fs j).1.tag = n
   ·obtain ⟨j, hj, hjn, hjf⟩ := first_at hex
    have hget : getV (tys vs) (.nd 82 [] 0 (fs.map fldV)) f = (nth fs j).2 := by
     unfold getV
     rw [V.kids, toldV_at hj (by rw [hjn, hft]) (fun i hi => by rw [hft]; exact hjf i hi)]; rfl
    have hkd : (nth fs j).1 = f := fld_tag hTW (h5 j hj) hfm (by rw [hjn, hft])
    rw [hget]
    have cx_at := c_atY (tg := fs.map fun p : Fld × V => p.1.tag) (n := n) (by rw [h4, htl]) oM (by rw [htl]; exact h1) (by rw [htl]; exact h2) (by rw [htl]; exact h3) (by rw [htl]; exact hj) (by rw [htn j hj]; exact hjn) (fun i hi => by rw [htn i oM]; exact hjf i hi)
    have hrj := hk j hj
    rw [hkd] at hrj
    refine jB [(0, _), (1, _), (2, _)] Tryz.func82 Tryz.ntmps82 fun B hok hB hW => ?_
    repeat' (first | refine jM ?_ | (refine jo ?_; first | refine jV (g_ldS rfl rfl aS rfl rfl) ?_ | (refine jAt rfl ?_) | (refine jAf rfl ?_) | refine jL fun _ => ?_ | refine jC rfl rfl rfl ?_ | (refine c_rt rfl rfl rfl cx_rec rfl ?_) | (refine c_rt rfl rfl rfl cx_at rfl ?_)) | (refine k_gt rfl rfl rfl ?_) | (refine k_gf rfl rfl rfl ?_) | (refine k_tt rfl rfl ?_) | (refine k_ff rfl rfl ?_))
    all_goals refine jZ (vs := [_, _]) rfl ⟨rfl, rfl, trivial⟩ rfl ⟨Gh.le.refl _, rfl, ?_⟩
    all_goals exact .inr ⟨_, _, nth bs j, rfl, rfl, hrj⟩
   ·have hjno : ∀ i, i < fs.length → (nth fs i).1.tag ≠ n := fun i hi e => hex ⟨i, hi, e⟩
    have hget : getV (tys vs) (.nd 82 [] 0 (fs.map fldV)) f = standV (tys vs) f := by
     unfold getV
     rw [V.kids, toldV_no fun i hi => by rw [hft]; exact hjno i hi]; rfl
    rw [hget]
    obtain ⟨g1, g2, g3⟩ := standV_ok hw (refT_mem h0.1) oM hfm
    obtain ⟨g4, g5⟩ := valOf_rd g2
    have hdk : kindIn (tys vs) f.kind = true := kind_in hw (refT_mem h0.1) oM hfm
    have cx_at := c_atN (tg := fs.map fun p : Fld × V => p.1.tag) (n := n) oM (by rw [htl]; exact h1) (by rw [htl]; exact h2) (fun i hi => by rw [htn i oM]; exact hjno i oM)
    have cx_sta := c_standS (f := f) h hw hdk
    have cx_rd := readC_all (u := .slice ua vs.length uc) (vs := vs) hw 12 oM G f.kind (standF (tys vs) f) h hdk oM
    rw [g4] at cx_rd
    refine jB [(0, _), (1, _), (2, _)] Tryz.func82 Tryz.ntmps82 fun B hok hB hW => ?_
    repeat' (first | refine jM ?_ | (refine jo ?_; first | refine jV (g_ldS rfl rfl aS rfl rfl) ?_ | (refine jAt rfl ?_) | (refine jAf rfl ?_) | refine jL fun _ => ?_ | refine jC rfl rfl rfl ?_ | (refine c_rt rfl rfl rfl cx_rec rfl ?_) | (refine c_rt rfl rfl rfl cx_at rfl ?_)) | (refine k_gt rfl rfl rfl ?_) | (refine k_gf rfl rfl rfl ?_) | (refine k_tt rfl rfl ?_) | (refine k_ff rfl rfl ?_))
    (refine k_any (s_any (id := 14) _ (fun _ h => h) mixed ?_); refine jT 12 [0, 2, 5] (bts 15 37) ?_; (refine jG (bts 15 39) 1 rfl (g_bld rfl rfl) ?_); (refine jG (bts 15 47) 3 rfl (g_ldA rfl rfl rfl rfl) ?_); (refine jG (bts 15 111) 6 rfl (g_ld rfl rfl rfl) ?_); refine jA 4 rfl ?_; (refine c_rt rfl rfl rfl cx_sta rfl ?_); refine jS (bts 15 127) ?_; refine jA 7 rfl ?_; (refine c_fns rfl rfl rfl cx_rd rfl ?_; rintro _ G hle ⟨q1, r1, ok1, rfl, hyes, hno⟩; skip); refine jS (bts 15 255) ?_; refine jT 0 [8, 9, 10, 11, 12, 13, 14] (bts 15 32767) ?_; refine jQ ?_)
    all_goals
     cases ok1 with
     | false => cases hno rfl
     | true =>
      obtain ⟨w, wb, rfl, hf, hrep⟩ := hyes rfl
      simp only [Option.some.injEq, Prod.mk.injEq] at hf
      obtain ⟨rfl, rfl⟩ := hf
      repeat' (first | (refine jR ?_) | (refine jo ?_; (refine jAt rfl ?_)) | (refine k_gt rfl rfl rfl ?_))
      all_goals refine jZ (vs := [_, _]) rfl ⟨rfl, rfl, trivial⟩ rfl ⟨hle, rfl, ?_⟩
      all_goals exact .inr ⟨_, _, wb, rfl, rfl, hrep⟩
theorem given_some {s k w : List UInt8} {u : V} (hg : givenV s k w = some u) : ∃ ts, schemaOf s = some ts ∧ kindIn ts k = true ∧ valOf ts k w = some u ∧ u.tot ≤ 40000 ∧ u.wf := by
 obtain ⟨ts, hs, hki, hvo⟩ : ∃ ts, schemaOf s = some ts ∧ kindIn ts k = true ∧ valOf ts k w = some u := by
  unfold givenV at hg
  cases hs : schemaOf s with
  | none => rw [hs] at hg; cases hg
  | some ts =>
   rw [hs] at hg
   dsimp only at hg
   by_cases hk : kindIn ts k = true
   ·rw [if_pos hk] at hg; exact ⟨ts, rfl, hk, hg⟩
   ·rw [if_neg hk] at hg; cases hg
 refine ⟨ts, hs, hki, hvo, ?_, (valOf_wf hvo).1⟩
 unfold valOf at hvo
 split at hvo
 ·split at hvo
  ·rename_i v hv
   obtain rfl := Option.some.inj hvo
   have := rd_tot _ _ _ _ hv
   dsimp only at this; omega
  ·cases hvo
 ·cases hvo
theorem standV_tot {ts : List Ty} (hw : SchW ts) {t : Ty} (ht : t ∈ ts) (hs : t.sort ≠ 69) {d : Fld} (hd : d ∈ t.fields) : (standV ts d).tot ≤ 40000 := by
 obtain ⟨g4, g5⟩ := valOf_rd (standV_ok hw ht hs hd).2.1
 have := rd_tot _ _ _ _ g4
 dsimp only at this
 simp only [List.length_nil] at this
 omega
theorem stepV_tot {ts : List Ty} (hw : SchW ts) {k : List UInt8} {v : V} (h : OfK ts k v) (hk : kindIn ts k = true) {n : Int} (hn : 0 ≤ n) {k' : List UInt8} {v' : V} (e : stepV ts k v n = some (k', v')) {N : Nat} (hv : v.tot ≤ N) (hN : 40000 ≤ N) : v'.tot ≤ N := by
 obtain ⟨c, r, rfl⟩ := kind_ne hk
 unfold stepV at e
 dsimp only at e
 split at e
 ·rename_i hc
  split at e
  ·rename_i hlt
   simp only [Option.some.injEq, Prod.mk.injEq] at e
   obtain ⟨rfl, rfl⟩ := e
   have h1 := tot_nth (ks := v.kids) (i := n.toNat) oM
   obtain ⟨w, x, t, ks⟩ := v
   rw [nd_tot] at hv
   rw [V.kids] at h1 ⊢
   omega
  ·cases e
 ·split at e
  ·cases e
  ·rename_i t hr
   have ht := refT_mem hr
   split at e
   ·cases e
   ·rename_i f hf
    have hfm := List.mem_of_find?_eq_some hf
    split at e
    ·cases e
    ·rename_i h69
     split at e
     ·rename_i h82
      simp only [Option.some.injEq, Prod.mk.injEq] at e
      obtain ⟨rfl, rfl⟩ := e
      rcases ofK_inv_t h hr with ⟨_, fs, rfl, g3, g4, _, _⟩ | ⟨h1, _⟩ | ⟨h1, _⟩
      ·unfold getV
       rw [V.kids]
       cases hto : toldV f (fs.map fldV) with
       | none =>
        have := standV_tot hw ht h69 hfm
        show (standV ts f).tot ≤ N
        omega
       | some u =>
        obtain ⟨_, p, hp, _, rfl⟩ := toldV_of (hw.ty t ht) hfm (fun p hp => ⟨g3 p hp, g4 p hp⟩) hto
        have h2 := tots_mem (List.mem_map_of_mem (f := fldV) hp)
        rw [nd_tot] at hv
        simp only [fldV, nd_tot, V.tots] at h2
        show p.2.tot ≤ N
        omega
      ·omega
      ·omega
     ·rename_i h82
      split at e
      ·simp only [Option.some.injEq, Prod.mk.injEq] at e
       obtain ⟨rfl, rfl⟩ := e
       rcases ofK_inv_t h hr with ⟨h1, _⟩ | ⟨h1, _⟩ | ⟨_, _, d, u, rfl, g4, g5⟩
       ·omega
       ·omega
       ·simp only [nd_tot, V.tots] at hv
        show u.tot ≤ N
        omega
      ·cases e
theorem followV_tot {ts : List Ty} (hw : SchW ts) : ∀ {p : List Int} {k : List UInt8} {v : V} {k' : List UInt8} {v' : V}, OfK ts k v → kindIn ts k = true → (∀ n ∈ p, 0 ≤ n) → followV ts k v p = some (k', v') → ∀ {N : Nat}, v.tot ≤ N → 40000 ≤ N → v'.tot ≤ N
 | [], k, v, k', v', h, hk, _, e, N, hv, hN => by
  simp only [followV, Option.some.injEq, Prod.mk.injEq] at e
  obtain ⟨rfl, rfl⟩ := e
  exact hv
 | n :: p, k, v, k', v', h, hk, hp, e, N, hv, hN => by
  unfold followV at e
  cases hs : stepV ts k v n with
  | none => rw [hs] at e; cases e
  | some x =>
   rw [hs] at e
   obtain ⟨k1, v1⟩ := x
   obtain ⟨h1, h2⟩ := stepV_ok hw h hk (hp n (by simp)) hs
   exact followV_tot hw h1 h2 (fun m hm => hp m (by simp [hm])) e (stepV_tot hw h hk (hp n (by simp)) hs hv hN) hN
theorem followV_drop {ts : List Ty} {p : List Int} {i : Nat} (hi : i < p.length) {k : List UInt8} {v : V} : followV ts k v (p.drop i) = match stepV ts k v (nth p i) with
  | none => none
  | some (k', v') => followV ts k' v' (p.drop (i + 1)) := by
 rw [List.drop_eq_getElem_cons hi, nth_eq hi, followV]
 all_goals (cases stepV ts k v p[i] <;> rfl)
theorem repR_seg {ts : List Ty} {v : V} {k : List UInt8} {b : Nat} (h : RepR G ts v k b) : ∃ x y z, Seg G b 0 [S k, x, y, z] := by
 cases h with
 | leaf w x k tx b h1 h2 => exact ⟨_, _, _, h1⟩
 | lst k b ks bs a c h1 h2 h3 hk => exact ⟨_, _, _, h1⟩
 | non k b h1 => exact ⟨_, _, _, h1⟩
 | opt k b kb b' cc w h0 h1 h2 h3 => exact ⟨_, _, _, h1⟩
 | recd k b t fs bs a a2 c c2 h0 h1 h2 h3 h4 h5 hk => exact ⟨_, _, _, h1⟩
 | enm k b tgb t d h0 h1 h2 h3 => exact ⟨_, _, _, h2⟩
 | uni k b tgb kb b' cc t d w hcc h0 h1 h2 h3 h4 hk => exact ⟨_, _, _, h2⟩
theorem c_walkS {u : Value} {vs : List TyX} (h : SchR G u vs) (hw : SchW (tys vs)) {p : List Int} {pv : Value} (hp : SlV G pv 1 p.length (rows inR p)) (hpn : ∀ n ∈ p, 0 ≤ n ∧ n ≤ 999999) (hpl : p.length ≤ 1000) {k : List UInt8} {v : V} {b : Nat} (hr : RepR G (tys vs) v k b) (ho : OfK (tys vs) k v) (hki : kindIn (tys vs) k = true) (htt : v.tot ≤ 1000000) :
  FnS Tryz.prog 39 [u, Pt b 0, pv] G (StepP (tys vs) (followV (tys vs) k v p)) := by
 have hu := h.sl.one
 obtain ⟨pa, pc, rfl⟩ := hp.sl
 refine jB [(0, _), (1, _), (2, _)] Tryz.func39 Tryz.ntmps39 fun B hok hB hW => ?_
 repeat' (refine jR ?_)
 refine k_loop (ι := List UInt8 × V × Nat × Nat × Gh) (fun j => ((RepR j.2.2.2.2 (tys vs) j.2.1 j.1 j.2.2.1 ∧ OfK (tys vs) j.1 j.2.1) ∧ (kindIn (tys vs) j.1 = true ∧ j.2.1.tot ≤ 1000000)) ∧ (Gh.le G j.2.2.2.2 ∧ j.2.2.2.1 ≤ p.length) ∧ followV (tys vs) k v p = followV (tys vs) j.1 j.2.1 (p.drop j.2.2.2.1)) (fun j => [(0, u), (1, Pt j.2.2.1 0), (2, .slice pa p.length pc), (8, I j.2.2.2.1)]) (fun j => j.2.2.2.2) (fun j => []) (fun j => p.length - j.2.2.2.1) (k, v, b, 0, G) ?_ tU rfl sRr (fun j Hj => ?_)
 ·exact ⟨⟨⟨hr, ho⟩, hki, htt⟩, ⟨Gh.le.refl _, Nat.zero_le _⟩, rfl⟩
 obtain ⟨k0, v0, b0, i, Gq⟩ := j
 dsimp only at Hj ⊢
 obtain ⟨⟨⟨hr0, ho0⟩, hk0, ht0⟩, ⟨hgq, hi0⟩, he⟩ := Hj
 by_cases hi : i < p.length
 ·obtain ⟨xb, xo, xc, e, hs1⟩ := (hp.mono hgq).expl oM
  simp only [Value.slice.injEq] at e
  obtain ⟨rfl, -, rfl⟩ := e
  have hni := hpn _ (nth_mem hi)
  have hti : nth p i = nth p i := rfl
  have hstp := c_stepS (h.mono hgq) hw hr0 ho0 hk0 hni ht0
  rw [followV_drop hi] at he
  cases hsv : stepV (tys vs) k0 v0 (nth p i) with
  | none =>
   have cx_stn := StepP.no hstp hsv
   rw [hsv] at he
   repeat' (first | (refine jR ?_) | (refine jo ?_; first | refine jV (g_lenL rfl) ?_ | (refine jV (g_iaddrN rfl rfl oM) ?_) | (refine jV (g_ldR1x rfl rfl aS ?_ aS rfl) ?_; (focus ((omega); done))) | (refine c_fns rfl rfl rfl cx_stn rfl ?_; rintro _ G hle ⟨q1, rfl⟩; skip)) | (refine k_tt rfl (by first | rfl | (refine decide_eq_true ?_; (omega))) ?_))
   all_goals refine jZ (vs := [_, _]) rfl ⟨rfl, rfl, trivial⟩ rfl ⟨hgq.trans hle, rfl, ?_⟩
   all_goals exact .inl ⟨he, _, rfl⟩
  | some y =>
   obtain ⟨k1, v1⟩ := y
   have cx_sty := StepP.yes hstp hsv
   rw [hsv] at he
   obtain ⟨g1, g2⟩ := stepV_ok hw ho0 hk0 hni.1 hsv
   have g3 := stepV_tot hw ho0 hk0 hni.1 hsv ht0 oM
   repeat' (first | refine jM ?_ | (refine jo ?_; first | refine jV (g_lenL rfl) ?_ | (refine jV (g_iaddrN rfl rfl oM) ?_) | (refine jV (g_ldR1x rfl rfl aS ?_ aS rfl) ?_; (focus ((omega); done))) | (refine c_fns rfl rfl rfl cx_sty rfl ?_; rintro _ G hle ⟨b1, rfl, hrep1⟩; skip)) | (refine k_tt rfl (dTt oM) ?_) | (refine k_ff rfl rfl ?_))
   exact k_rd (k1, v1, b1, i + 1, G) ⟨⟨⟨hrep1, g1⟩, g2, g3⟩, ⟨hgq.trans hle, by dsimp only; omega⟩, he⟩ (by dsimp only; omega) tU rfl sRr
 ·have hd : p.drop i = [] := List.drop_eq_nil_of_le oM
  rw [hd] at he
  repeat' (first | (refine jR ?_) | (refine jo ?_; (refine jV (g_lenL rfl) ?_)) | (refine k_ff rfl (dFf oM) ?_))
  all_goals refine jZ (vs := [_, _]) rfl ⟨rfl, rfl, trivial⟩ rfl ⟨hgq, rfl, ?_⟩
  all_goals exact .inr ⟨_, _, b0, he, rfl, hr0⟩
theorem c_l4OfX {s k w : List UInt8} {v : V} {ts : List Ty} (h : s.length ≤ 1048576 ∧ k.length ≤ 1048576 ∧ w.length ≤ 1048576) (hs : schemaOf s = some ts) (hki : kindIn ts k = true) (hvo : valOf ts k w = some v) :
  FnS Tryz.prog 31 [S s, S k, S w] G (fun r G' => ∃ a c vs b, r = Tu [.slice a vs.length c, Pt b 0, Bo true] ∧ SchR G' (.slice a vs.length c) vs ∧ tys vs = ts ∧ RepR G' ts v k b) := by
 have hw := schemaOf_w hs
 have hk : kindS s k = true := by unfold kindS; rw [hs]; exact hki
 obtain ⟨h12, hl⟩ := valOf_rd hvo
 have cx_lka : ∀ G, FnS Tryz.prog 19 [S s, S k] G (fun v G' => ∃ a c vs, v = Tu [.slice a vs.length c, Bo true] ∧ SchR G' (.slice a vs.length c) vs ∧ tys vs = ts) := fun G => by
  refine (c_l3Kind (G := G) (s := s) (k := k) oM oM).mono ?_
  rintro v G' L' ⟨h1, h2, u, vs, rfl, h4, _, h6⟩
  obtain ⟨_, ⟨rfl, h0⟩ | ⟨b, o, cap, rfl, _, _⟩⟩ := h4.sl
  ·exact ⟨h1, h2, none, 0, vs, by rw [hk, h0], by rw [h0]; exact h4, h6 ts hs hki⟩
  ·exact ⟨h1, h2, _, cap, vs, by rw [hk], h4, h6 ts hs hki⟩
 refine jB [(0, _), (1, _), (2, _)] Tryz.func31 Tryz.ntmps31 fun B hok hB hW => ?_
 repeat' (first | (refine jR ?_) | (refine jo ?_; first | (refine jAf rfl ?_) | refine jV (g_bld rfl rfl) ?_ | (refine c_fns rfl rfl rfl (cx_lka _) rfl ?_; rintro _ G hle ⟨av1, cv1, vs1, rfl, hR1, hT1⟩; skip)) | (refine k_gf rfl rfl rfl ?_) | (refine k_ff rfl (dFf oM) ?_))
 subst hT1
 have cx_rd : FnS Tryz.prog 50 [Ag [.slice av1 vs1.length cv1], S w, S k, I (12 : Nat)] G (fun r G' => ∃ b, r = Tu [Pt b 0, S [], Bo true] ∧ RepR G' (tys vs1) v k b) := by
  refine (readC_all (u := .slice av1 vs1.length cv1) (vs := vs1) hw 12 oM G k w hR1 hki oM).mono ?_
  rintro r G' L' ⟨h1, h2, q, rest, ok, rfl, h3, h4⟩
  cases ok with
  | false => rw [h12] at h4; cases h4 rfl
  | true =>
   obtain ⟨v', b, rfl, h5, h6⟩ := h3 rfl
   rw [h12] at h5
   simp only [Option.some.injEq, Prod.mk.injEq] at h5
   obtain ⟨rfl, rfl⟩ := h5
   exact ⟨h1, h2, b, rfl, h6⟩
 refine jo ?_
 refine c_fns rfl rfl rfl cx_rd rfl ?_
 rintro _ G2 hle2 ⟨b, rfl, hrep⟩
 repeat' (first | (refine jR ?_) | (refine jo ?_; (refine jAt rfl ?_)) | (refine k_gt rfl rfl rfl ?_))
 refine jZ (vs := [_, _, _]) rfl ⟨rfl, rfl, rfl, trivial⟩ rfl ⟨(Gh.le.trans hle hle2), rfl, ?_⟩
 exact ⟨_, _, _, b, rfl, hR1.mono hle2, rfl, hrep⟩
def pathGetV (s k w p : List UInt8) : Option (List UInt8 × List UInt8) := match schemaOf s, givenV s k w, pathOf p with
 | some ts, some u, some q => (followV ts k u q).map fun x => (x.1, x.2.out)
 | _, _, _ => none
theorem pgv_none {s k : List UInt8} {o : Option (List Int)} : (match schemaOf s, (none : Option V), o with
 | some ts, some u, some q => (followV ts k u q).map fun x => (x.1, x.2.out)
 | _, _, _ => none) = none := by cases schemaOf s <;> rfl
def pgR (o : Option (List UInt8 × List UInt8)) : Value := Tu [S ((o.map (·.1)).getD []), S ((o.map (·.2)).getD []), Bo o.isSome]
theorem steps_no {s : List UInt8} (h : s.length ≤ 1048576) (hp : pathOf s = none) : ∀ G, FnS Tryz.prog 38 [S s] G (fun v _ => ∃ a c n, v = Tu [.slice a n c, Bo false] ∧ True) := fun G => by
 refine (c_stepsS (G := G) h).mono ?_
 rintro v G' L' ⟨h1, h2, a, c, n, rfl, _⟩
 exact ⟨h1, h2, a, c, n, by rw [hp]; rfl, trivial⟩
theorem steps_yes {s : List UInt8} {p : List Int} (h : s.length ≤ 1048576) (hp : pathOf s = some p) : ∀ G, FnS Tryz.prog 38 [S s] G (fun v G' => ∃ a c n, v = Tu [.slice a n c, Bo true] ∧ n = p.length ∧ SlV G' (.slice a n c) 1 p.length (rows inR p)) := fun G => by
 refine (c_stepsS (G := G) h).mono ?_
 rintro v G' L' ⟨h1, h2, a, c, n, rfl, h3⟩
 exact ⟨h1, h2, a, c, n, by rw [hp]; rfl, h3 p hp⟩
theorem pathOf_le {s : List UInt8} {p : List Int} (h : pathOf s = some p) : p.length ≤ 8 ∧ ∀ n ∈ p, 0 ≤ n ∧ n ≤ 999999 := by
 unfold pathOf at h
 split at h
 ·simp only [Option.some.injEq] at h; subst h; simp
 ·split at h
  ·rename_i q hq
   split at h
   ·rename_i h8
    simp only [Option.some.injEq] at h; subst h
    exact ⟨h8, (stepsOf_len hq).2⟩
   ·cases h
  ·cases h
theorem c_PathGetS {s k w p : List UInt8} (h1 : s.length ≤ 1048576 ∧ k.length ≤ 1048576 ∧ w.length ≤ 1048576 ∧ p.length ≤ 1048576) : PuG Tryz.prog 16 [S s, S k, S w, S p] G (· = pgR (pathGetV s k w p)) := by
 unfold pathGetV
 cases hg : givenV s k w with
 | none =>
  rw [pgv_none]
  have cx_la0 := fun G => c_l4Of0 (G := G) (s := s) (k := k) (w := w) oM hg
  cases hpo : pathOf p with
  | none =>
   have cx_sp := steps_no h1.2.2.2 hpo
   refine jB (Post := fun v G' L' => G' = G ∧ L' = [] ∧ _) [(0, _), (1, _), (2, _), (3, _)] Tryz.func16 Tryz.ntmps16 fun B hok hB hW => ?_
   repeat' (first | (refine jR ?_) | (refine jo ?_; first | (refine jAt rfl ?_) | (refine c_fns rfl rfl rfl (cx_la0 _) rfl ?_; rintro _ G hle ⟨ua, qa, rfl⟩; skip) | (refine c_fns rfl rfl rfl (cx_sp _) rfl ?_; rintro _ G hle ⟨sa, sc, sn, rfl, hsp⟩; skip)) | (refine k_gt rfl rfl rfl ?_) | (refine k_tt rfl rfl ?_))
   all_goals refine Nx.base hok hB ?_
   all_goals refine jY (vs := [_, _, _]) ?_
   all_goals rfl
  | some q =>
   have cx_sp := steps_yes h1.2.2.2 hpo
   refine jB (Post := fun v G' L' => G' = G ∧ L' = [] ∧ _) [(0, _), (1, _), (2, _), (3, _)] Tryz.func16 Tryz.ntmps16 fun B hok hB hW => ?_
   repeat' (first | (refine jR ?_) | (refine jo ?_; first | (refine jAt rfl ?_) | (refine c_fns rfl rfl rfl (cx_la0 _) rfl ?_; rintro _ G hle ⟨ua, qa, rfl⟩; skip) | (refine c_fns rfl rfl rfl (cx_sp _) rfl ?_; rintro _ G hle ⟨sa, sc, sn, rfl, hsp⟩; skip)) | (refine k_gt rfl rfl rfl ?_) | (refine k_tt rfl rfl ?_))
   all_goals refine Nx.base hok hB ?_
   all_goals refine jY (vs := [_, _, _]) ?_
   all_goals rfl
 | some u =>
  obtain ⟨ts, hs, hki, hvo, hto, hwf⟩ := given_some hg
  have cx_l4x := c_l4OfX (G := G) (s := s) (k := k) (w := w) oM hs hki hvo
  rw [hs]
  cases hpo : pathOf p with
  | none =>
   have cx_sp := steps_no h1.2.2.2 hpo
   refine jB (Post := fun v G' L' => G' = G ∧ L' = [] ∧ _) [(0, _), (1, _), (2, _), (3, _)] Tryz.func16 Tryz.ntmps16 fun B hok hB hW => ?_
   repeat' (first | (refine jR ?_) | (refine jo ?_; first | (refine jAf rfl ?_) | (refine c_fns rfl rfl rfl cx_l4x rfl ?_; rintro _ G hle ⟨av1, cv1, vs1, b1, rfl, hR1, hT1, hrep⟩; skip) | (refine c_fns rfl rfl rfl (cx_sp _) rfl ?_; rintro _ G hle ⟨sa, sc, sn, rfl, hsp⟩; skip)) | (refine k_gf rfl rfl rfl ?_) | (refine k_tt rfl rfl ?_))
   all_goals refine Nx.base hok hB ?_
   all_goals refine jY (vs := [_, _, _]) ?_
   all_goals rfl
  | some q =>
   have cx_sp := steps_yes h1.2.2.2 hpo
   obtain ⟨hq8, hqn⟩ := pathOf_le hpo
   have hof := valOf_of_k hvo
   have hw := schemaOf_w hs
   dsimp only
   refine jB (Post := fun v G' L' => G' = G ∧ L' = [] ∧ _) [(0, _), (1, _), (2, _), (3, _)] Tryz.func16 Tryz.ntmps16 fun B hok hB hW => ?_
   repeat' (first | (refine jR ?_) | (refine jo ?_; first | (refine jAf rfl ?_) | (refine c_fns rfl rfl rfl cx_l4x rfl ?_; rintro _ G hle ⟨av1, cv1, vs1, b1, rfl, hR1, hT1, hrep⟩; (try have hrep := RepR.mono hle hrep); (try have hR1 := SchR.mono hR1 hle)) | (refine c_fns rfl rfl rfl (cx_sp _) rfl ?_; rintro _ G hle ⟨sa, sc, sn, rfl, hsp⟩; (try have hrep := RepR.mono hle hrep); (try have hR1 := SchR.mono hR1 hle))) | (refine k_gf rfl rfl rfl ?_) | (refine k_ff rfl rfl ?_))
   obtain ⟨rfl, hsp⟩ := hsp
   subst hT1
   have hwk := c_walkS hR1 hw hsp hqn oM hrep hof hki oM
   cases hfo : followV (tys vs1) k u q with
   | none =>
    have cx_wan := StepP.no hwk hfo
    repeat' (first | (refine jR ?_) | (refine jo ?_; (refine c_fns rfl rfl rfl cx_wan rfl ?_; rintro _ G hle ⟨q1, rfl⟩; (try have hrep := RepR.mono hle hrep); (try have hR1 := SchR.mono hR1 hle))) | (refine k_tt rfl rfl ?_))
    all_goals refine Nx.base hok hB ?_
    all_goals refine jY (vs := [_, _, _]) ?_
    all_goals rfl
   | some y =>
    obtain ⟨k1, v1⟩ := y
    have cx_way := StepP.yes hwk hfo
    have g3 := followV_tot hw hof hki (fun n hn => (hqn n hn).1) hfo (N := 1000000) oM oM
    repeat' (first | (refine jR ?_) | (refine jo ?_; (refine c_fns rfl rfl rfl cx_way rfl ?_; rintro _ G hle ⟨b1, rfl, hrep1⟩; (try have hrep := RepR.mono hle hrep); (try have hR1 := SchR.mono hR1 hle))) | (refine k_ff rfl rfl ?_))
    have cx_out := c_outS hw hrep1 oM
    obtain ⟨q1, q2, q3, hsg1⟩ := repR_seg hrep1
    repeat' (first | (refine jR ?_) | (refine k_any (s_any (id := 8) _ (fun _ h => h) mixed ?_); refine jT 5 [0, 1, 2, 4] (bts 9 23) ?_; (refine jG (bts 9 31) 3 rfl (g_ldS rfl rfl aS rfl rfl) ?_); refine jA 5 rfl ?_; (refine c_rt rfl rfl rfl cx_out rfl ?_); refine jS (bts 9 63) ?_; refine jT 0 [6, 7, 8] (bts 9 511) ?_; refine jQ ?_))
    all_goals refine Nx.base hok hB ?_
    all_goals refine jY (vs := [_, _, _]) ?_
    all_goals rfl
abbrev tRdr : TypeId := 115
theorem c_l6Open {v : Value} {l : List UInt8} (h : SlV G v 1 l.length (u8s l)) : FnG Tryz.prog 27 [v] G [] (fun v L' => ∃ b code l', v = Pt b 0 ∧ L' = [rdO b code 0 tRdr] ∧ SlV G code 1 l'.length (u8s l') ∧ l'.length ≤ 2000) := by
 obtain ⟨h1, ⟨rfl, h2⟩ | ⟨c, o, cap, rfl, h2, h3⟩⟩ := id h
 ·refine jH [(0, _)] Tryz.func27 Tryz.ntmps27 fun B hB hW => ?_
  repeat' (first | (refine jR ?_) | (refine jo ?_; first | refine jV (g_lenL rfl) ?_ | refine jV (g_bld rfl rfl) ?_ | refine jO fun _ => ?_) | (refine k_ff rfl rfl ?_))
  refine k_rr (vs := [_]) rfl ⟨rfl, trivial⟩ rfl (List.Sublist.refl _) ⟨rfl, _, _, [], rfl, rfl, ⟨by simp [u8s], .inl ⟨rfl, rfl⟩⟩, by simp⟩
 ·refine jH [(0, _)] Tryz.func27 Tryz.ntmps27 fun B hB hW => ?_
  repeat' (first | (refine jR ?_) | (refine jo ?_; first | refine jV (g_lenL rfl) ?_ | (refine jV (g_slTo rfl rfl oM) ?_) | refine jV (g_bld rfl rfl) ?_ | refine jO fun _ => ?_) | refine k_if rfl (fun _ => ?_) (fun _ => ?_))
  ·refine k_rr (vs := [_]) rfl ⟨rfl, trivial⟩ rfl (List.Sublist.refl _) ⟨rfl, _, _, l.take 2000, rfl, rfl, ?_, by simp; omega⟩
   have e : (l.take 2000).length = 2000 := by simp; omega
   rw [e]
   refine ⟨by simp [u8s]; omega, .inr ⟨c, o, cap, rfl, oM, ?_⟩⟩
   have := h3.take 2000
   simpa [u8s] using this
  ·exact k_rr (vs := [_]) rfl ⟨rfl, trivial⟩ rfl (List.Sublist.refl _) ⟨rfl, _, _, l, rfl, rfl, h, oM⟩
theorem c_pick {b : Nat} {code : Value} {p n : Int} {l : List UInt8} (hp : 0 ≤ p ∧ p ≤ 1000000000000 ∧ n ≤ 1000000000000) (hs : SlV G code 1 l.length (u8s l)) :
  FnG Tryz.prog 33 [Pt b 0, I n] G [rdO b code p tRdr] (fun v L' => ∃ k, v = I k ∧ L' = [rdO b code (p + 1) tRdr] ∧ 0 ≤ k ∧ (k < n ∨ k = 0)) := by
 obtain ⟨h1, ⟨rfl, h2⟩ | ⟨c, o, cap, rfl, h2, h3⟩⟩ := id hs
 ·refine jH [(0, _), (1, _)] Tryz.func33 Tryz.ntmps33 fun B hB hW => ?_
  repeat' (first | (refine run (t := tb) 400 rfl ?_ ?_; (focus (repeat' (first | exact trivial | apply And.intro | omega)))) | (refine jo ?_; first | refine jAl rfl ?_ | refine jD rfl rfl rfl ?_ | refine jV (g_lenL rfl) ?_ | (refine jAt rfl ?_) | (refine jAf rfl ?_)) | refine k_g rfl rfl (fun _ => ?_) (fun _ => ?_) | (refine k_tt rfl rfl ?_))
  all_goals exact k_rr (vs := [_]) rfl ⟨rfl, trivial⟩ rfl (List.Sublist.refl _) ⟨rfl, _, rfl, rfl, oM, oM⟩
 ·have b1 := bt_lt l (p + 1 - 1).toNat
  have b2 := bt_lt l ((p + 1 - 1) % (l.length : Int)).toNat
  have b3 := bt_lt l (((p + 1 - 1) * 7 + 3) % (l.length : Int)).toNat
  have e1 := fun h => Int.emod_nonneg (p + 1 - 1) (b := (l.length : Int)) h
  have e2 := fun h => Int.emod_lt_of_pos (p + 1 - 1) (b := (l.length : Int)) h
  have e3 := fun h => Int.emod_nonneg ((p + 1 - 1) * 7 + 3) (b := (l.length : Int)) h
  have e4 := fun h => Int.emod_lt_of_pos ((p + 1 - 1) * 7 + 3) (b := (l.length : Int)) h
  have e5 := fun h => Int.ediv_nonneg (a := p + 1 - 1) (b := (l.length : Int)) h oM
  have e6 := fun h => Int.ediv_le_self (a := p + 1 - 1) (l.length : Int) h
  refine jH [(0, _), (1, _)] Tryz.func33 Tryz.ntmps33 fun B hB hW => ?_
  repeat' (first | (refine run (t := tb) 400 rfl ?_ ?_; (focus (repeat' (first | exact trivial | apply And.intro | omega)))) | (refine jo ?_; first | refine jAl rfl ?_ | (refine jV (g_ldU rfl aS ?_) ?_; (focus ((omega); done))) | refine jD rfl rfl rfl ?_ | refine jV (g_lenL rfl) ?_ | (refine jAt rfl ?_) | (refine jAf rfl ?_) | (refine jV (g_iaddr rfl rfl oM) ?_) | (refine jV (g_xorP rfl rfl oM) ?_)) | refine k_g rfl rfl (fun _ => ?_) (fun _ => ?_) | (refine k_tt rfl rfl ?_) | refine k_if rfl (fun _ => ?_) (fun _ => ?_) | (refine k_any (s_any (id := 7) _ (fun _ h => h) mixed ?_); refine jU 24 [0, 1, 2, 4, 5, 6, 7, 15, 16, 17, 19, 20, 21, 22, 23, 24, 33, 34, 36, 37, 38, 39] (bts 46 1056595214583) ?_ ?_; (focus (repeat' (first | exact trivial | apply And.intro | omega))); (refine jG (bts 46 1056595214591) 3 rfl (g_ld rfl rfl rfl) ?_); (refine jG (bts 46 1056595214847) 8 rfl (g_ld rfl rfl rfl) ?_); (refine jG (bts 46 1056595215359) 9 rfl (g_lenL rfl) ?_); refine jU 20 [10] (bts 46 1056595216383) ?_ ?_; (focus (repeat' (first | exact trivial | apply And.intro | omega))); (refine jG (bts 46 1056595218431) 11 rfl (g_iaddr rfl rfl oM) ?_); ((refine jG (bts 46 1056595222527) 12 rfl (g_ldU rfl aS ?_) ?_; (focus ((omega); done)))); refine jU 16 [13, 14] (bts 46 1056595247103) ?_ ?_; (focus (repeat' (first | exact trivial | apply And.intro | omega))); (refine jG (bts 46 1056595509247) 18 rfl (g_ld rfl rfl rfl) ?_); (refine jG (bts 46 1056629063679) 25 rfl (g_ld rfl rfl rfl) ?_); (refine jG (bts 46 1056696172543) 26 rfl (g_lenL rfl) ?_); refine jU 12 [27] (bts 46 1056830390271) ?_ ?_; (focus (repeat' (first | exact trivial | apply And.intro | omega))); (refine jG (bts 46 1057098825727) 28 rfl (g_iaddr rfl rfl oM) ?_); ((refine jG (bts 46 1057635696639) 29 rfl (g_ldU rfl aS ?_) ?_; (focus ((omega); done)))); refine jU 6 [30, 31, 32, 35] (bts 46 1099511627775) ?_ ?_; (focus (repeat' (first | exact trivial | apply And.intro | omega))); (refine jG (bts 46 2199023255551) 40 rfl (g_ld rfl rfl rfl) ?_); (refine jG (bts 46 4398046511103) 41 rfl (g_lenL rfl) ?_); refine jU 0 [42, 43, 44, 45] (bts 46 70368744177663) ?_ ?_; (focus (repeat' (first | exact trivial | apply And.intro | omega))); refine jQ ?_))
  all_goals (first | exact k_rr (vs := [_]) rfl ⟨rfl, trivial⟩ rfl (List.Sublist.refl _) ⟨rfl, _, rfl, rfl, oM, oM⟩ | exact k_rr (vs := [_]) rfl ⟨rfl, trivial⟩ rfl (List.Sublist.refl _) ⟨rfl, _, rfl, rfl, Int.emod_nonneg _ oM, .inl (Int.emod_lt_of_pos _ oM)⟩ | exact xorI_nn _ _)
end Go.E
